/- Whatever the input, waymarklaw51.GenHangs returns true, and each argument reads as it did. -/
import Derived.Shelf.SlSortCmp.NoneTotal
import Derived.Shelf.SlSortCmp.WholeK
import Derived.Test.YtmcannmjielalaaS12GenHangs
set_option linter.unusedVariables false
set_option linter.unusedSimpArgs false
namespace Go.Proofs.Ytmcannmjielalaa
namespace A
open Go.Sort Go.Shelf Go.Lib Go.RowKit
theorem run_enter {P : Program} {g : FuncId} (hb : HasBody P g) (args : Array Value) (w : World) : (callFunc g args).run P w = .ok (.enter g args) w := by
  obtain ⟨fn, h1, h2, h3⟩ := hb
  have hn' : ¬ fn.name = "runtime.NumGoroutine" := by simpa using h2
  have hb' : ¬ fn.body = none := fun h => by rw [h] at h3; cases h3
  simp [callFunc, h1, hn', hb']
theorem rep_v {F : Nat → Prop} {w : World} {x y : Value} (h : Rep F w (.v x) y) : y = x := by cases h; rfl
theorem heap_sortedK {w : World} {b n : Nat} {os : Array Obj} {cur D : Array Value} {e : TypeId} (hb : w.heap[b]? = some (.cells cur e (0, 0))) :
    (grow (putRow id (Sort.ahead w n) b 0 D) os).heap[b]? = some (.cells (putCells id 0 D cur) e (0, 0)) := by
  have hg : b < w.heap.size := (Array.getElem?_eq_some_iff.1 hb).1
  rw [heap_grow_old _ _ (by simpa using hg)]
  simp [putRow, mapBlock, Sort.ahead, Array.getElem?_modify, hb, onCells]
theorem grownBy_sortedK {w : World} {b n : Nat} {os : Array Obj} (D : Array Value) : w.grownBy (grow (putRow id (Sort.ahead w n) b 0 D) os) (some b) := by
  refine ⟨rfl, rfl, rfl, by simp, fun k hk hne => ?_⟩
  rw [heap_grow_old _ _ (by simpa using hk)]
  have : b ≠ k := fun e => hne (by rw [e])
  simp [putRow, mapBlock, Sort.ahead, Array.getElem?_modify, this]
theorem take_putCellsK (cur D : Array Value) (h : D.size ≤ cur.size) : (putCells id 0 D cur).toList.take D.size = D.toList := by
  apply List.ext_getElem?
  intro j
  by_cases hj : j < D.size
  · rw [List.getElem?_take_of_lt hj, Array.getElem?_toList]
    simp [putCells, hj, show j < cur.size by omega]
  · rw [List.getElem?_take_eq_none (by omega), List.getElem?_eq_none (by simp; omega)]
theorem cmp_lays {α : Type} [Inhabited α] {P : Program} {g : FuncId} {fC : α → List AV} {enc : α → List Value} {k : Nat} {cf : α → α → Int} {b size : Nat} {w : World} (hfe : ∀ x, fC x = (enc x).map .v) (h1 : ∀ x, ∀ v ∈ enc x, v.oneCell' = true)
    (hT : ∀ x y, Triple P g [.agg (fC x), .agg (fC y)] [] (Is (.int (cf x y)) [])) : CmpLays P g #[] enc k cf b 0 size w := by
  intro m os dk hs x y
  have hagg : ∀ z, Rep (fun _ => False) (sortWorldK enc k w b 0 m dk os) (.agg (fC z)) (.agg (enc z).toArray) := fun z => by
    refine .agg _ _ (by rw [hfe]; simp) (fun v hv => h1 z v (by simpa using hv)) (fun j av v hj hv => ?_)
    rw [hfe, List.getElem?_map, Option.map_eq_some_iff] at hj
    obtain ⟨u, hu, rfl⟩ := hj
    have : (enc z)[j]? = some v := by simpa using hv
    rw [hu] at this
    cases this
    exact .v _
  refine ((hT x y).2 (fun _ => False) (sortWorldK enc k w b 0 m dk os) #[.agg (enc x).toArray, .agg (enc y).toArray] ⟨fun x hx => by simp at hx, by simp, fun b hb => by simp at hb, fun b hb => hb.elim⟩ ?_).mono ?_
  · exact reps_cons (vs := [.agg (enc y).toArray]) (hagg x) (reps_cons (vs := []) (hagg y) reps_nil)
  · rintro ex w' ⟨r, v, h', F', rfl, ⟨rfl, rfl⟩, hr, hR, hE⟩
    have := rep_v hr
    subst this
    generalize hW : sortWorldK enc k w b 0 m dk os = W at hE
    refine ⟨rfl, w'.drawn - W.drawn, w'.heap.extract W.heap.size w'.heap.size, ?_⟩
    have hd := hE.dr
    have hh : w'.heap = W.heap ++ w'.heap.extract W.heap.size w'.heap.size := by
      apply Array.ext_getElem?
      intro j
      by_cases hj : j < W.heap.size
      · rw [Array.getElem?_append_left hj]
        exact hE.keep j hj (by simp)
      · rw [Array.getElem?_append_right (by omega), Array.getElem?_extract]
        by_cases hj2 : j < w'.heap.size
        · rw [if_pos (by omega)]
          congr 1
          omega
        · rw [if_neg (by omega), Array.getElem?_eq_none (by omega)]
    obtain ⟨hp, tp, dr, ww, ou⟩ := w'
    obtain ⟨hp0, tp0, dr0, ww0, ou0⟩ := W
    have e1 := hE.os
    have e2 := hE.output
    have e3 := hE.tape
    simp only at e1 e2 e3 hd hh
    subst e1
    subst e2
    subst e3
    simp only [grow, World.drewN, World.mk.injEq, true_and, and_true]
    exact ⟨hh, by omega⟩
theorem mul_add_div {i j k : Nat} (h : j < k) : (i * k + j) / k = i := by
  rw [Nat.mul_comm, Nat.mul_add_div (by omega), Nat.div_eq_of_lt h, Nat.add_zero]
theorem mul_add_mod {i j k : Nat} (h : j < k) : (i * k + j) % k = j := by
  rw [Nat.mul_comm, Nat.mul_add_mod, Nat.mod_eq_of_lt h]
theorem triple_sortFunc {α : Type} [Inhabited α] {P : Program} {ρ : Ren} {f g : FuncId} (L : SlLaysF0.n6 P ρ) (hf : ρ.f 6 = f) (hb : HasBody P f) {k t : Nat} (ht : ρ.t 24 = t) (hty : tyOf P t = some (k, true)) (h0 : 0 < k) {fC : α → List AV} (enc : α → List Value) (hfe : ∀ x, fC x = (enc x).map .v) (hk : ∀ x, (enc x).length = k) (h1 : ∀ x, ∀ v ∈ enc x, v.oneCell' = true)
    (cf : α → α → Int) (hO : SWO (ltOf cf)) (hT : ∀ x y, Triple P g [.agg (fC x), .agg (fC y)] [] (Is (.int (cf x y)) [])) (hg : HasBody P g) (gg : Option Nat) (c e : Nat) (ws : List α) (hz : ws.length < 4611686018427387904) :
    Triple P f [.v (slV gg ws.length c), .fn (.func g) []] [.sl gg c e k (ws.map fC)] (fun r h' => ∃ ts : List α, ts.Perm ws ∧ ts.Pairwise (fun x y => ltOf cf y x = false) ∧ r = .tup [] ∧ h' = [.sl gg c e k (ts.map fC)]) := by
  subst hf
  subst ht
  refine ⟨hb, fun F w vs hR hreps => ?_⟩
  obtain ⟨hv1, hv2⟩ := hreps
  obtain ⟨x, y, rfl⟩ : ∃ x y, vs = #[x, y] := by
    match vs, hv1 with
    | ⟨[x, y]⟩, _ => exact ⟨x, y, rfl⟩
  have hx := hv2 0 _ x rfl rfl
  have hy := hv2 1 _ y rfl rfl
  have hx := rep_v hx
  subst hx
  obtain rfl : y = .func (.func g) #[] #[] := by
    cases hy with
    | fn _ _ cx hcl _ =>
      obtain rfl : cx = #[] := Array.eq_empty_of_size_eq_zero (by simpa using hcl)
      rfl
  have hha := hR.rep _ (List.mem_singleton.2 rfl)
  have hlen : (ws.map fC).length = ws.length := List.length_map _
  have aE : ∀ w, (isAgg (ρ.t 24)).run P w = .ok true w := fun w => run_isAgg hty w
  have zE : ∀ w, (Go.sizeOf (ρ.t 24)).run P w = .ok k w := fun w => run_sizeOf hty w
  match gg with
  | none =>
    have hn : ws = [] := by
      obtain ⟨xs, ho, _⟩ := hha
      rcases ho.2 with ⟨_, h⟩ | ⟨b, _, _, h, _⟩
      · exact List.eq_nil_of_length_eq_zero (by simpa using h)
      · simp [slV] at h
    subst hn
    refine (AnyF.slices_SortFunc_none L none c (.func (.func g) #[] #[]) w).mono ?_
    rintro ex w' ⟨rfl, rfl⟩
    exact ⟨.tup [], .tuple #[], _, F, rfl, ⟨[], .nil, .nil, rfl, rfl⟩, .tup _ _ rfl (fun j av x hj => by simp at hj), hR, .refl _ _ _⟩
  | some b =>
    obtain ⟨cur, hg0, hnc, hcm, hcs, hyz, hrest⟩ := row_of hha
    obtain ⟨xs, hxl, _, hx1, hxc, hxr⟩ := own_cells hha
    rw [hlen] at hxl hnc
    have hflat : ∀ j, j < ws.length * k → xs[j]? = some ((flatK enc k ws.toArray)[j]!) := fun j hj => by
      have hjx : j < xs.length := by omega
      have hi : j / k < ws.length := by rw [Nat.div_lt_iff_lt_mul h0]; exact hj
      have hm : j % k < k := Nat.mod_lt _ h0
      have e1 : (ws.map fC)[j / k]? = some (fC ws[j / k]) := by simp [hi]
      have e2 : (fC ws[j / k])[j % k]? = some (.v ((enc ws[j / k])[j % k]'(by rw [hk]; exact hm))) := by rw [hfe]; simp [hk, hm]
      have e3 : xs[j / k * k + j % k]? = some xs[j] := by rw [Nat.div_add_mod']; exact List.getElem?_eq_getElem hjx
      have := rep_v (hxr _ _ _ _ _ e1 e2 e3)
      rw [List.getElem?_eq_getElem hjx, this, get_flatK _ _ _ _ (by simpa using hj)]
      simp [hi, hk, hm]
    have hH : HoldsK enc k w b 0 ws.toArray := by
      intro j hj
      have hj' : j < ws.length * k := by simpa using hj
      refine ⟨?_, by simp [World.frozen?, hg0]⟩
      rw [Nat.zero_add]
      exact hxc j _ (hflat j hj')
    have hlt : b < w.heap.size := hR.lt b (by simp [HA.own])
    refine (AnyQ.slices_SortFunc L k aE zE enc hk h1 cf hO g #[] b 0 c ws.toArray w (run_enter hg) (cmp_lays hfe h1 hT) hH hlt (by simpa using hz)).mono ?_
    rintro ex w' ⟨rfl, d', n, os, hp, hs, rfl⟩
    have hsz : d'.size = ws.length := by simpa using hp.1
    have hperm : d'.toList.Perm ws := by
      have := hp.2.2
      simp only [List.size_toArray] at this
      simp only [Array.toList_extract, List.drop_zero, List.extract_eq_take_drop, Nat.sub_zero] at this
      rw [List.take_of_length_le (by simp [hsz]), List.take_of_length_le (by simp)] at this
      exact this
    have hpair : d'.toList.Pairwise (fun x y => ltOf cf y x = false) := by
      rw [List.pairwise_iff_getElem]
      intro i j hi hj hij
      have hj' : j < d'.size := by simpa using hj
      have := hs i j (Nat.zero_le _) hij (by simpa [hsz] using hj')
      rw [getElem!_pos d' j hj', getElem!_pos d' i (by omega)] at this
      simpa using this
    have hgr := grownBy_sortedK (n := n) (os := os) (b := b) (w := w) (flatK enc k d')
    have hset : ∀ k', F k' → (grow (putRow id (Sort.ahead w n) b 0 (flatK enc k d')) os).heap[k']? = w.heap[k']? := fun k' hk' => hgr.block k' (hR.sep k' hk').1 (fun e => (hR.sep k' hk').2 (by simp at e; simp [HA.own, e]))
    have hfs : (flatK enc k d').size = ws.length * k := by simp [hsz]
    have hcap : (flatK enc k d').size ≤ cur.size := by rw [hfs, hcs]; exact Nat.mul_le_mul_right _ hnc
    refine ⟨.tup [], .tuple #[], _, F, rfl, ⟨d'.toList, hperm, hpair, rfl, rfl⟩, .tup _ _ rfl (fun j av x hj => by simp at hj), ⟨fun y hy => ?_, by simp [HA.own], fun k' hk' => ?_, fun k' hk' => ⟨Nat.lt_of_lt_of_le (hR.sep k' hk').1 hgr.size, fun hm => (hR.sep k' hk').2 (by simpa [HA.own] using hm)⟩⟩, ⟨hgr.os, hgr.output, hgr.tape, hgr.size, fun k' hk' hn => hgr.block k' hk' (fun e => hn (by simp at e; simp [HA.own, e])), fun k' hk' => .inl (by simpa [HA.own] using hk'), fun _ h => h, fun _ h => .inl h, by show w.drawn ≤ w.drawn + n; omega⟩⟩
    · rw [List.mem_singleton] at hy
      subst hy
      have e1 : (d'.toList.map fC).length = ws.length := by simp [hsz]
      have hget : ∀ i j v, i < ws.length → j < k → (flatK enc k d').toList[i * k + j]? = some v → ∃ u, d'[i]? = some u ∧ (enc u)[j]? = some v := fun i j v hi hj hv => by
        have hlt2 : i * k + j < d'.size * k := by rw [hsz]; exact idx_lt hi hj
        rw [Array.getElem?_toList, Array.getElem?_eq_getElem (by simpa using hlt2)] at hv
        have hv := Option.some.inj hv
        rw [← getElem!_pos (flatK enc k d') (i * k + j) (by simpa using hlt2), get_flatK _ _ _ _ hlt2, mul_add_div hj, mul_add_mod hj] at hv
        refine ⟨d'[i]!, by rw [getElem!_pos d' i (by omega)]; exact Array.getElem?_eq_getElem (by omega), ?_⟩
        rw [← hv, getElem!_pos (enc d'[i]!) j (by rw [hk]; exact hj)]
        exact List.getElem?_eq_getElem _
      refine ⟨(flatK enc k d').toList, ⟨by rw [Array.length_toList, hfs, e1], .inr ⟨b, c, _, by rw [e1]; rfl, Nat.zero_le _, heap_sortedK hg0, by rw [e1]; exact hnc, hcm, by simp [putCells, hcs], ?_⟩⟩, fun y hy => ?_, fun x hx => ?_, ?_⟩
      · rw [e1, ← hfs]; exact take_putCellsK cur _ hcap
      · obtain ⟨z, _, rfl⟩ := List.mem_map.1 hy; rw [hfe]; simp [hk]
      · obtain ⟨j, hj⟩ := List.mem_iff_getElem?.1 hx
        have hj2 : j < ws.length * k := by have := (List.getElem?_eq_some_iff.1 hj).1; simpa [hsz] using this
        have hm : j % k < k := Nat.mod_lt _ h0
        have := hget (j / k) (j % k) x (by rw [Nat.div_lt_iff_lt_mul h0]; exact hj2) hm (by rw [Nat.div_add_mod']; exact hj)
        obtain ⟨u, _, hu⟩ := this
        exact h1 u x (List.mem_of_getElem? hu)
      · intro i j y av x hi hj hx
        rw [List.getElem?_map, Option.map_eq_some_iff] at hi
        obtain ⟨z, hz, rfl⟩ := hi
        have hil : i < ws.length := by have := (List.getElem?_eq_some_iff.1 hz).1; simpa [hsz] using this
        rw [hfe, List.getElem?_map, Option.map_eq_some_iff] at hj
        obtain ⟨u, hu, rfl⟩ := hj
        have hjk : j < k := by have := (List.getElem?_eq_some_iff.1 hu).1; rwa [hk] at this
        obtain ⟨z', hz', hx'⟩ := hget i j x hil hjk hx
        have : z' = z := by
          rw [Array.getElem?_toList] at hz
          rw [hz] at hz'
          exact (Option.some.inj hz').symm
        subst this
        rw [hu] at hx'
        cases hx'
        exact .v _
    · have : k' = b := by simpa [HA.own] using hk'
      subst this
      exact Nat.lt_of_lt_of_le hlt hgr.size
end A
end Go.Proofs.Ytmcannmjielalaa
set_option linter.unusedVariables false
set_option linter.unusedSimpArgs false
namespace Go.Proofs.Ytmcannmjielalaa
namespace A
structure Wi where
  a : Int
  b : Int
  u : Bool
  ca : Int
  cb : Int
  deriving DecidableEq, Inhabited
def wirC (w : Wi) : List AV := [.int w.a, .int w.b, .v (.bool w.u), .int w.ca, .int w.cb]
def WOk (w : Wi) : Prop := 1 ≤ w.a ∧ w.a < w.b ∧ w.b ≤ 64 ∧ 1 ≤ w.ca ∧ w.ca ≤ 1073741824 ∧ 1 ≤ w.cb ∧ w.cb ≤ 1073741824
instance : DecidablePred WOk := fun w => by unfold WOk; infer_instance
def ltWi (x y : Wi) : Prop := x.a < y.a ∨ x.a = y.a ∧ x.b < y.b
instance (x y : Wi) : Decidable (ltWi x y) := by unfold ltWi; infer_instance
def wiresB (l : List Wi) : Bool := decide ((∀ w ∈ l, WOk w) ∧ l.Pairwise ltWi)
theorem ltWi_trans {x y z : Wi} (h1 : ltWi x y) (h2 : ltWi y z) : ltWi x z := by unfold ltWi at *; omega
/-- A list that is walked in order stays sorted, or shows that it is not. -/
theorem pw_step {α : Type} {r : α → α → Prop} (tr : ∀ a b c, r a b → r b c → r a c) {l : List α} {i : Nat} {x : α} (hx : l[i]? = some x) (hp : (l.take i).Pairwise r) (h : i = 0 ∨ ∃ p, l[i - 1]? = some p ∧ r p x) : (l.take (i + 1)).Pairwise r := by
  rw [take_step hx, List.pairwise_append]
  refine ⟨hp, by simp, fun y hy z hz => ?_⟩
  rw [List.mem_singleton.1 hz]
  rcases h with h | ⟨p, h1, h2⟩
  · subst h; simp at hy
  · obtain ⟨k, hk⟩ := List.mem_iff_getElem?.1 hy
    rw [List.getElem?_take] at hk
    split at hk
    · rename_i hki
      by_cases e : k = i - 1
      · rw [e, h1] at hk; cases hk; exact h2
      · obtain ⟨hkl, rfl⟩ := List.getElem?_eq_some_iff.1 hk
        obtain ⟨hil, rfl⟩ := List.getElem?_eq_some_iff.1 h1
        have := List.pairwise_iff_getElem.1 hp k (i - 1) (by rw [List.length_take]; omega) (by rw [List.length_take]; omega) (by omega)
        rw [List.getElem_take, List.getElem_take] at this
        exact tr _ _ _ this h2
    · cases hk
theorem pw_bad {α : Type} {r : α → α → Prop} {l : List α} {i : Nat} {p x : α} (hp : l[i - 1]? = some p) (hx : l[i]? = some x) (h0 : 0 < i) (h : ¬ r p x) : ¬ l.Pairwise r := fun hw => by
  obtain ⟨hpl, rfl⟩ := List.getElem?_eq_some_iff.1 hp
  obtain ⟨hxl, rfl⟩ := List.getElem?_eq_some_iff.1 hx
  exact h (List.pairwise_iff_getElem.1 hw (i - 1) i hpl hxl (by omega))
theorem wires_bad1 {l : List Wi} {i : Nat} {x : Wi} (hx : l[i]? = some x) (h : ¬ WOk x) : wiresB l = false := decide_eq_false fun e => h (e.1 x (List.mem_of_getElem? hx))
theorem wires_bad2 {l : List Wi} {i : Nat} {p x : Wi} (hp : l[i - 1]? = some p) (hx : l[i]? = some x) (h0 : 0 < i) (h : ¬ ltWi p x) : wiresB l = false := decide_eq_false fun e => pw_bad hp hx h0 h e.2
theorem wires_good {l : List Wi} (h1 : ∀ w ∈ l, WOk w) (h2 : l.Pairwise ltWi) : wiresB l = true := decide_eq_true ⟨h1, h2⟩
theorem wires_spec {l : List Wi} (h : wiresB l = true) : (∀ w ∈ l, WOk w) ∧ l.Pairwise ltWi := of_decide_eq_true h
theorem wires_uniq {l : List Wi} (h : wiresB l = true) {x y : Wi} (hx : x ∈ l) (hy : y ∈ l) (e1 : x.a = y.a) (e2 : x.b = y.b) : x = y := by
  obtain ⟨i, hi⟩ := List.mem_iff_getElem?.1 hx
  obtain ⟨j, hj⟩ := List.mem_iff_getElem?.1 hy
  obtain ⟨hil, rfl⟩ := List.getElem?_eq_some_iff.1 hi
  obtain ⟨hjl, rfl⟩ := List.getElem?_eq_some_iff.1 hj
  have hp := List.pairwise_iff_getElem.1 (wires_spec h).2
  rcases Nat.lt_trichotomy i j with hlt | e | hlt
  · have := hp i j hil hjl hlt; unfold ltWi at this; omega
  · subst e; rfl
  · have := hp j i hjl hil hlt; unfold ltWi at this; omega
/-! ### The live arcs -/
def upW (up : List Int) (w : Wi) : Bool := w.u && up.contains w.a && up.contains w.b
def rawW (up : List Int) (w : Wi) : List Arc := if upW up w then [⟨w.a, w.b, w.ca⟩, ⟨w.b, w.a, w.cb⟩] else []
def rawM (l : List Wi) (up : List Int) : List Arc := l.flatMap (rawW up)
def hitW (up : List Int) (a b : Int) (w : Wi) : Bool := (w.u && up.contains a && up.contains b) && ((w.a == a && w.b == b) || (w.a == b && w.b == a))
def valW (a b : Int) (w : Wi) : Int := if w.a == a && w.b == b then w.ca else w.cb
def costW (l : List Wi) (up : List Int) (a b : Int) : Int := match l.find? (hitW up a b) with | some w => valW a b w | none => 0
def refR (l : List Wi) (up : List Int) (a : Int) (m : Nat) : List Arc := ((List.range m).map fun (i : Nat) => ((i + 1 : Nat) : Int)).flatMap fun b => if 0 < costW l up a b then [⟨a, b, costW l up a b⟩] else []
def refL (l : List Wi) (up : List Int) (m : Nat) : List Arc := ((List.range m).map fun (i : Nat) => ((i + 1 : Nat) : Int)).flatMap fun a => refR l up a 64
def liveM (l : List Wi) (up : List Int) : List Arc := if wiresB l then refL l up 64 else []
theorem raw_step {l : List Wi} {up : List Int} {i : Nat} {w : Wi} (h : l[i]? = some w) : rawM (l.take (i + 1)) up = rawM (l.take i) up ++ rawW up w := by
  unfold rawM
  rw [take_step h, List.flatMap_append]
  simp
theorem raw_len (l : List Wi) (up : List Int) : (rawM l up).length ≤ 2 * l.length := by
  unfold rawM
  induction l with
  | nil => simp
  | cons w t ih =>
    rw [List.flatMap_cons, List.length_append, List.length_cons]
    have : (rawW up w).length ≤ 2 := by unfold rawW; split <;> simp
    omega
theorem rng_step {m : Nat} : ((List.range (m + 1)).map fun (i : Nat) => ((i + 1 : Nat) : Int)) = ((List.range m).map fun (i : Nat) => ((i + 1 : Nat) : Int)) ++ [((m + 1 : Nat) : Int)] := by
  rw [List.range_succ, List.map_append]
  rfl
theorem refR_step {l : List Wi} {up : List Int} {a : Int} {m : Nat} : refR l up a (m + 1) = refR l up a m ++ if 0 < costW l up a ((m + 1 : Nat) : Int) then [⟨a, ((m + 1 : Nat) : Int), costW l up a ((m + 1 : Nat) : Int)⟩] else [] := by
  unfold refR
  rw [rng_step, List.flatMap_append]
  congr 1
  simp
theorem refL_step {l : List Wi} {up : List Int} {m : Nat} : refL l up (m + 1) = refL l up m ++ refR l up ((m + 1 : Nat) : Int) 64 := by
  unfold refL
  rw [rng_step, List.flatMap_append]
  congr 1
  simp
theorem refR_len (l : List Wi) (up : List Int) (a : Int) : ∀ m, (refR l up a m).length ≤ m
  | 0 => by simp [refR]
  | m + 1 => by
    have := refR_len l up a m
    rw [refR_step, List.length_append]
    split <;> simp <;> omega
theorem refL_len (l : List Wi) (up : List Int) : ∀ m, (refL l up m).length ≤ m * 64
  | 0 => by simp [refL]
  | m + 1 => by
    have := refL_len l up m
    have := refR_len l up ((m + 1 : Nat) : Int) 64
    rw [refL_step, List.length_append]
    omega
theorem mem_rng {m : Nat} {v : Int} : (v ∈ (List.range m).map fun (i : Nat) => ((i + 1 : Nat) : Int)) ↔ 1 ≤ v ∧ v ≤ m := by
  rw [List.mem_map]
  constructor
  · rintro ⟨i, hi, rfl⟩; rw [List.mem_range] at hi; omega
  · intro h; exact ⟨(v - 1).toNat, by rw [List.mem_range]; omega, by omega⟩
theorem mem_refR {l : List Wi} {up : List Int} {a : Int} {m : Nat} {x : Arc} : x ∈ refR l up a m ↔ x.f = a ∧ 1 ≤ x.t ∧ x.t ≤ m ∧ x.c = costW l up a x.t ∧ 0 < x.c := by
  unfold refR
  rw [List.mem_flatMap]
  constructor
  · rintro ⟨b, hb, hx⟩
    rw [mem_rng] at hb
    split at hx
    · rename_i hc
      rw [List.mem_singleton.1 hx]
      exact ⟨rfl, hb.1, hb.2, rfl, hc⟩
    · simp at hx
  · rintro ⟨h1, h2, h3, h4, h5⟩
    refine ⟨x.t, mem_rng.2 ⟨h2, h3⟩, ?_⟩
    rw [if_pos (by rw [← h4]; exact h5), List.mem_singleton]
    cases x
    simp at h1 h4 ⊢
    exact ⟨h1, h4⟩
theorem mem_refL {l : List Wi} {up : List Int} {m : Nat} {x : Arc} : x ∈ refL l up m ↔ 1 ≤ x.f ∧ x.f ≤ m ∧ 1 ≤ x.t ∧ x.t ≤ 64 ∧ x.c = costW l up x.f x.t ∧ 0 < x.c := by
  unfold refL
  rw [List.mem_flatMap]
  constructor
  · rintro ⟨a, ha, hx⟩
    rw [mem_rng] at ha
    obtain ⟨rfl, h2, h3, h4, h5⟩ := mem_refR.1 hx
    exact ⟨ha.1, ha.2, h2, h3, h4, h5⟩
  · rintro ⟨h1, h2, h3, h4, h5, h6⟩
    exact ⟨x.f, mem_rng.2 ⟨h1, h2⟩, mem_refR.2 ⟨rfl, h3, h4, h5, h6⟩⟩
theorem refL_sorted (l : List Wi) (up : List Int) (m : Nat) : (refL l up m).Pairwise ltA := by
  have hr : ((List.range m).map fun (i : Nat) => ((i + 1 : Nat) : Int)).Pairwise (· < ·) := by
    rw [List.pairwise_map]
    exact List.pairwise_lt_range.imp (fun h => by omega)
  unfold refL
  rw [List.pairwise_flatMap]
  refine ⟨fun a ha => ?_, hr.imp fun h x hx y hy => ?_⟩
  · unfold refR
    rw [List.pairwise_flatMap]
    refine ⟨fun b hb => by split <;> simp, ?_⟩
    have hr2 : ((List.range 64).map fun (i : Nat) => ((i + 1 : Nat) : Int)).Pairwise (· < ·) := by
      rw [List.pairwise_map]
      exact List.pairwise_lt_range.imp (fun h => by omega)
    refine hr2.imp fun h x hx y hy => ?_
    split at hx <;> simp at hx
    split at hy <;> simp at hy
    subst hx; subst hy
    exact .inr ⟨rfl, h⟩
  · have h1 := (mem_refR.1 hx).1
    have h2 := (mem_refR.1 hy).1
    exact .inl (by omega)
theorem costW_is {l : List Wi} (h : wiresB l = true) {up : List Int} {a b c : Int} : (0 < c ∧ c = costW l up a b) ↔ ∃ w ∈ l, upW up w = true ∧ (w.a = a ∧ w.b = b ∧ c = w.ca ∨ w.a = b ∧ w.b = a ∧ c = w.cb) := by
  have hs := wires_spec h
  constructor
  · rintro ⟨h1, h2⟩
    unfold costW at h2
    cases hf : l.find? (hitW up a b) with
    | none => rw [hf] at h2; simp at h2; omega
    | some w =>
      rw [hf] at h2
      have hm := List.mem_of_find?_eq_some hf
      have hh := List.find?_some hf
      refine ⟨w, hm, ?_⟩
      unfold hitW at hh
      unfold upW
      simp only [valW] at h2
      simp only [Bool.and_eq_true, Bool.or_eq_true, beq_iff_eq] at hh ⊢
      obtain ⟨⟨⟨q1, q2⟩, q3⟩, q4⟩ := hh
      rcases q4 with ⟨e1, e2⟩ | ⟨e1, e2⟩
      · rw [if_pos (by simp [e1, e2])] at h2
        exact ⟨⟨⟨q1, by rw [e1]; exact q2⟩, by rw [e2]; exact q3⟩, .inl ⟨e1, e2, h2⟩⟩
      · have hw := hs.1 w hm
        unfold WOk at hw
        rw [if_neg (by simp; intro e3; omega)] at h2
        exact ⟨⟨⟨q1, by rw [e1]; exact q3⟩, by rw [e2]; exact q2⟩, .inr ⟨e1, e2, h2⟩⟩
  · rintro ⟨w, hm, hu, hc⟩
    have hw := hs.1 w hm
    unfold WOk at hw
    refine ⟨by omega, ?_⟩
    unfold upW at hu
    simp only [Bool.and_eq_true] at hu
    have hit : hitW up a b w = true := by
      unfold hitW
      simp only [Bool.and_eq_true, Bool.or_eq_true, beq_iff_eq]
      rcases hc with ⟨e1, e2, _⟩ | ⟨e1, e2, _⟩
      · exact ⟨⟨⟨hu.1.1, by rw [← e1]; exact hu.1.2⟩, by rw [← e2]; exact hu.2⟩, .inl ⟨e1, e2⟩⟩
      · exact ⟨⟨⟨hu.1.1, by rw [← e2]; exact hu.2⟩, by rw [← e1]; exact hu.1.2⟩, .inr ⟨e1, e2⟩⟩
    unfold costW
    cases hf : l.find? (hitW up a b) with
    | none => rw [List.find?_eq_none] at hf; exact absurd hit (by simpa using hf w hm)
    | some v =>
      have hmv := List.mem_of_find?_eq_some hf
      have hv := hs.1 v hmv
      unfold WOk at hv
      have hh := List.find?_some hf
      unfold hitW at hh
      simp only [Bool.and_eq_true, Bool.or_eq_true, beq_iff_eq] at hh
      have hvw : v = w := wires_uniq h hmv hm (by omega) (by omega)
      subst hvw
      simp only [valW]
      rcases hc with ⟨e1, e2, e3⟩ | ⟨e1, e2, e3⟩
      · rw [if_pos (by simp [e1, e2]), e3]
      · rw [if_neg (by simp; intro e; omega), e3]
theorem mem_raw {l : List Wi} {up : List Int} {x : Arc} : x ∈ rawM l up ↔ ∃ w ∈ l, upW up w = true ∧ (w.a = x.f ∧ w.b = x.t ∧ x.c = w.ca ∨ w.a = x.t ∧ w.b = x.f ∧ x.c = w.cb) := by
  unfold rawM rawW
  rw [List.mem_flatMap]
  constructor
  · rintro ⟨w, hw, hx⟩
    refine ⟨w, hw, ?_⟩
    split at hx
    · rename_i hu
      refine ⟨hu, ?_⟩
      rcases List.mem_cons.1 hx with rfl | hx
      · exact .inl ⟨rfl, rfl, rfl⟩
      · rw [List.mem_singleton.1 hx]; exact .inr ⟨rfl, rfl, rfl⟩
    · simp at hx
  · rintro ⟨w, hw, hu, hc⟩
    refine ⟨w, hw, ?_⟩
    rw [if_pos hu]
    cases x
    rcases hc with ⟨e1, e2, e3⟩ | ⟨e1, e2, e3⟩
    · simp at e1 e2 e3; simp [e1, e2, e3]
    · simp at e1 e2 e3; simp [e1, e2, e3]
theorem raw_ref {l : List Wi} (h : wiresB l = true) {up : List Int} {x : Arc} : x ∈ rawM l up ↔ x ∈ refL l up 64 := by
  rw [mem_raw, ← costW_is h, mem_refL]
  constructor
  · rintro ⟨h1, h2⟩
    obtain ⟨w, hw, _, hc⟩ := (costW_is h).1 ⟨h1, h2⟩
    have := (wires_spec h).1 w hw
    unfold WOk at this
    exact ⟨by omega, by omega, by omega, by omega, h2, h1⟩
  · rintro ⟨_, _, _, _, h2, h1⟩; exact ⟨h1, h2⟩
theorem raw_nodup {l : List Wi} (h : wiresB l = true) {up : List Int} : (rawM l up).Pairwise fun x y => ¬ (x.f = y.f ∧ x.t = y.t) := by
  have hs := wires_spec h
  unfold rawM
  rw [List.pairwise_flatMap]
  refine ⟨fun w hw => ?_, ?_⟩
  · have := hs.1 w hw
    unfold WOk at this
    unfold rawW
    split
    · simp; omega
    · simp
  · refine (List.Pairwise.and_mem.1 hs.2).imp fun ⟨hw, hv, hlt⟩ x hx y hy => ?_
    have h1 := hs.1 _ hw
    have h2 := hs.1 _ hv
    unfold WOk at h1 h2
    unfold ltWi at hlt
    unfold rawW at hx hy
    split at hx <;> simp at hx
    split at hy <;> simp at hy
    rcases hx with rfl | rfl <;> rcases hy with rfl | rfl <;> simp <;> omega
theorem srt_ext {α : Type} {r : α → α → Prop} (irr : ∀ a, ¬ r a a) (tr : ∀ a b c, r a b → r b c → r a c) : ∀ {l m : List α}, l.Pairwise r → m.Pairwise r → (∀ a, a ∈ l ↔ a ∈ m) → l = m
  | [], [], _, _, _ => rfl
  | [], b :: m, _, _, h => by have := (h b).2 (by simp); simp at this
  | a :: l, [], _, _, h => by have := (h a).1 (by simp); simp at this
  | a :: l, b :: m, hl, hm, h => by
    rw [List.pairwise_cons] at hl hm
    have e : a = b := by
      rcases List.mem_cons.1 ((h a).1 (by simp)) with e | h1
      · exact e
      · rcases List.mem_cons.1 ((h b).2 (by simp)) with e | h2
        · exact e.symm
        · exact absurd (tr a b a (hl.1 b h2) (hm.1 a h1)) (irr a)
    subst e
    rw [srt_ext irr tr hl.2 hm.2 (fun x => ?_)]
    constructor
    · intro hx
      rcases List.mem_cons.1 ((h x).1 (by simp [hx])) with e | h1
      · subst e; exact absurd (hl.1 x hx) (irr x)
      · exact h1
    · intro hx
      rcases List.mem_cons.1 ((h x).2 (by simp [hx])) with e | h1
      · subst e; exact absurd (hm.1 x hx) (irr x)
      · exact h1
/-- What is sorted in weak order, with keys that differ, is sorted. -/
theorem sorted_arcs {ts l : List Arc} (hp : ts.Perm l) (hs : ts.Pairwise fun x y => Go.Proofs.ltOf orderA y x = false) (hd : l.Pairwise fun x y => ¬ (x.f = y.f ∧ x.t = y.t)) : ts.Pairwise ltA := by
  have hd2 : ts.Pairwise fun x y => ¬ (x.f = y.f ∧ x.t = y.t) := (hp.pairwise_iff (fun {x y} h e => h ⟨e.1.symm, e.2.symm⟩)).2 hd
  refine (hs.and hd2).imp fun {a b} ⟨h1, h2⟩ => ?_
  unfold Go.Proofs.ltOf at h1
  have h3 : ¬ ltA b a := fun h => by rw [← orderA_lt] at h; rw [decide_eq_true h] at h1; cases h1
  unfold ltA at *
  omega
theorem live_sorted {l : List Wi} (h : wiresB l = true) {up : List Int} {ts : List Arc} (hp : ts.Perm (rawM l up)) (hs : ts.Pairwise fun x y => Go.Proofs.ltOf orderA y x = false) : ts = refL l up 64 :=
  srt_ext (r := ltA) (fun a e => by unfold ltA at e; omega) (fun a b c h1 h2 => by unfold ltA at *; omega) (sorted_arcs hp hs (raw_nodup h)) (refL_sorted l up 64) (fun x => by rw [hp.mem_iff, raw_ref h])
theorem live_ok {l : List Wi} (up : List Int) : arcsB none (liveM l up) = true := by
  unfold liveM
  cases h : wiresB l with
  | false => rfl
  | true =>
    rw [if_pos rfl]
    refine arcsB_of (fun e he => ?_) (fun q hq => by cases hq) (refL_sorted l up 64)
    have h2 := (raw_ref h).2 he
    obtain ⟨w, hw, _, hc⟩ := mem_raw.1 h2
    have hk := (wires_spec h).1 w hw
    unfold WOk at hk
    have h3 := mem_refL.1 he
    simp only [arcB, nodeB, Bool.and_eq_true, decide_eq_true_eq, Bool.not_eq_true', beq_eq_false_iff_ne]
    omega
theorem live_len (l : List Wi) (up : List Int) : (liveM l up).length ≤ 4096 := by
  unfold liveM
  split
  · exact refL_len l up 64
  · simp
/-! ### Components -/
def compM (l : List Wi) (up : List Int) (n : Int) : List Int := if wiresB l && (decide (1 ≤ n) && decide (n ≤ 64)) && up.contains n then sortI (n :: (rtsM (liveM l up) n).map (·.nd)) else []
def partS (l : List Wi) (up : List Int) (out : List (List Int)) (n : Int) : List (List Int) := if !(out.any fun p => p.contains n) && decide (0 < (compM l up n).length) then out ++ [compM l up n] else out
def partsM (l : List Wi) (up : List Int) (m : Nat) : List (List Int) := ((List.range m).map fun (i : Nat) => ((i + 1 : Nat) : Int)).foldl (partS l up) []
theorem parts_step {l : List Wi} {up : List Int} {m : Nat} : partsM l up (m + 1) = partS l up (partsM l up m) ((m + 1 : Nat) : Int) := by
  unfold partsM
  rw [rng_step, List.foldl_append]
  rfl
theorem parts_len (l : List Wi) (up : List Int) : ∀ m, (partsM l up m).length ≤ m
  | 0 => by simp [partsM]
  | m + 1 => by
    have := parts_len l up m
    rw [parts_step]
    unfold partS
    split
    · simp; omega
    · omega
end A
end Go.Proofs.Ytmcannmjielalaa
set_option linter.unusedVariables false
set_option linter.unusedSimpArgs false
namespace Go.Proofs.Ytmcannmjielalaa
namespace A
theorem el_109 : elemOf Try.prog 109 = some (25, 1, 24) := by kernel_rfl
theorem es_109 : elemSize Try.prog 109 = some 1 := by kernel_rfl
theorem es_112 : elemSize Try.prog 112 = some 5 := by kernel_rfl
theorem fd_226_0 : fieldOf Try.prog 226 0 = some (0, 1, false) := by kernel_rfl
theorem fd_226_1 : fieldOf Try.prog 226 1 = some (1, 1, false) := by kernel_rfl
theorem fd_226_2 : fieldOf Try.prog 226 2 = some (2, 1, false) := by kernel_rfl
theorem fd_226_3 : fieldOf Try.prog 226 3 = some (3, 1, false) := by kernel_rfl
theorem fd_226_4 : fieldOf Try.prog 226 4 = some (4, 1, false) := by kernel_rfl
theorem sl_109 : isSl Try.prog 109 = true := by kernel_rfl
theorem sl_112 : isSl Try.prog 112 = true := by kernel_rfl
theorem ty_226 : tyOf Try.prog 226 = some (5, true) := by kernel_rfl
theorem us_109 : Try.prog.underlying 109 = some (.slice 25) := by kernel_rfl
theorem ze_226 : zeroOf Try.prog 226 = some (.agg #[.int .i64 0, .int .i64 0, .bool false, .int .i64 0, .int .i64 0]) := by kernel_rfl
theorem ze_25 : zeroOf Try.prog 25 = some (.slice none 0 0) := by kernel_rfl
def srtA_ren : Go.Shelf.Ren := ⟨fun | 6 => 183 | 15 => 243 | 14 => 251 | 28 => 282 | 29 => 283 | 20 => 292 | 21 => 293 | 22 => 294 | 23 => 295 | 24 => 296 | 25 => 297 | 26 => 298 | 27 => 299 | 46 => 327 | 47 => 320 | 48 => 321 | 49 => 328 | 50 => 329 | 57 => 339 | n => n, fun | 22 => 22 | 24 => 36 | 25 => 150 | 3 => 3 | 39 => 270 | 0 => 0 | 53 => 313 | 55 => 37 | 4 => 4 | 46 => 307 | 45 => 306 | 50 => 175 | 5 => 5 | 9 => 9 | 66 => 341 | 70 => 344 | 76 => 354 | 77 => 187 | n => n, fun | n => n⟩
theorem srtA : Go.Proofs.SlLaysF0.n6 Try.prog srtA_ren := {
  mixed := by kernel_rfl,
  f6 := ⟨"slices.SortFunc[[]waymark/api.Arc,waymark/api.Arc]", by decide, Try.func183.trans (congrArg some (by kernel_rfl))⟩,
  f14 := ⟨"slices.pdqsortCmpFunc[waymark/api.Arc]", by decide, Try.func251.trans (congrArg some (by kernel_rfl))⟩,
  f15 := Try.func243.trans (congrArg some (by kernel_rfl)),
  f20 := ⟨"slices.insertionSortCmpFunc[waymark/api.Arc]", by decide, Try.func292.trans (congrArg some (by kernel_rfl))⟩,
  f21 := ⟨"slices.heapSortCmpFunc[waymark/api.Arc]", by decide, Try.func293.trans (congrArg some (by kernel_rfl))⟩,
  f22 := ⟨"slices.breakPatternsCmpFunc[waymark/api.Arc]", by decide, Try.func294.trans (congrArg some (by kernel_rfl))⟩,
  f23 := ⟨"slices.choosePivotCmpFunc[waymark/api.Arc]", by decide, Try.func295.trans (congrArg some (by kernel_rfl))⟩,
  f24 := ⟨"slices.reverseRangeCmpFunc[waymark/api.Arc]", by decide, Try.func296.trans (congrArg some (by kernel_rfl))⟩,
  f25 := ⟨"slices.partialInsertionSortCmpFunc[waymark/api.Arc]", by decide, Try.func297.trans (congrArg some (by kernel_rfl))⟩,
  f26 := ⟨"slices.partitionEqualCmpFunc[waymark/api.Arc]", by decide, Try.func298.trans (congrArg some (by kernel_rfl))⟩,
  f27 := ⟨"slices.partitionCmpFunc[waymark/api.Arc]", by decide, Try.func299.trans (congrArg some (by kernel_rfl))⟩,
  f28 := Try.func282.trans (congrArg some (by kernel_rfl)),
  f29 := Try.func283.trans (congrArg some (by kernel_rfl)),
  f46 := ⟨"slices.siftDownCmpFunc[waymark/api.Arc]", by decide, Try.func327.trans (congrArg some (by kernel_rfl))⟩,
  f47 := Try.func320.trans (congrArg some (by kernel_rfl)),
  f48 := Try.func321.trans (congrArg some (by kernel_rfl)),
  f49 := ⟨"slices.medianAdjacentCmpFunc[waymark/api.Arc]", by decide, Try.func328.trans (congrArg some (by kernel_rfl))⟩,
  f50 := ⟨"slices.medianCmpFunc[waymark/api.Arc]", by decide, Try.func329.trans (congrArg some (by kernel_rfl))⟩,
  f57 := ⟨"slices.order2CmpFunc[waymark/api.Arc]", by decide, Try.func339.trans (congrArg some (by kernel_rfl))⟩,
  t0 := Try.underlying0,
  a0 := Try.isAgg0,
  z0 := Try.sizeOf0,
  v0 := Try.zeroValue0,
  t3 := Try.underlying3,
  a3 := Try.isAgg3,
  z3 := Try.sizeOf3,
  v3 := Try.zeroValue3,
  t4 := Try.underlying4,
  a4 := Try.isAgg4,
  z4 := Try.sizeOf4,
  v4 := Try.zeroValue4,
  t5 := Try.underlying5,
  a5 := Try.isAgg5,
  z5 := Try.sizeOf5,
  v5 := Try.zeroValue5,
  t9 := Try.underlying9,
  a9 := Try.isAgg9,
  z9 := Try.sizeOf9,
  v9 := Try.zeroValue9,
  t22 := Try.underlying22,
  a22 := Try.isAgg22,
  z22 := Try.sizeOf22,
  v22 := Try.zeroValue22,
  t25 := Try.underlying150,
  a25 := Try.isAgg150,
  z25 := Try.sizeOf150,
  v25 := Try.zeroValue150,
  t39 := Try.underlying270,
  a39 := Try.isAgg270,
  z39 := Try.sizeOf270,
  v39 := Try.zeroValue270,
  t45 := Try.underlying306,
  a45 := Try.isAgg306,
  z45 := Try.sizeOf306,
  v45 := Try.zeroValue306,
  t46 := Try.underlying307,
  a46 := Try.isAgg307,
  z46 := Try.sizeOf307,
  v46 := Try.zeroValue307,
  t50 := Try.underlying175,
  a50 := Try.isAgg175,
  z50 := Try.sizeOf175,
  v50 := Try.zeroValue175,
  t53 := Try.underlying313,
  a53 := Try.isAgg313,
  z53 := Try.sizeOf313,
  v53 := Try.zeroValue313,
  t55 := Try.underlying37,
  a55 := Try.isAgg37,
  z55 := Try.sizeOf37,
  v55 := Try.zeroValue37,
  t66 := Try.underlying341,
  a66 := Try.isAgg341,
  z66 := Try.sizeOf341,
  v66 := Try.zeroValue341,
  t70 := Try.underlying344,
  a70 := Try.isAgg344,
  z70 := Try.sizeOf344,
  v70 := Try.zeroValue344,
  t76 := Try.underlying354,
  a76 := Try.isAgg354,
  z76 := Try.sizeOf354,
  v76 := Try.zeroValue354,
  t77 := Try.underlying187,
  a77 := Try.isAgg187,
  z77 := Try.sizeOf187,
  v77 := Try.zeroValue187 }
theorem has_step {l : List Int} {i : Nat} {n x : Int} (hx : l[i]? = some x) (hv : ∀ y ∈ l.take i, y ≠ n) (h : x ≠ n) : ∀ y ∈ l.take (i + 1), y ≠ n := fun y hy => by
  rw [take_step hx] at hy
  rcases List.mem_append.1 hy with hy | hy
  · exact hv y hy
  · rw [List.mem_singleton.1 hy]; exact h
theorem has_no {l : List Int} {n : Int} (h : ∀ y ∈ l, y ≠ n) : l.contains n = false := by
  rw [Bool.eq_false_iff]
  intro h2
  exact h n (by simpa using h2) rfl
theorem has_yes {l : List Int} {i : Nat} {n x : Int} (hx : l[i]? = some x) (h : x = n) : l.contains n = true := by
  subst h
  simpa using List.mem_of_getElem? hx
/- waymarkref27.Has -/
set_option maxRecDepth 100000 in
set_option maxHeartbeats 400000 in
theorem ref27_Has {l : List Int} {n : Int} (hl : l.length < 9223372036854775807) : Triple Try.prog 37 [.sl 1 (l.map intA), .int n] [] (Is (.v (.bool (l.contains n))) []) := by
  refine triple_of Try.func37 rfl (by kernel_rfl) rfl (by simp) ?_
  refine aSeq ?_
  refine aReg ?_
  refine sp pMa ?_
  refine oNil ?_
  refine aSeq ?_
  refine aSeq ?_
  refine aReg ?_
  refine sp pMa ?_
  refine oNil ?_
  refine aBlock ?_
  refine loopF (α := Nat) (kept := [(0, _), (1, _)]) (fun i => i ≤ l.length ∧ ∀ y ∈ l.take i, y ≠ n) (fun i => [(5, .int i)]) (fun i => []) (fun i => l.length - i) 0 ?_ ⟨gInt rfl (by first | rfl | omega | simp), rfl, rfl, trivial⟩ (by repeat constructor) ?_
  · skip
    exact ⟨by omega, fun y hy => by simp at hy⟩
  · rintro i ⟨hi, hv⟩
    refine aSeq ?_
    refine aSeq ?_
    refine aReg ?_
    refine sp pM ?_
    refine sp pM ?_
    refine sp (by first | exact pLm sl_25 | exact pLs sl_25) ?_
    refine sp pB ?_
    refine oNil ?_
    refine aCondDec rfl (fun c9 => ?_) (fun c9 => ?_)
    · skip
      refine aSkip ?_
      refine aSeq ?_
      refine aBlock ?_
      refine aSeq ?_
      obtain ⟨x, hx⟩ : ∃ z, l[i]? = some z := ⟨_, List.getElem?_eq_getElem (by omega)⟩
      refine aReg ?_
      refine sp pM ?_
      refine sp pM ?_
      first | refine sp (pIx es_25) ?_ | (refine obtSN 12 13 rfl rfl (by omega) (fun x14 hx14 => ?_); refine sp (pIs es_25 hx14) ?_) | (refine obtS 12 13 rfl rfl (by omega) (by omega) (fun x14 hx14 => ?_); refine sp (pIs es_25 hx14) ?_) | refine sp (pIo es_25) ?_
      refine sr (rS1 ty_3) ?_
      refine sp pM ?_
      refine sp pB ?_
      refine oNil ?_
      refine aCondEq rfl (fun c17 => ?_) (fun c17 => ?_)
      · skip
        refine aSeq ?_
        refine aReg ?_
        refine sp pMa ?_
        refine oNil ?_
        refine aRet ?_
        refine finIs rfl ?_
        rw [has_yes hx (by omega)]
        rfl
      · skip
        refine aSkip ?_
        refine aReg ?_
        refine sp pM ?_
        refine sp pAd ?_
        refine sp pMa ?_
        refine oNil ?_
        refine ⟨i + 1, ?_, by (try dsimp only); omega, ⟨gInt rfl (by first | rfl | omega | simp), rfl, rfl, trivial⟩, _, (by repeat constructor)⟩
        exact ⟨by omega, has_step hx hv (by omega)⟩
    · skip
      refine aExit rfl ?_
      refine aSeq ?_
      refine aReg ?_
      refine sp pMa ?_
      refine oNil ?_
      refine aRet ?_
      refine finIs rfl ?_
      rw [take_all (by omega)] at hv
      rw [has_no hv]
      rfl
/- slices.Index[[]int,int] -/
set_option maxRecDepth 100000 in
set_option maxHeartbeats 400000 in
theorem index_int {l : List Int} {n : Int} (hl : l.length < 9223372036854775807) : Triple Try.prog 240 [.sl 1 (l.map intA), .int n] [] (fun q h' => ∃ k : Int, q = .int k ∧ h' = [] ∧ decide (0 ≤ k) = l.contains n) := by
  refine triple_of Try.func240 rfl (by kernel_rfl) rfl (by simp) ?_
  refine aSeq ?_
  refine aReg ?_
  refine sp pMa ?_
  refine oNil ?_
  refine aSeq ?_
  refine aSeq ?_
  refine aReg ?_
  refine sp pM ?_
  refine sp (by first | exact pLm sl_25 | exact pLs sl_25) ?_
  refine sp pM ?_
  refine oNil ?_
  refine aBlock ?_
  refine loopF (α := Nat) (kept := [(0, _), (1, _), (7, _)]) (fun i => i ≤ l.length ∧ ∀ y ∈ l.take i, y ≠ n) (fun i => [(8, .int i)]) (fun i => []) (fun i => l.length - i) 0 ?_ ⟨gInt rfl (by first | rfl | omega | simp), rfl, rfl, rfl, trivial⟩ (by repeat constructor) ?_
  · skip
    exact ⟨by omega, fun y hy => by simp at hy⟩
  · rintro i ⟨hi, hv⟩
    refine aSeq ?_
    refine aReg ?_
    refine sp pB ?_
    refine oNil ?_
    refine aSeq ?_
    refine aCondDec rfl (fun c9 => ?_) (fun c9 => ?_)
    · skip
      refine aSkip ?_
      refine aSeq ?_
      refine aBlock ?_
      refine aSeq ?_
      obtain ⟨x, hx⟩ : ∃ z, l[i]? = some z := ⟨_, List.getElem?_eq_getElem (by omega)⟩
      refine aReg ?_
      refine sp pM ?_
      refine sp pMa ?_
      refine oNil ?_
      refine aSeq ?_
      refine aReg ?_
      refine sp pM ?_
      refine sp pM ?_
      refine sp pM ?_
      first | refine sp (pIx es_25) ?_ | (refine obtSN 12 13 rfl rfl (by omega) (fun x14 hx14 => ?_); refine sp (pIs es_25 hx14) ?_) | (refine obtS 12 13 rfl rfl (by omega) (by omega) (fun x14 hx14 => ?_); refine sp (pIs es_25 hx14) ?_) | refine sp (pIo es_25) ?_
      refine sr (rS1 ty_3) ?_
      refine sp pB ?_
      refine oNil ?_
      refine aCondEq rfl (fun c16 => ?_) (fun c16 => ?_)
      · skip
        refine aSeq ?_
        refine aReg ?_
        refine sp pM ?_
        refine sp pMa ?_
        refine oNil ?_
        refine aRet ?_
        refine ⟨_, [], _, rfl, .nil, (i : Int), rfl, rfl, ?_⟩
        rw [has_yes hx (by omega)]
        exact decide_eq_true (by omega)
      · skip
        refine aSkip ?_
        refine aReg ?_
        refine sp pAd ?_
        refine sp pM ?_
        refine oNil ?_
        refine ⟨i + 1, ?_, by (try dsimp only); omega, ⟨gInt rfl (by first | rfl | omega | simp), rfl, rfl, rfl, trivial⟩, _, (by repeat constructor)⟩
        exact ⟨by omega, has_step hx hv (by omega)⟩
    · skip
      refine aExit rfl ?_
      refine aSeq ?_
      refine aReg ?_
      refine sp pMa ?_
      refine oNil ?_
      rw [take_all (by omega)] at hv
      refine aRet ?_
      refine ⟨_, [], _, rfl, .nil, -1, rfl, rfl, ?_⟩
      rw [has_no hv]
      rfl
/- slices.Contains[[]int,int] -/
set_option maxRecDepth 100000 in
set_option maxHeartbeats 400000 in
theorem contains_int {l : List Int} {n : Int} (hl : l.length < 9223372036854775807) : Triple Try.prog 163 [.sl 1 (l.map intA), .int n] [] (Is (.v (.bool (l.contains n))) []) := by
  refine triple_of Try.func163 rfl (by kernel_rfl) rfl (by simp) ?_
  refine aSeq ?_
  refine aReg ?_
  refine sp pMa ?_
  refine oNil ?_
  refine aSeq ?_
  refine aReg ?_
  refine sp pM ?_
  refine sp pM ?_
  refine sa ?_
  refine ca rfl rfl rfl (index_int (l := l) (n := n) hl) ?_
  rintro _ _ ⟨k, rfl, rfl, hk⟩
  refine sp pB ?_
  rw [hk]
  refine sp pMa ?_
  refine oNil ?_
  refine aRet ?_
  refine finIs rfl ?_
  rfl
/- live.within -/
set_option maxRecDepth 100000 in
set_option maxHeartbeats 400000 in
theorem live_within {n lo hi : Int} : Triple Try.prog 185 [.int n, .int lo, .int hi] [] (Is (.v (.bool (decide (lo ≤ n) && decide (n ≤ hi)))) []) := by
  refine triple_of Try.func185 rfl (by kernel_rfl) rfl (by simp) ?_
  refine aSeq ?_
  refine aReg ?_
  refine sp pMa ?_
  refine oNil ?_
  refine aSeq ?_
  refine aReg ?_
  refine sp pM ?_
  refine sp pM ?_
  refine sp pB ?_
  refine sp pM ?_
  refine oSplitDec 10 rfl (fun c10 => ?_) (fun c10 => ?_)
  · skip
    refine gp pM ?_
    refine gp pM ?_
    refine gp pB ?_
    refine sp pK ?_
    refine sp pMa ?_
    refine oNil ?_
    refine aRet ?_
    refine finIs rfl ?_
    simp_all [retOf]
    all_goals omega
  · skip
    refine gf ?_
    refine gf ?_
    refine gf ?_
    refine sp pK ?_
    refine sp pMa ?_
    refine oNil ?_
    refine aRet ?_
    refine finIs rfl ?_
    simp_all [retOf]
    all_goals omega
/- waymarkref27.May -/
def ref27_May_r7_T : Bool × List (List Nat × List Nat) := (true, [([], []), ([0], [0]), ([1], [1]), ([2], [2]), ([2], [2]), ([4, 2], [2, 4]), ([3, 5, 2], [2, 3, 5]), ([6, 2], [2, 6]), ([7, 2], [2, 7]), ([2], [2]), ([9, 2], [2, 9]), ([8, 10, 2], [2, 8, 10]), ([11, 2, 2], [2, 11]), ([12], [12]), ([12], [12]), ([14, 12], [12, 14]), ([13, 15, 12], [12, 13, 15]), ([16, 12], [12, 16]), ([17, 12], [12, 17]), ([12], [12]), ([19, 12], [12, 19]), ([18, 20, 12], [12, 18, 20]), ([21, 12, 12], [12, 21]), ([22], [22]), ([22], [22]), ([24, 22], [22, 24]), ([23, 25, 22], [22, 23, 25]), ([26, 22], [22, 26]), ([27, 22], [22, 27]), ([22], [22]), ([29, 22], [22, 29]), ([28, 30, 22], [22, 28, 30]), ([22, 31, 12], [12, 22, 31]), ([12, 32, 2], [2, 12, 32]), ([2, 33], [2, 33])])
def ref27_May_r7_B : List Nat := [0, 1, 3, 7, 7, 23, 63, 127, 255, 7, 519, 2047, 4095, 8191, 8191, 24575, 65535, 131071, 262143, 8191, 532479, 2097151, 4194303, 8388607, 8388607, 25165823, 67108863, 134217727, 268435455, 8388607, 545259519, 2147483647, 4294967295, 8589934591, 17179869183]
theorem ref27_May_r7_t : Go.Proofs.YtmcannmjielalaaW.PrintLast.rtab .any (Go.Proofs.YtmcannmjielalaaW.PrintLast.opsOf Try.f99 7) = ref27_May_r7_T := by kernel_rfl
theorem ref27_May_r7_b : Go.Proofs.YtmcannmjielalaaW.PrintLast.waitsOk ref27_May_r7_T.2 ref27_May_r7_B = true := by kernel_rfl
set_option maxRecDepth 100000 in
set_option maxHeartbeats 2000000 in
theorem ref27_May {l : List Wi} (hl : l.length < 9223372036854775807) : Triple Try.prog 99 [.sl 5 (l.map wirC)] [] (Is (.v (.bool (wiresB l))) []) := by
  refine triple_of Try.func99 rfl (by kernel_rfl) rfl (by simp) ?_
  refine aSeq ?_
  refine aReg ?_
  refine sp pMa ?_
  refine oNil ?_
  refine aSeq ?_
  refine aSeq ?_
  refine aReg ?_
  refine sp pMa ?_
  refine oNil ?_
  refine aBlock ?_
  refine loopF (α := Nat) (kept := [(0, _)]) (fun i => i ≤ l.length ∧ (∀ w ∈ l.take i, WOk w) ∧ (l.take i).Pairwise ltWi) (fun i => [(3, .int i)]) (fun i => []) (fun i => l.length - i) 0 ?_ ⟨gInt rfl (by first | rfl | omega | simp), rfl, trivial⟩ (by repeat constructor) ?_
  · skip
    exact ⟨by omega, fun w hw => by simp at hw, by simp⟩
  · rintro i ⟨hi, hv, hs⟩
    refine aSeq ?_
    refine aSeq ?_
    refine aReg ?_
    refine sp pM ?_
    refine sp pM ?_
    refine sp (by first | exact pLm sl_112 | exact pLs sl_112) ?_
    refine sp pB ?_
    refine oNil ?_
    refine aCondDec rfl (fun c8 => ?_) (fun c8 => ?_)
    · skip
      refine aSkip ?_
      refine aSeq ?_
      refine aBlock ?_
      refine aSeq ?_
      obtain ⟨x, hx⟩ : ∃ z, l[i]? = some z := ⟨_, List.getElem?_eq_getElem (by omega)⟩
      refine aReg ?_
      refine sp pM ?_
      refine sp pM ?_
      first | refine sp (pIx es_112) ?_ | (refine obtSN 11 12 rfl rfl (by omega) (fun x13 hx13 => ?_); refine sp (pIs es_112 hx13) ?_) | (refine obtS 11 12 rfl rfl (by omega) (by omega) (fun x13 hx13 => ?_); refine sp (pIs es_112 hx13) ?_) | refine sp (pIo es_112) ?_
      refine sr (by first | exact rSW ty_226 rfl | exact rSA ty_226) ?_
      refine sq ?_
      refine qAlloc rfl rfl (by decide) ze_226 rfl (fun b4 => ?_)
      refine sa ?_
      refine oStW rfl rfl rfl rfl (by repeat constructor) ty_226 ?_
      refine oNil ?_
      refine aSeq ?_
      refine aSeq ?_
      refine aReg ?_
      refine sp (pFb fd_226_0) ?_
      refine sr (rB1 ty_3) ?_
      refine sp pB ?_
      refine sp pM ?_
      refine oSplitDec 18 rfl (fun c18 => ?_) (fun c18 => ?_)
      · skip
        refine gf ?_
        refine gf ?_
        refine gf ?_
        refine gf ?_
        refine gf ?_
        refine sp pK ?_
        refine sp pM ?_
        refine gf ?_
        refine gf ?_
        refine gf ?_
        refine sp pK ?_
        refine sp pM ?_
        refine gf ?_
        refine gf ?_
        refine gf ?_
        refine sp pK ?_
        refine sp pM ?_
        refine gf ?_
        refine gf ?_
        refine gf ?_
        refine sp pK ?_
        refine sp pM ?_
        refine gf ?_
        refine gf ?_
        refine gf ?_
        refine sp pK ?_
        refine sp pM ?_
        refine gf ?_
        refine gf ?_
        refine gf ?_
        refine sp pK ?_
        refine oNil ?_
        refine aCondT rfl ?_
        refine aSeq ?_
        refine aReg ?_
        refine sp pMa ?_
        refine oNil ?_
        refine aRet ?_
        refine finIs rfl ?_
        rw [wires_bad1 hx (by unfold WOk; omega)]
        rfl
      · skip
        refine gp (pFb fd_226_0) ?_
        refine gr (rB1 ty_3) ?_
        refine gp (pFb fd_226_1) ?_
        refine gr (rB1 ty_3) ?_
        refine gp pB ?_
        refine sp pK ?_
        refine sp pM ?_
        refine oSplitDec 25 rfl (fun c25 => ?_) (fun c25 => ?_)
        · skip
          refine gf ?_
          refine gf ?_
          refine gf ?_
          refine sp pK ?_
          refine sp pM ?_
          refine gf ?_
          refine gf ?_
          refine gf ?_
          refine sp pK ?_
          refine sp pM ?_
          refine gf ?_
          refine gf ?_
          refine gf ?_
          refine sp pK ?_
          refine sp pM ?_
          refine gf ?_
          refine gf ?_
          refine gf ?_
          refine sp pK ?_
          refine sp pM ?_
          refine gf ?_
          refine gf ?_
          refine gf ?_
          refine sp pK ?_
          refine oNil ?_
          refine aCondT rfl ?_
          refine aSeq ?_
          refine aReg ?_
          refine sp pMa ?_
          refine oNil ?_
          refine aRet ?_
          refine finIs rfl ?_
          rw [wires_bad1 hx (by unfold WOk; omega)]
          rfl
        · skip
          refine gp (pFb fd_226_1) ?_
          refine gr (rB1 ty_3) ?_
          refine gp pB ?_
          refine sp pK ?_
          refine sp pM ?_
          refine oSplitDec 30 rfl (fun c30 => ?_) (fun c30 => ?_)
          · skip
            refine gf ?_
            refine gf ?_
            refine gf ?_
            refine sp pK ?_
            refine sp pM ?_
            refine gf ?_
            refine gf ?_
            refine gf ?_
            refine sp pK ?_
            refine sp pM ?_
            refine gf ?_
            refine gf ?_
            refine gf ?_
            refine sp pK ?_
            refine sp pM ?_
            refine gf ?_
            refine gf ?_
            refine gf ?_
            refine sp pK ?_
            refine oNil ?_
            refine aCondT rfl ?_
            refine aSeq ?_
            refine aReg ?_
            refine sp pMa ?_
            refine oNil ?_
            refine aRet ?_
            refine finIs rfl ?_
            rw [wires_bad1 hx (by unfold WOk; omega)]
            rfl
          · skip
            refine gp (pFb fd_226_3) ?_
            refine gr (rB1 ty_3) ?_
            refine gp pB ?_
            refine sp pK ?_
            refine sp pM ?_
            refine oSplitDec 35 rfl (fun c35 => ?_) (fun c35 => ?_)
            · skip
              refine gf ?_
              refine gf ?_
              refine gf ?_
              refine sp pK ?_
              refine sp pM ?_
              refine gf ?_
              refine gf ?_
              refine gf ?_
              refine sp pK ?_
              refine sp pM ?_
              refine gf ?_
              refine gf ?_
              refine gf ?_
              refine sp pK ?_
              refine oNil ?_
              refine aCondT rfl ?_
              refine aSeq ?_
              refine aReg ?_
              refine sp pMa ?_
              refine oNil ?_
              refine aRet ?_
              refine finIs rfl ?_
              rw [wires_bad1 hx (by unfold WOk; omega)]
              rfl
            · skip
              refine gp (pFb fd_226_3) ?_
              refine gr (rB1 ty_3) ?_
              refine gp pB ?_
              refine sp pK ?_
              refine sp pM ?_
              refine oSplitDec 40 rfl (fun c40 => ?_) (fun c40 => ?_)
              · skip
                refine gf ?_
                refine gf ?_
                refine gf ?_
                refine sp pK ?_
                refine sp pM ?_
                refine gf ?_
                refine gf ?_
                refine gf ?_
                refine sp pK ?_
                refine oNil ?_
                refine aCondT rfl ?_
                refine aSeq ?_
                refine aReg ?_
                refine sp pMa ?_
                refine oNil ?_
                refine aRet ?_
                refine finIs rfl ?_
                rw [wires_bad1 hx (by unfold WOk; omega)]
                rfl
              · skip
                refine gp (pFb fd_226_4) ?_
                refine gr (rB1 ty_3) ?_
                refine gp pB ?_
                refine sp pK ?_
                refine sp pM ?_
                refine oSplitDec 45 rfl (fun c45 => ?_) (fun c45 => ?_)
                · skip
                  refine gf ?_
                  refine gf ?_
                  refine gf ?_
                  refine sp pK ?_
                  refine oNil ?_
                  refine aCondT rfl ?_
                  refine aSeq ?_
                  refine aReg ?_
                  refine sp pMa ?_
                  refine oNil ?_
                  refine aRet ?_
                  refine finIs rfl ?_
                  rw [wires_bad1 hx (by unfold WOk; omega)]
                  rfl
                · skip
                  refine gp (pFb fd_226_4) ?_
                  refine gr (rB1 ty_3) ?_
                  refine gp pB ?_
                  refine sp pK ?_
                  refine oNil ?_
                  refine aCondDec rfl (fun c49 => ?_) (fun c49 => ?_)
                  · skip
                    refine aSeq ?_
                    refine aReg ?_
                    refine sp pMa ?_
                    refine oNil ?_
                    refine aRet ?_
                    refine finIs rfl ?_
                    rw [wires_bad1 hx (by unfold WOk; omega)]
                    rfl
                  · skip
                    refine aSkip ?_
                    refine aSeq ?_
                    refine aDrawT ref27_May_r7_t ref27_May_r7_b [] 35 #[false, false, false, false, false, false, false, false, false, false, false, false, false, false, false, false, false, false, false, false, false, false, false, false, false, false, false, false, false, false, false, false, false, false, false] (by kernel_rfl) rfl rfl (fun HT => ?_)
                    refine dp HT 0 rfl pM ?_
                    refine dp HT 1 rfl pB ?_
                    refine dp HT 2 rfl pM ?_
                    refine dSplitDec 52 rfl (fun c52 => ?_) (fun c52 => ?_)
                    · skip
                      obtain ⟨p, hp⟩ : ∃ z, l[i - 1]? = some z := ⟨_, List.getElem?_eq_getElem (by omega)⟩
                      have hp2 : l[((i : Int) - 1).toNat]? = some p := by rw [show ((i : Int) - 1).toNat = i - 1 by omega]; exact hp
                      refine dpG HT 3 rfl pM ?_
                      refine dpG HT 4 rfl pM ?_
                      refine dpG HT 5 rfl pSu ?_
                      first | refine dpG HT 6 rfl (pIx es_112) ?_ | (refine obtDN 53 55 rfl rfl (by omega) (fun x56 hx56 => ?_); refine dpG HT 6 rfl (pIs es_112 hx56) ?_) | (refine obtD 53 55 rfl rfl (by omega) (by omega) (fun x56 hx56 => ?_); refine dpG HT 6 rfl (pIs es_112 hx56) ?_) | refine dpG HT 6 rfl (pIo es_112) ?_
                      refine dpG HT 7 rfl (pFs fd_226_0) ?_
                      refine drG HT 8 rfl (rS1 ty_3) ?_
                      refine dpG HT 9 rfl (pFb fd_226_0) ?_
                      refine drG HT 10 rfl (rB1 ty_3) ?_
                      refine dpG HT 11 rfl pB ?_
                      refine dpG HT 12 rfl pM ?_
                      refine dSplitDec 62 rfl (fun c62 => ?_) (fun c62 => ?_)
                      · skip
                        refine dS HT 13 rfl ?_
                        refine dS HT 14 rfl ?_
                        refine dS HT 15 rfl ?_
                        refine dS HT 16 rfl ?_
                        refine dS HT 17 rfl ?_
                        refine dS HT 18 rfl ?_
                        refine dS HT 19 rfl ?_
                        refine dS HT 20 rfl ?_
                        refine dS HT 21 rfl ?_
                        refine dS HT 22 rfl ?_
                        refine dS HT 23 rfl ?_
                        refine dS HT 24 rfl ?_
                        refine dS HT 25 rfl ?_
                        refine dS HT 26 rfl ?_
                        refine dS HT 27 rfl ?_
                        refine dS HT 28 rfl ?_
                        refine dS HT 29 rfl ?_
                        refine dS HT 30 rfl ?_
                        refine dS HT 31 rfl ?_
                        refine dS HT 32 rfl ?_
                        refine dpG HT 33 rfl pK ?_
                        refine dp HT 34 rfl pK ?_
                        refine dE HT ?_
                        clear HT
                        refine aCondT rfl ?_
                        refine aSeq ?_
                        refine aReg ?_
                        refine sp pMa ?_
                        refine oNil ?_
                        refine aRet ?_
                        refine finIs rfl ?_
                        rw [wires_bad2 hp hx (by omega) (by unfold ltWi; omega)]
                        rfl
                      · skip
                        refine dpG HT 13 rfl pM ?_
                        refine dpG HT 14 rfl pM ?_
                        refine dpG HT 15 rfl pSu ?_
                        first | refine dpG HT 16 rfl (pIx es_112) ?_ | (refine obtDN 63 65 rfl rfl (by omega) (fun x66 hx66 => ?_); refine dpG HT 16 rfl (pIs es_112 hx66) ?_) | (refine obtD 63 65 rfl rfl (by omega) (by omega) (fun x66 hx66 => ?_); refine dpG HT 16 rfl (pIs es_112 hx66) ?_) | refine dpG HT 16 rfl (pIo es_112) ?_
                        refine dpG HT 17 rfl (pFs fd_226_0) ?_
                        refine drG HT 18 rfl (rS1 ty_3) ?_
                        refine dpG HT 19 rfl (pFb fd_226_0) ?_
                        refine drG HT 20 rfl (rB1 ty_3) ?_
                        refine dpG HT 21 rfl pB ?_
                        refine dpG HT 22 rfl pM ?_
                        refine dSplitEq 72 rfl (fun c72 => ?_) (fun c72 => ?_)
                        · skip
                          refine dpG HT 23 rfl pM ?_
                          refine dpG HT 24 rfl pM ?_
                          refine dpG HT 25 rfl pSu ?_
                          first | refine dpG HT 26 rfl (pIx es_112) ?_ | (refine obtDN 73 75 rfl rfl (by omega) (fun x76 hx76 => ?_); refine dpG HT 26 rfl (pIs es_112 hx76) ?_) | (refine obtD 73 75 rfl rfl (by omega) (by omega) (fun x76 hx76 => ?_); refine dpG HT 26 rfl (pIs es_112 hx76) ?_) | refine dpG HT 26 rfl (pIo es_112) ?_
                          refine dpG HT 27 rfl (pFs fd_226_1) ?_
                          refine drG HT 28 rfl (rS1 ty_3) ?_
                          refine dpG HT 29 rfl (pFb fd_226_1) ?_
                          refine drG HT 30 rfl (rB1 ty_3) ?_
                          refine dpG HT 31 rfl pB ?_
                          refine dpG HT 32 rfl pK ?_
                          refine dpG HT 33 rfl pK ?_
                          refine dp HT 34 rfl pK ?_
                          refine dE HT ?_
                          clear HT
                          refine aCondDec rfl (fun c84 => ?_) (fun c84 => ?_)
                          · skip
                            refine aSeq ?_
                            refine aReg ?_
                            refine sp pMa ?_
                            refine oNil ?_
                            refine aRet ?_
                            refine finIs rfl ?_
                            rw [wires_bad2 hp hx (by omega) (by unfold ltWi; omega)]
                            rfl
                          · skip
                            refine aSkip ?_
                            refine aReg ?_
                            refine sp pM ?_
                            refine sp pAd ?_
                            refine sp pMa ?_
                            refine oNil ?_
                            refine ⟨i + 1, ?_, by (try dsimp only); omega, ⟨gInt rfl (by first | rfl | omega | simp), rfl, trivial⟩, _, (by repeat constructor)⟩
                            refine ⟨by omega, fun w hw => ?_, pw_step (r := ltWi) (fun _ _ _ => ltWi_trans) hx hs ?_⟩
                            · rw [take_step hx] at hw
                              rcases List.mem_append.1 hw with hw | hw
                              · exact hv w hw
                              · rw [List.mem_singleton.1 hw]; unfold WOk; omega
                            · first
                                | (left; omega)
                                | (refine .inr ⟨p, hp, ?_⟩; unfold ltWi; omega)
                        · skip
                          refine dS HT 23 rfl ?_
                          refine dS HT 24 rfl ?_
                          refine dS HT 25 rfl ?_
                          refine dS HT 26 rfl ?_
                          refine dS HT 27 rfl ?_
                          refine dS HT 28 rfl ?_
                          refine dS HT 29 rfl ?_
                          refine dS HT 30 rfl ?_
                          refine dS HT 31 rfl ?_
                          refine dpG HT 32 rfl pK ?_
                          refine dpG HT 33 rfl pK ?_
                          refine dp HT 34 rfl pK ?_
                          refine dE HT ?_
                          clear HT
                          refine aCondF rfl ?_
                          refine aSkip ?_
                          refine aReg ?_
                          refine sp pM ?_
                          refine sp pAd ?_
                          refine sp pMa ?_
                          refine oNil ?_
                          refine ⟨i + 1, ?_, by (try dsimp only); omega, ⟨gInt rfl (by first | rfl | omega | simp), rfl, trivial⟩, _, (by repeat constructor)⟩
                          refine ⟨by omega, fun w hw => ?_, pw_step (r := ltWi) (fun _ _ _ => ltWi_trans) hx hs ?_⟩
                          · rw [take_step hx] at hw
                            rcases List.mem_append.1 hw with hw | hw
                            · exact hv w hw
                            · rw [List.mem_singleton.1 hw]; unfold WOk; omega
                          · first
                              | (left; omega)
                              | (refine .inr ⟨p, hp, ?_⟩; unfold ltWi; omega)
                    · skip
                      refine dS HT 3 rfl ?_
                      refine dS HT 4 rfl ?_
                      refine dS HT 5 rfl ?_
                      refine dS HT 6 rfl ?_
                      refine dS HT 7 rfl ?_
                      refine dS HT 8 rfl ?_
                      refine dS HT 9 rfl ?_
                      refine dS HT 10 rfl ?_
                      refine dS HT 11 rfl ?_
                      refine dS HT 12 rfl ?_
                      refine dS HT 13 rfl ?_
                      refine dS HT 14 rfl ?_
                      refine dS HT 15 rfl ?_
                      refine dS HT 16 rfl ?_
                      refine dS HT 17 rfl ?_
                      refine dS HT 18 rfl ?_
                      refine dS HT 19 rfl ?_
                      refine dS HT 20 rfl ?_
                      refine dS HT 21 rfl ?_
                      refine dS HT 22 rfl ?_
                      refine dS HT 23 rfl ?_
                      refine dS HT 24 rfl ?_
                      refine dS HT 25 rfl ?_
                      refine dS HT 26 rfl ?_
                      refine dS HT 27 rfl ?_
                      refine dS HT 28 rfl ?_
                      refine dS HT 29 rfl ?_
                      refine dS HT 30 rfl ?_
                      refine dS HT 31 rfl ?_
                      refine dS HT 32 rfl ?_
                      refine dS HT 33 rfl ?_
                      refine dp HT 34 rfl pK ?_
                      refine dE HT ?_
                      clear HT
                      refine aCondF rfl ?_
                      refine aSkip ?_
                      refine aReg ?_
                      refine sp pM ?_
                      refine sp pAd ?_
                      refine sp pMa ?_
                      refine oNil ?_
                      refine ⟨i + 1, ?_, by (try dsimp only); omega, ⟨gInt rfl (by first | rfl | omega | simp), rfl, trivial⟩, _, (by repeat constructor)⟩
                      refine ⟨by omega, fun w hw => ?_, pw_step (r := ltWi) (fun _ _ _ => ltWi_trans) hx hs ?_⟩
                      · rw [take_step hx] at hw
                        rcases List.mem_append.1 hw with hw | hw
                        · exact hv w hw
                        · rw [List.mem_singleton.1 hw]; unfold WOk; omega
                      · first
                          | (left; omega)
                          | (refine .inr ⟨p, hp, ?_⟩; unfold ltWi; omega)
    · skip
      refine aExit rfl ?_
      refine aSeq ?_
      refine aReg ?_
      refine sp pMa ?_
      refine oNil ?_
      refine aRet ?_
      refine finIs rfl ?_
      rw [take_all (by omega)] at hv hs
      rw [wires_good hv hs]
      rfl
theorem ordw {p x : Wi} : orI [cmpI p.a x.a, cmpI p.b x.b] < 0 ↔ ltWi p x := by
  simp only [orI]
  have h1 := cmpI_ne (a := p.a) (b := x.a)
  have h2 := cmpI_lt (a := p.a) (b := x.a)
  have h3 := cmpI_ne (a := p.b) (b := x.b)
  have h4 := cmpI_lt (a := p.b) (b := x.b)
  unfold ltWi
  split
  · omega
  · split <;> omega
/- live.Check -/
def live_Check_r6_T : Bool × List (List Nat × List Nat) := (true, [([], []), ([0], [0]), ([1], [1]), ([2], [2]), ([2], [2]), ([4, 2], [2, 4]), ([3, 5, 2], [2, 3, 5]), ([6, 2], [2, 6]), ([7, 2], [2, 7]), ([2], [2]), ([9, 2], [2, 9]), ([8, 10, 2, 2], [2, 8, 10]), ([2], [2]), ([2], [2]), ([13, 2], [2, 13]), ([12, 14, 2], [2, 12, 14]), ([15, 2], [2, 15]), ([16, 2], [2, 16]), ([2], [2]), ([18, 2], [2, 18]), ([17, 19, 11, 2], [2, 17, 19]), ([11, 20, 2], [2, 11, 20]), ([21, 20, 2], [2, 21]), ([22, 2], [2, 22]), ([2, 23], [2, 23])])
def live_Check_r6_B : List Nat := [0, 1, 3, 7, 7, 23, 63, 127, 255, 7, 519, 2047, 7, 7, 8199, 28679, 61447, 126983, 7, 262151, 1048575, 2097151, 4194303, 8388607, 16777215]
theorem live_Check_r6_t : Go.Proofs.YtmcannmjielalaaW.PrintLast.rtab .any (Go.Proofs.YtmcannmjielalaaW.PrintLast.opsOf Try.f98 6) = live_Check_r6_T := by kernel_rfl
theorem live_Check_r6_b : Go.Proofs.YtmcannmjielalaaW.PrintLast.waitsOk live_Check_r6_T.2 live_Check_r6_B = true := by kernel_rfl
set_option maxRecDepth 100000 in
set_option maxHeartbeats 4000000 in
theorem live_Check {l : List Wi} (hl : l.length < 9223372036854775807) : Triple Try.prog 98 [.sl 5 (l.map wirC)] [] (Is (.v (.int .i64 (if wiresB l then 0 else 1))) []) := by
  refine triple_of Try.func98 rfl (by kernel_rfl) rfl (by simp) ?_
  refine aSeq ?_
  refine aReg ?_
  refine sp pMa ?_
  refine oNil ?_
  refine aSeq ?_
  refine aSeq ?_
  refine aReg ?_
  refine sp pM ?_
  refine sp (by first | exact pLm sl_112 | exact pLs sl_112) ?_
  refine sp pM ?_
  refine oNil ?_
  refine aBlock ?_
  refine loopF (α := Nat) (kept := [(0, _), (5, _), (6, _)]) (fun i => i ≤ l.length ∧ (∀ w ∈ l.take i, WOk w) ∧ (l.take i).Pairwise ltWi) (fun i => [(7, .int i)]) (fun i => []) (fun i => l.length - i) 0 ?_ ⟨gInt rfl (by first | rfl | omega | simp), rfl, rfl, rfl, trivial⟩ (by repeat constructor) ?_
  · skip
    exact ⟨by omega, fun w hw => by simp at hw, by simp⟩
  · rintro i ⟨hi, hv, hs⟩
    refine aSeq ?_
    refine aReg ?_
    refine sp pB ?_
    refine oNil ?_
    refine aSeq ?_
    refine aCondDec rfl (fun c8 => ?_) (fun c8 => ?_)
    · skip
      refine aSkip ?_
      refine aSeq ?_
      refine aBlock ?_
      refine aSeq ?_
      obtain ⟨x, hx⟩ : ∃ z, l[i]? = some z := ⟨_, List.getElem?_eq_getElem (by omega)⟩
      refine aReg ?_
      refine sp pM ?_
      first | refine sp (pIx es_112) ?_ | (refine obtSN 5 7 rfl rfl (by omega) (fun x10 hx10 => ?_); refine sp (pIs es_112 hx10) ?_) | (refine obtS 5 7 rfl rfl (by omega) (by omega) (fun x10 hx10 => ?_); refine sp (pIs es_112 hx10) ?_) | refine sp (pIo es_112) ?_
      refine sr (by first | exact rSW ty_226 rfl | exact rSA ty_226) ?_
      refine sq ?_
      refine qAlloc rfl rfl (by decide) ze_226 rfl (fun b4 => ?_)
      refine sp pMa ?_
      refine sa ?_
      refine oStW rfl rfl rfl rfl (by repeat constructor) ty_226 ?_
      refine oNil ?_
      refine aSeq ?_
      refine aSeq ?_
      refine aReg ?_
      refine sp (pFb fd_226_0) ?_
      refine sr (rB1 ty_3) ?_
      refine sq ?_
      refine cv rfl rfl rfl (lents_refl _) live_within ?_
      refine sp pNo ?_
      refine sp pM ?_
      refine oSplitNot 16 rfl (fun c16 => ?_) (fun c16 => ?_)
      · skip
        refine gf ?_
        refine gf ?_
        refine gf ?_
        refine gf ?_
        refine sp pK ?_
        refine sp pM ?_
        refine gf ?_
        refine gf ?_
        refine gf ?_
        refine gf ?_
        refine gf ?_
        refine sp pK ?_
        refine sp pM ?_
        refine gf ?_
        refine gf ?_
        refine gf ?_
        refine gf ?_
        refine sp pK ?_
        refine sp pM ?_
        refine gf ?_
        refine gf ?_
        refine gf ?_
        refine gf ?_
        refine sp pK ?_
        refine oNil ?_
        refine aCondT rfl ?_
        refine aSeq ?_
        refine aReg ?_
        refine sp pMa ?_
        refine oNil ?_
        refine aRet ?_
        refine finIs rfl ?_
        rw [wires_bad1 hx (fun e => by unfold WOk at e; first | (simp_all; done) | (simp_all; omega))]
        rfl
      · skip
        refine gp (pFb fd_226_1) ?_
        refine gr (rB1 ty_3) ?_
        refine ga ?_
        refine (cv rfl rfl rfl (lents_refl _) live_within ?_).op
        refine gp pNo ?_
        refine sp pK ?_
        refine sp pM ?_
        refine oSplitNot 22 rfl (fun c22 => ?_) (fun c22 => ?_)
        · skip
          refine gf ?_
          refine gf ?_
          refine gf ?_
          refine gf ?_
          refine gf ?_
          refine sp pK ?_
          refine sp pM ?_
          refine gf ?_
          refine gf ?_
          refine gf ?_
          refine gf ?_
          refine sp pK ?_
          refine sp pM ?_
          refine gf ?_
          refine gf ?_
          refine gf ?_
          refine gf ?_
          refine sp pK ?_
          refine oNil ?_
          refine aCondT rfl ?_
          refine aSeq ?_
          refine aReg ?_
          refine sp pMa ?_
          refine oNil ?_
          refine aRet ?_
          refine finIs rfl ?_
          rw [wires_bad1 hx (fun e => by unfold WOk at e; first | (simp_all; done) | (simp_all; omega))]
          rfl
        · skip
          refine gp (pFb fd_226_0) ?_
          refine gr (rB1 ty_3) ?_
          refine gp (pFb fd_226_1) ?_
          refine gr (rB1 ty_3) ?_
          refine gp pB ?_
          refine sp pK ?_
          refine sp pM ?_
          refine oSplitDec 29 rfl (fun c29 => ?_) (fun c29 => ?_)
          · skip
            refine gf ?_
            refine gf ?_
            refine gf ?_
            refine gf ?_
            refine sp pK ?_
            refine sp pM ?_
            refine gf ?_
            refine gf ?_
            refine gf ?_
            refine gf ?_
            refine sp pK ?_
            refine oNil ?_
            refine aCondT rfl ?_
            refine aSeq ?_
            refine aReg ?_
            refine sp pMa ?_
            refine oNil ?_
            refine aRet ?_
            refine finIs rfl ?_
            rw [wires_bad1 hx (fun e => by unfold WOk at e; first | (simp_all; done) | (simp_all; omega))]
            rfl
          · skip
            refine gp (pFb fd_226_3) ?_
            refine gr (rB1 ty_3) ?_
            refine ga ?_
            refine (cv rfl rfl rfl (lents_refl _) live_within ?_).op
            refine gp pNo ?_
            refine sp pK ?_
            refine sp pM ?_
            refine oSplitNot 35 rfl (fun c35 => ?_) (fun c35 => ?_)
            · skip
              refine gf ?_
              refine gf ?_
              refine gf ?_
              refine gf ?_
              refine sp pK ?_
              refine oNil ?_
              refine aCondT rfl ?_
              refine aSeq ?_
              refine aReg ?_
              refine sp pMa ?_
              refine oNil ?_
              refine aRet ?_
              refine finIs rfl ?_
              rw [wires_bad1 hx (fun e => by unfold WOk at e; first | (simp_all; done) | (simp_all; omega))]
              rfl
            · skip
              refine gp (pFb fd_226_4) ?_
              refine gr (rB1 ty_3) ?_
              refine ga ?_
              refine (cv rfl rfl rfl (lents_refl _) live_within ?_).op
              refine gp pNo ?_
              refine sp pK ?_
              refine oNil ?_
              refine aCondNot rfl (fun c40 => ?_) (fun c40 => ?_)
              · skip
                refine aSeq ?_
                refine aReg ?_
                refine sp pMa ?_
                refine oNil ?_
                refine aRet ?_
                refine finIs rfl ?_
                rw [wires_bad1 hx (fun e => by unfold WOk at e; first | (simp_all; done) | (simp_all; omega))]
                rfl
              · skip
                refine aSkip ?_
                refine aSeq ?_
                refine aDrawT live_Check_r6_t live_Check_r6_b [] 25 #[false, false, false, false, false, false, false, false, false, false, false, false, false, false, false, false, false, false, false, false, false, false, false, false, false] (by kernel_rfl) rfl rfl (fun HT => ?_)
                refine dp HT 0 rfl pM ?_
                refine dp HT 1 rfl pB ?_
                refine dp HT 2 rfl pM ?_
                refine dSplitDec 43 rfl (fun c43 => ?_) (fun c43 => ?_)
                · skip
                  obtain ⟨p, hp⟩ : ∃ z, l[i - 1]? = some z := ⟨_, List.getElem?_eq_getElem (by omega)⟩
                  have hp2 : l[((i : Int) - 1).toNat]? = some p := by rw [show ((i : Int) - 1).toNat = i - 1 by omega]; exact hp
                  refine dpG HT 3 rfl pM ?_
                  refine dpG HT 4 rfl pM ?_
                  refine dpG HT 5 rfl pSu ?_
                  first | refine dpG HT 6 rfl (pIx es_112) ?_ | (refine obtDN 44 46 rfl rfl (by omega) (fun x47 hx47 => ?_); refine dpG HT 6 rfl (pIs es_112 hx47) ?_) | (refine obtD 44 46 rfl rfl (by omega) (by omega) (fun x47 hx47 => ?_); refine dpG HT 6 rfl (pIs es_112 hx47) ?_) | refine dpG HT 6 rfl (pIo es_112) ?_
                  refine dpG HT 7 rfl (pFs fd_226_0) ?_
                  refine drG HT 8 rfl (rS1 ty_3) ?_
                  refine dpG HT 9 rfl (pFb fd_226_0) ?_
                  refine drG HT 10 rfl (rB1 ty_3) ?_
                  refine dpG HT 12 rfl pM ?_
                  refine dpG HT 13 rfl pM ?_
                  refine dpG HT 14 rfl pSu ?_
                  first | refine dpG HT 15 rfl (pIx es_112) ?_ | (refine obtDN 53 55 rfl rfl (by omega) (fun x56 hx56 => ?_); refine dpG HT 15 rfl (pIs es_112 hx56) ?_) | (refine obtD 53 55 rfl rfl (by omega) (by omega) (fun x56 hx56 => ?_); refine dpG HT 15 rfl (pIs es_112 hx56) ?_) | refine dpG HT 15 rfl (pIo es_112) ?_
                  refine dpG HT 16 rfl (pFs fd_226_1) ?_
                  refine drG HT 17 rfl (rS1 ty_3) ?_
                  refine dpG HT 18 rfl (pFb fd_226_1) ?_
                  refine drG HT 19 rfl (rB1 ty_3) ?_
                  refine dGo ?_
                  refine e1G HT 11 rfl ?_
                  refine cv rfl rfl rfl (lents_refl _) (cmp_Compare (a := p.a) (b := x.a)) ?_
                  refine e1G HT 20 rfl ?_
                  refine cv rfl rfl rfl (lents_refl _) (cmp_Compare (a := p.b) (b := x.b)) ?_
                  refine e1G HT 21 rfl ?_
                  refine qLit (l := [_, _]) rfl rfl (by decide) us_25 ty_3 ze_3 rfl (by decide) (by decide) rfl rfl rfl (fun b62 => ?_)
                  refine e1G HT 22 rfl ?_
                  refine cv rfl rfl rfl (by repeat (first | exact .nil | refine .cons (.sl (by repeat (first | exact List.mem_cons_self | apply List.mem_cons_of_mem)) (by first | rfl | simp)) ?_ | refine .cons (.same _) ?_)) (cmp_Or [cmpI p.a x.a, cmpI p.b x.b]) ?_
                  refine efG HT 23 rfl pB ?_
                  refine ef HT 24 rfl pK ?_
                  refine eE HT ?_
                  clear HT
                  refine aCondDec rfl (fun c65 => ?_) (fun c65 => ?_)
                  · skip
                    refine aSeq ?_
                    refine aReg ?_
                    refine sp pMa ?_
                    refine oNil ?_
                    refine aRet ?_
                    refine finIs rfl ?_
                    rw [wires_bad2 hp hx (by omega) (by rw [← ordw]; omega)]
                    rfl
                  · skip
                    refine aSkip ?_
                    refine aReg ?_
                    refine sp pAd ?_
                    refine sp pM ?_
                    refine oNil ?_
                    refine ⟨i + 1, ?_, by (try dsimp only); omega, ⟨gInt rfl (by first | rfl | omega | simp), rfl, rfl, rfl, trivial⟩, _, (by repeat constructor)⟩
                    refine ⟨by omega, fun w hw => ?_, pw_step (r := ltWi) (fun _ _ _ => ltWi_trans) hx hs ?_⟩
                    · rw [take_step hx] at hw
                      rcases List.mem_append.1 hw with hw | hw
                      · exact hv w hw
                      · rw [List.mem_singleton.1 hw]; unfold WOk; first | (simp_all; done) | (simp_all; omega)
                    · first
                        | (left; omega)
                        | (refine .inr ⟨p, hp, ?_⟩; rw [← ordw]; omega)
                · skip
                  refine dS HT 3 rfl ?_
                  refine dS HT 4 rfl ?_
                  refine dS HT 5 rfl ?_
                  refine dS HT 6 rfl ?_
                  refine dS HT 7 rfl ?_
                  refine dS HT 8 rfl ?_
                  refine dS HT 9 rfl ?_
                  refine dS HT 10 rfl ?_
                  refine dS HT 11 rfl ?_
                  refine dS HT 12 rfl ?_
                  refine dS HT 13 rfl ?_
                  refine dS HT 14 rfl ?_
                  refine dS HT 15 rfl ?_
                  refine dS HT 16 rfl ?_
                  refine dS HT 17 rfl ?_
                  refine dS HT 18 rfl ?_
                  refine dS HT 19 rfl ?_
                  refine dGo ?_
                  refine eS HT 20 rfl ?_
                  refine eS HT 21 rfl ?_
                  refine eS HT 22 rfl ?_
                  refine eS HT 23 rfl ?_
                  refine ef HT 24 rfl pK ?_
                  refine eE HT ?_
                  clear HT
                  refine aCondF rfl ?_
                  refine aSkip ?_
                  refine aReg ?_
                  refine sp pAd ?_
                  refine sp pM ?_
                  refine oNil ?_
                  refine ⟨i + 1, ?_, by (try dsimp only); omega, ⟨gInt rfl (by first | rfl | omega | simp), rfl, rfl, rfl, trivial⟩, _, (by repeat constructor)⟩
                  refine ⟨by omega, fun w hw => ?_, pw_step (r := ltWi) (fun _ _ _ => ltWi_trans) hx hs ?_⟩
                  · rw [take_step hx] at hw
                    rcases List.mem_append.1 hw with hw | hw
                    · exact hv w hw
                    · rw [List.mem_singleton.1 hw]; unfold WOk; first | (simp_all; done) | (simp_all; omega)
                  · first
                      | (left; omega)
                      | (refine .inr ⟨p, hp, ?_⟩; rw [← ordw]; omega)
    · skip
      refine aExit rfl ?_
      refine aSeq ?_
      refine aReg ?_
      refine sp pMa ?_
      refine oNil ?_
      refine aRet ?_
      refine finIs rfl ?_
      rw [take_all (by omega)] at hv hs
      rw [wires_good hv hs]
      rfl
/- live.Arcs$1 -/
def live_Arcs1_r1_T : Bool × List (List Nat × List Nat) := (true, [([], []), ([0], [0]), ([], []), ([2], [2]), ([1, 3], [1, 3]), ([], []), ([5], [5]), ([], []), ([7], [7]), ([6, 8, 4], [6, 8]), ([4, 9], [4, 9]), ([10, 9], [10]), ([11, 11, 0, 1, 2, 3, 4, 5, 6, 7, 8, 9, 10, 11], [11])])
def live_Arcs1_r1_B : List Nat := [0, 1, 0, 4, 15, 0, 32, 0, 128, 511, 1023, 2047, 4095]
theorem live_Arcs1_r1_t : Go.Proofs.YtmcannmjielalaaW.PrintLast.rtab .any (Go.Proofs.YtmcannmjielalaaW.PrintLast.opsOf Try.f184 1) = live_Arcs1_r1_T := by kernel_rfl
theorem live_Arcs1_r1_b : Go.Proofs.YtmcannmjielalaaW.PrintLast.waitsOk live_Arcs1_r1_T.2 live_Arcs1_r1_B = true := by kernel_rfl
set_option maxRecDepth 100000 in
set_option maxHeartbeats 400000 in
theorem live_Arcs1 {a b : Arc} : Triple Try.prog 184 [.agg (arcC a), .agg (arcC b)] [] (Is (.v (.int .i64 (orderA a b))) []) := by
  refine triple_of Try.func184 rfl (by kernel_rfl) rfl (by simp) ?_
  refine aSeq ?_
  refine aReg ?_
  refine sq ?_
  refine qBox rfl rfl (by decide) rfl rfl (fun b2 => ?_)
  refine sq ?_
  refine qBox rfl rfl (by decide) rfl rfl (fun b3 => ?_)
  refine sp pMa ?_
  refine oNil ?_
  refine aSeq ?_
  refine aDrawT live_Arcs1_r1_t live_Arcs1_r1_b [] 13 #[false, false, false, false, false, false, false, false, false, false, false, false, false] (by kernel_rfl) rfl rfl (fun HT => ?_)
  refine dp HT 0 rfl (pFb fd_36_0) ?_
  refine dr HT 1 rfl (rB1 ty_3) ?_
  refine dp HT 2 rfl (pFb fd_36_0) ?_
  refine dr HT 3 rfl (rB1 ty_3) ?_
  refine dp HT 5 rfl (pFb fd_36_1) ?_
  refine dr HT 6 rfl (rB1 ty_3) ?_
  refine dp HT 7 rfl (pFb fd_36_1) ?_
  refine dr HT 8 rfl (rB1 ty_3) ?_
  refine dGo ?_
  refine e1 HT 4 rfl ?_
  refine cv rfl rfl rfl (lents_refl _) cmp_Compare ?_
  refine e1 HT 9 rfl ?_
  refine cv rfl rfl rfl (lents_refl _) cmp_Compare ?_
  refine e1 HT 10 rfl ?_
  refine qLit (l := [_, _]) rfl rfl (by decide) us_25 ty_3 ze_3 rfl (by decide) (by decide) rfl rfl rfl (fun b15 => ?_)
  refine e1 HT 11 rfl ?_
  refine cv rfl rfl rfl (by repeat (first | exact .nil | refine .cons (.sl (by repeat (first | exact List.mem_cons_self | apply List.mem_cons_of_mem)) (by first | rfl | simp)) ?_ | refine .cons (.same _) ?_)) (cmp_Or [cmpI a.f b.f, cmpI a.t b.t]) ?_
  refine ePure (i := 12) #[true, true, true, true, true, true, true, true, true, true, true, true, true] rfl rfl rfl (HT.any (by kernel_rfl)) (by exact pMa) (by decide) ?_
  refine eE HT ?_
  clear HT
  refine aRet ?_
  refine finIs rfl ?_
  rfl
theorem hb_srtA : HasBody Try.prog 183 := ⟨_, Try.func183, by kernel_rfl, rfl⟩
theorem hb_la1 : HasBody Try.prog 184 := ⟨_, Try.func184, by kernel_rfl, rfl⟩
def encA (e : Arc) : List Value := [.int .i64 e.f, .int .i64 e.t, .int .i64 e.c]
theorem swo_arc : Go.Sort.SWO (Go.Proofs.ltOf orderA) where
  irrefl := fun x => by simp only [Go.Proofs.ltOf, decide_eq_false_iff_not, orderA_lt]; unfold ltA; omega
  trans := fun x y z h1 h2 => by simp only [Go.Proofs.ltOf, decide_eq_true_eq, orderA_lt] at *; unfold ltA at *; omega
  ntrans := fun x y z h1 h2 => by simp only [Go.Proofs.ltOf, decide_eq_false_iff_not, orderA_lt] at *; unfold ltA at *; omega
theorem sort_arc (g : Option Nat) (c : Nat) (l : List Arc) (hl : l.length ≤ 1000000) : Triple Try.prog 183 [.v (slV g l.length c), .fn (.func 184) []] [.sl g c 36 3 (l.map arcC)] (fun r h' => ∃ ts : List Arc, ts.Perm l ∧ ts.Pairwise (fun x y => Go.Proofs.ltOf orderA y x = false) ∧ r = .tup [] ∧ h' = [.sl g c 36 3 (ts.map arcC)]) :=
  triple_sortFunc (P := Try.prog) (k := 3) srtA rfl hb_srtA rfl ty_36 (by decide) encA (fun _ => rfl) (fun _ => rfl) (fun e v hv => by simp [encA] at hv; rcases hv with rfl | rfl | rfl <;> rfl) orderA swo_arc (fun x y => live_Arcs1 (a := x) (b := y)) hb_la1 g c 36 l (by omega)
/- live.Arcs -/
set_option maxRecDepth 100000 in
set_option maxHeartbeats 2000000 in
theorem live_Arcs {l : List Wi} {up : List Int} (hl : l.length ≤ 1000 := by omega) (hu : up.length < 9223372036854775807 := by omega) : Triple Try.prog 97 [.sl 5 (l.map wirC), .sl 1 (up.map intA)] [] (Own 36 3 ((liveM l up).map arcC) []) := by
  refine triple_of Try.func97 rfl (by kernel_rfl) rfl (by simp) ?_
  refine aSeq ?_
  refine aReg ?_
  refine sp pMa ?_
  refine oNil ?_
  refine aSeq ?_
  refine aSeq ?_
  refine aReg ?_
  refine sp pM ?_
  refine sq ?_
  refine cv rfl rfl rfl (lents_refl _) (live_Check (l := l) (by omega)) ?_
  refine sp pB ?_
  refine oNil ?_
  refine aCondNe rfl (fun c10 => ?_) (fun c10 => ?_)
  · skip
    refine aSeq ?_
    refine aWeak (weak_nil 36 3) ?_
    refine aReg ?_
    refine sp pMa ?_
    refine oNil ?_
    refine aRet ?_
    refine finOwn rfl ?_
    have hno : wiresB l = false := by cases h : wiresB l <;> simp_all
    unfold liveM
    rw [hno]
    rfl
  · skip
    refine aSkip ?_
    refine aSeq ?_
    have hyes : wiresB l = true := by cases h : wiresB l <;> simp_all
    refine aReg ?_
    refine sp pMa ?_
    refine oNil ?_
    refine aSeq ?_
    refine aSeq ?_
    refine aWeak (weak_nil 36 3) ?_
    refine aReg ?_
    refine sp pM ?_
    refine sp (by first | exact pLm sl_112 | exact pLs sl_112) ?_
    refine sp pM ?_
    refine oNil ?_
    refine aBlock ?_
    refine loopF (α := Nat × List Arc × Option Nat × Nat) (kept := [(1, _), (11, _), (12, _)]) (fun (i, out, g, c) => i ≤ l.length ∧ out = rawM (l.take i) up) (fun (i, out, g, c) => [(13, .int i), (5, .v (slV g out.length c))]) (fun (i, out, g, c) => [.sl g c 36 3 (out.map arcC)]) (fun (i, out, g, c) => l.length - i) (0, [], _, _) ?_ ⟨gInt rfl (by first | rfl | omega | simp), gLen rfl (by first | rfl | simp | (simp; omega)), rfl, rfl, rfl, trivial⟩ (by repeat constructor) ?_
    · skip
      exact ⟨by omega, rfl⟩
    · rintro ⟨i, out, g, c⟩ ⟨hi, ho⟩
      refine aSeq ?_
      refine aReg ?_
      refine sp pB ?_
      refine oNil ?_
      refine aSeq ?_
      refine aCondDec rfl (fun c14 => ?_) (fun c14 => ?_)
      · skip
        refine aSkip ?_
        refine aSeq ?_
        refine aBlock ?_
        refine aSeq ?_
        obtain ⟨w, hw⟩ : ∃ z, l[i]? = some z := ⟨_, List.getElem?_eq_getElem (by omega)⟩
        refine aReg ?_
        first | refine sp (pIx es_112) ?_ | (refine obtSN 11 13 rfl rfl (by omega) (fun x15 hx15 => ?_); refine sp (pIs es_112 hx15) ?_) | (refine obtS 11 13 rfl rfl (by omega) (by omega) (fun x15 hx15 => ?_); refine sp (pIs es_112 hx15) ?_) | refine sp (pIo es_112) ?_
        refine sr (by first | exact rSW ty_226 rfl | exact rSA ty_226) ?_
        refine sq ?_
        refine qAlloc rfl rfl (by decide) ze_226 rfl (fun b7 => ?_)
        refine sa ?_
        refine oStW rfl rfl rfl rfl (by repeat constructor) ty_226 ?_
        refine oNil ?_
        refine aSeq ?_
        refine aReg ?_
        refine sp (pFb fd_226_2) ?_
        refine sr (rB1 ty_4) ?_
        refine sp pM ?_
        refine oSplit 19 rfl (fun c19 => ?_) (fun c19 => ?_)
        · skip
          refine gp pM ?_
          refine gp (pFb fd_226_0) ?_
          refine gr (rB1 ty_3) ?_
          refine ga ?_
          refine (cv rfl rfl rfl (lents_refl _) (contains_int (l := up) (n := w.a) hu) ?_).op
          refine sp pK ?_
          refine sp pM ?_
          refine oSplit 25 rfl (fun c25 => ?_) (fun c25 => ?_)
          · skip
            refine gp pM ?_
            refine gp (pFb fd_226_1) ?_
            refine gr (rB1 ty_3) ?_
            refine ga ?_
            refine (cv rfl rfl rfl (lents_refl _) (contains_int (l := up) (n := w.b) hu) ?_).op
            refine sp pK ?_
            refine oNil ?_
            refine aCond rfl (fun c30 => ?_) (fun c30 => ?_)
            · skip
              have hol := raw_len (l.take i) up
              rw [List.length_take, ← ho] at hol
              refine aReg ?_
              refine sp pM ?_
              refine sp (pFb fd_226_0) ?_
              refine sr (rB1 ty_3) ?_
              refine sp (pFb fd_226_1) ?_
              refine sr (rB1 ty_3) ?_
              refine sp (pFb fd_226_3) ?_
              refine sr (rB1 ty_3) ?_
              refine sp (pBuild rfl st_36 ze_36 rfl rfl rfl rfl) ?_
              refine sp (pFb fd_226_1) ?_
              refine sr (rB1 ty_3) ?_
              refine sp (pFb fd_226_0) ?_
              refine sr (rB1 ty_3) ?_
              refine sp (pFb fd_226_4) ?_
              refine sr (rB1 ty_3) ?_
              refine sp (pBuild rfl st_36 ze_36 rfl rfl rfl rfl) ?_
              refine sq ?_
              refine qLit (l := [_, _]) rfl rfl (by decide) us_22 ty_36 ze_36 rfl (by decide) (by decide) rfl rfl rfl (fun b46 => ?_)
              refine sa ?_
              refine oAppT ([⟨w.a, w.b, w.ca⟩, ⟨w.b, w.a, w.cb⟩] : List Arc) rfl rfl (by repeat constructor) (srcOwn rfl (by repeat constructor) rfl) el_22 sl_22 (fun g47 k47 => ?_)
              refine sp pMa ?_
              refine oNil ?_
              refine aReg ?_
              refine sp pAd ?_
              refine sp pM ?_
              refine oNil ?_
              refine ⟨(i + 1, _, _, _), ?_, by (try dsimp only); omega, ⟨gInt rfl (by first | rfl | omega | simp), gLen rfl (by first | rfl | simp | (simp; omega)), rfl, rfl, rfl, trivial⟩, _, (by repeat constructor)⟩
              refine ⟨by omega, ?_⟩
              rw [raw_step hw, ← ho]
              unfold rawW
              cases hp : upW up w <;> first
                | (simp; done)
                | (exfalso; unfold upW at hp; simp_all; done)
            · skip
              refine aSkip ?_
              refine aReg ?_
              refine sp pAd ?_
              refine sp pM ?_
              refine oNil ?_
              refine ⟨(i + 1, _, _, _), ?_, by (try dsimp only); omega, ⟨gInt rfl (by first | rfl | omega | simp), gLen rfl (by first | rfl | simp | (simp; omega)), rfl, rfl, rfl, trivial⟩, _, (by repeat constructor)⟩
              refine ⟨by omega, ?_⟩
              rw [raw_step hw, ← ho]
              unfold rawW
              cases hp : upW up w <;> first
                | (simp; done)
                | (exfalso; unfold upW at hp; simp_all; done)
          · skip
            refine gf ?_
            refine gf ?_
            refine gf ?_
            refine gf ?_
            refine sp pK ?_
            refine oNil ?_
            refine aCondF rfl ?_
            refine aSkip ?_
            refine aReg ?_
            refine sp pAd ?_
            refine sp pM ?_
            refine oNil ?_
            refine ⟨(i + 1, _, _, _), ?_, by (try dsimp only); omega, ⟨gInt rfl (by first | rfl | omega | simp), gLen rfl (by first | rfl | simp | (simp; omega)), rfl, rfl, rfl, trivial⟩, _, (by repeat constructor)⟩
            refine ⟨by omega, ?_⟩
            rw [raw_step hw, ← ho]
            unfold rawW
            cases hp : upW up w <;> first
              | (simp; done)
              | (exfalso; unfold upW at hp; simp_all; done)
        · skip
          refine gf ?_
          refine gf ?_
          refine gf ?_
          refine gf ?_
          refine sp pK ?_
          refine sp pM ?_
          refine gf ?_
          refine gf ?_
          refine gf ?_
          refine gf ?_
          refine sp pK ?_
          refine oNil ?_
          refine aCondF rfl ?_
          refine aSkip ?_
          refine aReg ?_
          refine sp pAd ?_
          refine sp pM ?_
          refine oNil ?_
          refine ⟨(i + 1, _, _, _), ?_, by (try dsimp only); omega, ⟨gInt rfl (by first | rfl | omega | simp), gLen rfl (by first | rfl | simp | (simp; omega)), rfl, rfl, rfl, trivial⟩, _, (by repeat constructor)⟩
          refine ⟨by omega, ?_⟩
          rw [raw_step hw, ← ho]
          unfold rawW
          cases hp : upW up w <;> first
            | (simp; done)
            | (exfalso; unfold upW at hp; simp_all; done)
      · skip
        refine aExit rfl ?_
        refine aSeq ?_
        have hol := raw_len l up
        rw [take_all (by omega)] at ho
        rw [← ho] at hol
        refine aReg ?_
        refine sp pM ?_
        refine sa ?_
        refine ca rfl rfl rfl (sort_arc g c out (by omega)) ?_
        rintro _ _ ⟨ts, hperm, hsort, rfl, rfl⟩
        have hlen := hperm.length_eq
        rw [ho] at hperm
        have hts := live_sorted hyes hperm hsort
        refine oNil ?_
        refine aSeq ?_
        refine aReg ?_
        refine sp pM ?_
        refine sp pMa ?_
        refine oNil ?_
        refine aRet ?_
        rw [show out.length = (refL l up 64).length by rw [← hts, hlen], hts]
        refine finOwn rfl ?_
        unfold liveM
        rw [if_pos hyes]
theorem live_Arcs_s {l : List Wi} {up : List Int} (hl : l.length ≤ 1000 := by omega) (hu : up.length < 9223372036854775807 := by omega) : Triple Try.prog 97 [.sl 5 (l.map wirC), .sl 1 (up.map intA)] [] (Is (.sl 3 ((liveM l up).map arcC)) []) := (live_Arcs (l := l) (up := up) hl hu).settle
/- live.Component -/
set_option maxRecDepth 100000 in
set_option maxHeartbeats 2000000 in
theorem live_Component {l : List Wi} {up : List Int} {n : Int} (hl : l.length ≤ 1000 := by omega) (hu : up.length < 9223372036854775807 := by omega) : Triple Try.prog 205 [.sl 5 (l.map wirC), .sl 1 (up.map intA), .int n] [] (Own 3 1 ((compM l up n).map intA) []) := by
  have hll := live_len l up
  have hrl := rtsM_len (liveM l up) n
  refine triple_of Try.func205 rfl (by kernel_rfl) rfl (by simp) ?_
  refine aSeq ?_
  refine aReg ?_
  refine sp pMa ?_
  refine oNil ?_
  refine aSeq ?_
  refine aSeq ?_
  refine aReg ?_
  refine sp pM ?_
  refine sq ?_
  refine cv rfl rfl rfl (lents_refl _) (live_Check (l := l) (by omega)) ?_
  refine sp pB ?_
  refine sp pM ?_
  refine oSplitNe 13 rfl (fun c13 => ?_) (fun c13 => ?_)
  · skip
    refine gf ?_
    refine gf ?_
    refine gf ?_
    refine sp pK ?_
    refine sp pM ?_
    refine gf ?_
    refine gf ?_
    refine gf ?_
    refine gf ?_
    refine sp pK ?_
    refine oNil ?_
    refine aCondT rfl ?_
    refine aSeq ?_
    refine aWeak (weak_nil 3 1) ?_
    refine aReg ?_
    refine sp pMa ?_
    refine oNil ?_
    refine aRet ?_
    refine finOwn rfl ?_
    have hno : (wiresB l && (decide (1 ≤ n) && decide (n ≤ 64)) && up.contains n) = false := by
      cases h : wiresB l <;> first
        | (simp_all; done)
        | (simp_all; intro h1 h2; omega)
    unfold compM
    rw [hno]
    rfl
  · skip
    refine gp pM ?_
    refine ga ?_
    refine (cv rfl rfl rfl (lents_refl _) (live_within (n := n) (lo := 1) (hi := 64)) ?_).op
    refine gp pNo ?_
    refine sp pK ?_
    refine sp pM ?_
    refine oSplitNot 18 rfl (fun c18 => ?_) (fun c18 => ?_)
    · skip
      refine gf ?_
      refine gf ?_
      refine gf ?_
      refine gf ?_
      refine sp pK ?_
      refine oNil ?_
      refine aCondT rfl ?_
      refine aSeq ?_
      refine aWeak (weak_nil 3 1) ?_
      refine aReg ?_
      refine sp pMa ?_
      refine oNil ?_
      refine aRet ?_
      refine finOwn rfl ?_
      have hno : (wiresB l && (decide (1 ≤ n) && decide (n ≤ 64)) && up.contains n) = false := by
        cases h : wiresB l <;> first
          | (simp_all; done)
          | (simp_all; intro h1 h2; omega)
      unfold compM
      rw [hno]
      rfl
    · skip
      refine gp pM ?_
      refine gp pM ?_
      refine ga ?_
      refine (cv rfl rfl rfl (lents_refl _) (contains_int (l := up) (n := n) hu) ?_).op
      refine gp pNo ?_
      refine sp pK ?_
      refine oNil ?_
      refine aCondNot rfl (fun c23 => ?_) (fun c23 => ?_)
      · skip
        refine aSeq ?_
        refine aWeak (weak_nil 3 1) ?_
        refine aReg ?_
        refine sp pMa ?_
        refine oNil ?_
        refine aRet ?_
        refine finOwn rfl ?_
        have hno : (wiresB l && (decide (1 ≤ n) && decide (n ≤ 64)) && up.contains n) = false := by
          cases h : wiresB l <;> first
            | (simp_all; done)
            | (simp_all; intro h1 h2; omega)
        unfold compM
        rw [hno]
        rfl
      · skip
        refine aSkip ?_
        refine aSeq ?_
        refine aReg ?_
        refine sp pM ?_
        refine sq ?_
        refine qLit (l := [_]) rfl rfl (by decide) us_25 ty_3 ze_3 rfl (by decide) (by decide) rfl rfl rfl (fun b25 => ?_)
        refine sp pMa ?_
        refine oNil ?_
        refine aSeq ?_
        refine aSeq ?_
        refine aReg ?_
        refine sp pM ?_
        refine sp pM ?_
        refine sq ?_
        refine ci rfl rfl rfl (live_Arcs_s (l := l) (up := up) hl hu) ?_
        refine sp pM ?_
        refine sq ?_
        refine ci rfl rfl rfl (spf_Routes_s (l := liveM l up) (r := n) (by omega)) ?_
        refine sp (by first | exact pLm sl_41 | exact pLs sl_41 | exact pLv sl_41) ?_
        refine sp pM ?_
        refine oNil ?_
        refine aBlock ?_
        refine loopF (α := Nat × List Int × Option Nat × Nat) (kept := [(30, _), (31, _)]) (fun (i, out, g, c) => i ≤ (rtsM (liveM l up) n).length ∧ out = n :: ((rtsM (liveM l up) n).take i).map (·.nd)) (fun (i, out, g, c) => [(32, .int i), (7, .v (slV g out.length c))]) (fun (i, out, g, c) => [.sl g c 3 1 (out.map intA)]) (fun (i, out, g, c) => (rtsM (liveM l up) n).length - i) (0, [n], _, _) ?_ ⟨gInt rfl (by first | rfl | omega | simp), gLen rfl (by first | rfl | simp | (simp; omega)), rfl, rfl, trivial⟩ (by repeat constructor) ?_
        · skip
          exact ⟨by omega, rfl⟩
        · rintro ⟨i, out, g, c⟩ ⟨hi, ho⟩
          refine aSeq ?_
          refine aReg ?_
          refine sp pB ?_
          refine oNil ?_
          refine aSeq ?_
          refine aCondDec rfl (fun c33 => ?_) (fun c33 => ?_)
          · skip
            refine aSkip ?_
            refine aSeq ?_
            refine aBlock ?_
            refine aSeq ?_
            obtain ⟨r, hr⟩ : ∃ z, (rtsM (liveM l up) n)[i]? = some z := ⟨_, List.getElem?_eq_getElem (by omega)⟩
            refine aReg ?_
            first | refine sp (pIx es_41) ?_ | (refine obtSN 30 32 rfl rfl (by omega) (fun x34 hx34 => ?_); refine sp (pIs es_41 hx34) ?_) | (refine obtS 30 32 rfl rfl (by omega) (by omega) (fun x34 hx34 => ?_); refine sp (pIs es_41 hx34) ?_) | refine sp (pIo es_41) ?_
            refine sr (by first | exact rSW ty_49 rfl | exact rSA ty_49 | exact rBWa ty_49 | exact rBW ty_49 | exact rBA ty_49 | exact rArA ty_49 (fun _ => rfl)) ?_
            refine sq ?_
            refine qAlloc rfl rfl (by decide) ze_49 rfl (fun b9 => ?_)
            refine sa ?_
            refine oStW rfl rfl rfl rfl (by repeat constructor) ty_49 ?_
            refine oNil ?_
            have hol : out.length ≤ 66 := by rw [ho]; simp; omega
            refine aReg ?_
            refine sp pM ?_
            refine sp (pFb fd_49_0) ?_
            refine sr (rB1 ty_3) ?_
            refine sq ?_
            refine qLit (l := [_]) rfl rfl (by decide) us_25 ty_3 ze_3 rfl (by decide) (by decide) rfl rfl rfl (fun b39 => ?_)
            refine sa ?_
            refine oAppT ([r.nd] : List Int) rfl rfl (by repeat constructor) (srcOwn rfl (by repeat constructor) rfl) el_25 sl_25 (fun g40 k40 => ?_)
            refine sp pMa ?_
            refine oNil ?_
            refine aReg ?_
            refine sp pAd ?_
            refine sp pM ?_
            refine oNil ?_
            refine ⟨(i + 1, _, _, _), ?_, by (try dsimp only); omega, ⟨gInt rfl (by first | rfl | omega | simp), gLen rfl (by first | rfl | simp | (simp; omega)), rfl, rfl, trivial⟩, _, (by repeat constructor)⟩
            refine ⟨by omega, ?_⟩
            rw [take_step hr, List.map_append, ← List.cons_append, ← ho]
            rfl
          · skip
            refine aExit rfl ?_
            refine aSeq ?_
            rw [take_all (by omega)] at ho
            have hol : out.length ≤ 66 := by rw [ho]; simp; omega
            refine aReg ?_
            refine sp pM ?_
            refine sa ?_
            refine aCall (hin := [_]) (hfr := _) rfl rfl (by decide) rfl rfl (.cons (by repeat constructor) .nil) (triple_sort srt rfl ⟨_, Try.func193, by kernel_rfl, rfl⟩ g c 3 out (by omega)) ?_
            rintro _ _ ⟨rfl, rfl⟩
            refine oNil ?_
            refine aSeq ?_
            refine aReg ?_
            refine sp pM ?_
            refine sp pMa ?_
            refine oNil ?_
            have hyes : (wiresB l && (decide (1 ≤ n) && decide (n ≤ 64)) && up.contains n) = true := by
              cases h : wiresB l <;> simp_all
            refine aRet ?_
            rw [show out.length = (sortI out).length by rw [sortI_length]]
            refine finOwn rfl ?_
            unfold compM
            rw [if_pos hyes, ho]
def lisC (p : List Int) : List AV := [.sl 1 (p.map intA)]
/- live.Parts$1 -/
set_option maxRecDepth 100000 in
set_option maxHeartbeats 400000 in
theorem live_Parts1 {p : List Int} {n : Int} (hp : p.length < 9223372036854775807) : Triple Try.prog 204 [.sl 1 (p.map intA), .sp [.int n]] [] (Is (.v (.bool (p.contains n))) []) := by
  refine triple_of Try.func204 rfl (by kernel_rfl) rfl (by simp) ?_
  refine aSeq ?_
  refine aReg ?_
  refine sp pMa ?_
  refine oNil ?_
  refine aSeq ?_
  refine aReg ?_
  refine sp pM ?_
  refine sr (rS1 ty_3) ?_
  refine sq ?_
  refine cv rfl rfl rfl (lents_refl _) (contains_int (l := p) (n := n) hp) ?_
  refine sp pMa ?_
  refine oNil ?_
  refine aRet ?_
  refine finIs rfl ?_
  rfl
/- slices.IndexFunc[[][]int,[]int] -/
set_option maxRecDepth 100000 in
set_option maxHeartbeats 400000 in
theorem indexF_lis {f : FuncId} {caps : List AV} {p : List Int → Bool} {l : List (List Int)} (hf : ∀ x ∈ l, Triple Try.prog f ([AV.sl 1 (x.map intA)] ++ caps) [] (Is (.v (.bool (p x))) [])) (hl : l.length ≤ 1000000) : Triple Try.prog 261 [.sl 1 (l.map lisC), .fn (.func f) caps] [] (fun q h' => ∃ k : Int, q = .int k ∧ h' = [] ∧ decide (0 ≤ k) = l.any p) := by
  refine triple_of Try.func261 rfl (by kernel_rfl) rfl (by simp) ?_
  refine aSeq ?_
  refine aReg ?_
  refine sp pMa ?_
  refine oNil ?_
  refine aSeq ?_
  refine aSeq ?_
  refine aReg ?_
  refine sp pM ?_
  refine sp (by first | exact pLm sl_109 | exact pLs sl_109) ?_
  refine sp pM ?_
  refine oNil ?_
  refine aBlock ?_
  refine loopF (α := Nat) (kept := [(0, _), (1, _), (7, _)]) (fun i => i ≤ l.length ∧ ∀ y ∈ l.take i, p y = false) (fun i => [(8, .int i)]) (fun i => []) (fun i => l.length - i) 0 ?_ ⟨gInt rfl (by first | rfl | omega | simp), rfl, rfl, rfl, trivial⟩ (by repeat constructor) ?_
  · skip
    exact ⟨by omega, fun y hy => by simp at hy⟩
  · rintro i ⟨hi, hv⟩
    refine aSeq ?_
    refine aReg ?_
    refine sp pB ?_
    refine oNil ?_
    refine aSeq ?_
    refine aCondDec rfl (fun c9 => ?_) (fun c9 => ?_)
    · skip
      refine aSkip ?_
      refine aSeq ?_
      refine aBlock ?_
      refine aSeq ?_
      refine aReg ?_
      refine sp pM ?_
      refine sp pMa ?_
      refine oNil ?_
      refine aSeq ?_
      obtain ⟨x, hx⟩ : ∃ z, l[i]? = some z := ⟨_, List.getElem?_eq_getElem (by omega)⟩
      refine aReg ?_
      refine sp pM ?_
      refine sp pM ?_
      refine sp pM ?_
      first | refine sp (pIx es_109) ?_ | (refine obtSN 12 13 rfl rfl (by omega) (fun x14 hx14 => ?_); refine sp (pIs es_109 hx14) ?_) | (refine obtS 12 13 rfl rfl (by omega) (by omega) (fun x14 hx14 => ?_); refine sp (pIs es_109 hx14) ?_) | refine sp (pIo es_109) ?_
      refine sr (rS1 ty_25) ?_
      refine sq ?_
      refine cv rfl rfl rfl (lents_refl _) (hf x (List.mem_of_getElem? hx)) ?_
      refine oNil ?_
      refine aCond rfl (fun c16 => ?_) (fun c16 => ?_)
      · skip
        refine aSeq ?_
        refine aReg ?_
        refine sp pM ?_
        refine sp pMa ?_
        refine oNil ?_
        refine aRet ?_
        refine ⟨_, [], _, rfl, .nil, (i : Int), rfl, rfl, ?_⟩
        rw [show l.any p = true from List.any_eq_true.2 ⟨x, List.mem_of_getElem? hx, by assumption⟩]
        exact decide_eq_true (by omega)
      · skip
        refine aSkip ?_
        refine aReg ?_
        refine sp pAd ?_
        refine sp pM ?_
        refine oNil ?_
        refine ⟨i + 1, ?_, by (try dsimp only); omega, ⟨gInt rfl (by first | rfl | omega | simp), rfl, rfl, rfl, trivial⟩, _, (by repeat constructor)⟩
        refine ⟨by omega, fun y hy => ?_⟩
        rw [take_step hx] at hy
        rcases List.mem_append.1 hy with hy | hy
        · exact hv y hy
        · rw [List.mem_singleton.1 hy]; simp_all
    · skip
      refine aExit rfl ?_
      refine aSeq ?_
      refine aReg ?_
      refine sp pMa ?_
      refine oNil ?_
      rw [take_all (by omega)] at hv
      refine aRet ?_
      refine ⟨_, [], _, rfl, .nil, -1, rfl, rfl, ?_⟩
      rw [show l.any p = false from List.any_eq_false.2 (fun y hy => by rw [hv y hy]; decide)]
      rfl
/- slices.ContainsFunc[[][]int,[]int] -/
set_option maxRecDepth 100000 in
set_option maxHeartbeats 400000 in
theorem containsF_lis {f : FuncId} {caps : List AV} {p : List Int → Bool} {l : List (List Int)} (hf : ∀ x ∈ l, Triple Try.prog f ([AV.sl 1 (x.map intA)] ++ caps) [] (Is (.v (.bool (p x))) [])) (hl : l.length ≤ 1000000) : Triple Try.prog 203 [.sl 1 (l.map lisC), .fn (.func f) caps] [] (Is (.v (.bool (l.any p))) []) := by
  refine triple_of Try.func203 rfl (by kernel_rfl) rfl (by simp) ?_
  refine aSeq ?_
  refine aReg ?_
  refine sp pMa ?_
  refine oNil ?_
  refine aSeq ?_
  refine aReg ?_
  refine sp pM ?_
  refine sp pM ?_
  refine sa ?_
  refine ca rfl rfl rfl (indexF_lis hf hl) ?_
  rintro _ _ ⟨k, rfl, rfl, hk⟩
  refine sp pB ?_
  rw [hk]
  refine sp pMa ?_
  refine oNil ?_
  refine aRet ?_
  refine finIs rfl ?_
  rfl
theorem live_Component_s {l : List Wi} {up : List Int} {n : Int} (hl : l.length ≤ 1000 := by omega) (hu : up.length < 9223372036854775807 := by omega) : Triple Try.prog 205 [.sl 5 (l.map wirC), .sl 1 (up.map intA), .int n] [] (Is (.sl 1 ((compM l up n).map intA)) []) := (live_Component (l := l) (up := up) (n := n) hl hu).settle
theorem comp_len (l : List Wi) (up : List Int) (n : Int) : (compM l up n).length ≤ 66 := by
  unfold compM
  split
  · rw [sortI_length, List.length_cons, List.length_map]
    have := rtsM_len (liveM l up) n
    omega
  · simp
theorem parts_yes {l : List Wi} {up : List Int} {out : List (List Int)} {n : Int} (h1 : (out.any fun p => p.contains n) = false) (h2 : 0 < (compM l up n).length) : partS l up out n = out ++ [compM l up n] := by unfold partS; rw [h1, decide_eq_true h2]; rfl
theorem parts_no1 {l : List Wi} {up : List Int} {out : List (List Int)} {n : Int} (h1 : (out.any fun p => p.contains n) = true) : partS l up out n = out := by unfold partS; rw [h1]; rfl
theorem parts_no2 {l : List Wi} {up : List Int} {out : List (List Int)} {n : Int} (h2 : (compM l up n).length = 0) : partS l up out n = out := by unfold partS; rw [h2]; simp
theorem parts_lens {l : List Wi} {up : List Int} : ∀ m, ∀ p ∈ partsM l up m, p.length ≤ 66
  | 0, p, hp => by simp [partsM] at hp
  | m + 1, p, hp => by
    rw [parts_step] at hp
    unfold partS at hp
    split at hp
    · rcases List.mem_append.1 hp with hp | hp
      · exact parts_lens m p hp
      · rw [List.mem_singleton.1 hp]; exact comp_len _ _ _
    · exact parts_lens m p hp
/- live.Parts -/
set_option maxRecDepth 100000 in
set_option maxHeartbeats 4000000 in
theorem live_Parts {l : List Wi} {up : List Int} (hl : l.length ≤ 1000 := by omega) (hu : up.length < 9223372036854775807 := by omega) : Triple Try.prog 109 [.sl 5 (l.map wirC), .sl 1 (up.map intA)] [] (Own 25 1 ((partsM l up 64).map lisC) []) := by
  refine triple_of Try.func109 rfl (by kernel_rfl) rfl (by simp) ?_
  refine aSeq ?_
  refine aReg ?_
  refine sp pMa ?_
  refine oNil ?_
  refine aSeq ?_
  refine aReg ?_
  refine sp pMa ?_
  refine oNil ?_
  refine aSeq ?_
  refine aSeq ?_
  refine aWeak (weak_nil 25 1) ?_
  refine aReg ?_
  refine sq ?_
  refine qAlloc rfl rfl (by decide) ze_3 rfl (fun b6 => ?_)
  refine sa ?_
  refine oStB rfl rfl rfl rfl (by repeat constructor) ty_3 rfl (Nat.le_of_ble_eq_true rfl) rfl ?_
  refine oNil ?_
  refine aBlock ?_
  refine loopF (α := Nat × Nat × List (List Int) × Option Nat × Nat) (kept := [(0, _), (1, _)]) (fun (n, bn, out, g, c) => n ≤ 64 ∧ out = partsM l up n) (fun (n, bn, out, g, c) => [(6, .v (.pointer (some ⟨bn, 0, none⟩))), (5, .v (slV g out.length c))]) (fun (n, bn, out, g, c) => [.box bn [.int ((n + 1 : Nat) : Int)], .sl g c 25 1 (out.map lisC)]) (fun (n, bn, out, g, c) => 64 - n) (0, _, [], _, _) ?_ ⟨rfl, gLen rfl (by first | rfl | simp | (simp; omega)), rfl, rfl, trivial⟩ (by repeat constructor) ?_
  · skip
    exact ⟨by omega, rfl⟩
  · rintro ⟨n, bn, out, g, c⟩ ⟨hn, ho⟩
    refine aSeq ?_
    refine aSeq ?_
    refine aReg ?_
    refine sr (by first | exact rS1 ty_3 | exact rB1 ty_3 | exact rAr ty_3 | exact rArL ty_3 | exact rArR2 ty_3) ?_
    refine sp pB ?_
    refine oNil ?_
    refine aCondDec rfl (fun c10 => ?_) (fun c10 => ?_)
    · skip
      refine aSkip ?_
      refine aSeq ?_
      refine aBlock ?_
      refine aSeq ?_
      have hol : out.length ≤ 64 := by have := parts_len l up n; rw [ho]; omega
      have hpl : ∀ p ∈ out, p.length ≤ 66 := by rw [ho]; exact parts_lens n
      refine aReg ?_
      refine sp pM ?_
      refine sp (pFn rfl rfl) ?_
      refine sq ?_
      refine cv rfl rfl rfl (.cons (.sl (by repeat (first | exact List.mem_cons_self | apply List.mem_cons_of_mem)) (by rw [List.length_map])) (.cons (lent_fn1 (.sp (by repeat (first | exact List.mem_cons_self | apply List.mem_cons_of_mem)))) .nil)) (containsF_lis (f := 204) (p := fun p => p.contains ((n + 1 : Nat) : Int)) (l := out) (fun x hx => live_Parts1 (p := x) (n := ((n + 1 : Nat) : Int)) (by have := hpl x hx; omega)) (by omega)) ?_
      refine sp pMa ?_
      refine oNil ?_
      refine aSeq ?_
      refine aReg ?_
      refine sp pM ?_
      refine sp pM ?_
      refine sr (by first | exact rS1 ty_3 | exact rB1 ty_3 | exact rAr ty_3 | exact rArL ty_3 | exact rArR2 ty_3) ?_
      refine sq ?_
      refine ci rfl rfl rfl (live_Component_s (l := l) (up := up) (n := ((n + 1 : Nat) : Int)) hl hu) ?_
      refine sp pMa ?_
      refine oNil ?_
      refine aSeq ?_
      have hcl := comp_len l up ((n + 1 : Nat) : Int)
      refine aReg ?_
      refine sp pM ?_
      refine sp pNo ?_
      refine sp pM ?_
      refine oSplitNot 22 rfl (fun c22 => ?_) (fun c22 => ?_)
      · skip
        refine gp pM ?_
        refine gp (by first | exact pLm sl_25 | exact pLs sl_25 | exact pLv sl_25) ?_
        refine gp pB ?_
        refine sp pK ?_
        refine oNil ?_
        refine aCondDec rfl (fun c26 => ?_) (fun c26 => ?_)
        · skip
          refine aReg ?_
          refine sp pM ?_
          refine sp pM ?_
          refine sq ?_
          refine qLit (l := [_]) rfl rfl (by decide) us_109 ty_25 ze_25 rfl (by decide) (by decide) rfl rfl rfl (fun b29 => ?_)
          refine sa ?_
          refine oAppT ([compM l up ((n + 1 : Nat) : Int)] : List (List Int)) rfl rfl (by repeat constructor) (srcOwn rfl (by repeat constructor) rfl) el_109 sl_109 (fun g30 k30 => ?_)
          refine sp pMa ?_
          refine oNil ?_
          refine aSeq ?_
          refine aSeq ?_
          refine aReg ?_
          refine sr (by first | exact rS1 ty_3 | exact rB1 ty_3 | exact rAr ty_3 | exact rArL ty_3 | exact rArR2 ty_3) ?_
          refine oNil ?_
          refine aReg ?_
          refine sq ?_
          refine qAlloc rfl rfl (by decide) ze_3 rfl (fun b6 => ?_)
          refine sa ?_
          refine oStB rfl rfl rfl rfl (by repeat constructor) ty_3 rfl (Nat.le_of_ble_eq_true rfl) rfl ?_
          refine oNil ?_
          refine aReg ?_
          refine sr (rB1 ty_3) ?_
          refine sp pAd ?_
          refine sa ?_
          refine oStB rfl rfl rfl rfl (by repeat constructor) ty_3 rfl (Nat.le_of_ble_eq_true rfl) rfl ?_
          refine oNil ?_
          refine ⟨(n + 1, _, _, _, _), ?_, by (try dsimp only); omega, ⟨rfl, gLen rfl (by first | rfl | simp | (simp; omega)), rfl, rfl, trivial⟩, _, (by repeat constructor)⟩
          refine ⟨by omega, ?_⟩
          rw [parts_step, ← ho]
          first
            | exact (parts_yes (by assumption) (by omega)).symm
            | exact (parts_no1 (by assumption)).symm
            | exact (parts_no2 (by omega)).symm
        · skip
          refine aSkip ?_
          refine aSeq ?_
          refine aSeq ?_
          refine aReg ?_
          refine sr (by first | exact rS1 ty_3 | exact rB1 ty_3 | exact rAr ty_3 | exact rArL ty_3 | exact rArR2 ty_3) ?_
          refine oNil ?_
          refine aReg ?_
          refine sq ?_
          refine qAlloc rfl rfl (by decide) ze_3 rfl (fun b6 => ?_)
          refine sa ?_
          refine oStB rfl rfl rfl rfl (by repeat constructor) ty_3 rfl (Nat.le_of_ble_eq_true rfl) rfl ?_
          refine oNil ?_
          refine aReg ?_
          refine sr (rB1 ty_3) ?_
          refine sp pAd ?_
          refine sa ?_
          refine oStB rfl rfl rfl rfl (by repeat constructor) ty_3 rfl (Nat.le_of_ble_eq_true rfl) rfl ?_
          refine oNil ?_
          refine ⟨(n + 1, _, _, _, _), ?_, by (try dsimp only); omega, ⟨rfl, gLen rfl (by first | rfl | simp | (simp; omega)), rfl, rfl, trivial⟩, _, (by repeat constructor)⟩
          refine ⟨by omega, ?_⟩
          rw [parts_step, ← ho]
          first
            | exact (parts_yes (by assumption) (by omega)).symm
            | exact (parts_no1 (by assumption)).symm
            | exact (parts_no2 (by omega)).symm
      · skip
        refine gf ?_
        refine gf ?_
        refine gf ?_
        refine sp pK ?_
        refine oNil ?_
        refine aCondF rfl ?_
        refine aSkip ?_
        refine aSeq ?_
        refine aSeq ?_
        refine aReg ?_
        refine sr (by first | exact rS1 ty_3 | exact rB1 ty_3 | exact rAr ty_3 | exact rArL ty_3 | exact rArR2 ty_3) ?_
        refine oNil ?_
        refine aReg ?_
        refine sq ?_
        refine qAlloc rfl rfl (by decide) ze_3 rfl (fun b6 => ?_)
        refine sa ?_
        refine oStB rfl rfl rfl rfl (by repeat constructor) ty_3 rfl (Nat.le_of_ble_eq_true rfl) rfl ?_
        refine oNil ?_
        refine aReg ?_
        refine sr (rB1 ty_3) ?_
        refine sp pAd ?_
        refine sa ?_
        refine oStB rfl rfl rfl rfl (by repeat constructor) ty_3 rfl (Nat.le_of_ble_eq_true rfl) rfl ?_
        refine oNil ?_
        refine ⟨(n + 1, _, _, _, _), ?_, by (try dsimp only); omega, ⟨rfl, gLen rfl (by first | rfl | simp | (simp; omega)), rfl, rfl, trivial⟩, _, (by repeat constructor)⟩
        refine ⟨by omega, ?_⟩
        rw [parts_step, ← ho]
        first
          | exact (parts_yes (by assumption) (by omega)).symm
          | exact (parts_no1 (by assumption)).symm
          | exact (parts_no2 (by omega)).symm
    · skip
      refine aExit rfl ?_
      refine aSeq ?_
      refine aReg ?_
      refine sp pM ?_
      refine sp pMa ?_
      refine oNil ?_
      refine aRet ?_
      refine finOwn rfl ?_
      obtain rfl : n = 64 := by omega
      rw [ho]
theorem live_Parts_s {l : List Wi} {up : List Int} (hl : l.length ≤ 1000 := by omega) (hu : up.length < 9223372036854775807 := by omega) : Triple Try.prog 109 [.sl 5 (l.map wirC), .sl 1 (up.map intA)] [] (Is (.sl 1 ((partsM l up 64).map lisC)) []) := (live_Parts (l := l) (up := up) hl hu).settle
end A
end Go.Proofs.Ytmcannmjielalaa
set_option linter.unusedVariables false
set_option linter.unusedSimpArgs false
namespace Go.Proofs.Ytmcannmjielalaa
namespace A
theorem el_112 : elemOf Try.prog 112 = some (226, 5, 40) := by kernel_rfl
theorem eq_226 : eqType Try.prog 226 = some [(0, .i), (1, .i), (2, .b), (3, .i), (4, .i)] := by kernel_rfl
theorem st_226 : structPlaces Try.prog 226 = some [(0, 1), (1, 1), (2, 1), (3, 1), (4, 1)] := by kernel_rfl
theorem ty_112 : tyOf Try.prog 112 = some (1, false) := by kernel_rfl
theorem ty_260 : tyOf Try.prog 260 = some (1, false) := by kernel_rfl
theorem us_112 : Try.prog.underlying 112 = some (.slice 226) := by kernel_rfl
theorem ze_112 : zeroOf Try.prog 112 = some (.slice none 0 0) := by kernel_rfl
/-- All pairs up to n, the lesser one first; those ahead of (a, b). -/
def rowP (n a : Nat) : List (Nat × Nat) := (List.range' (a + 1) (n - a)).map fun j => (a, j)
def pairsL (n : Nat) : List (Nat × Nat) := (List.range' 1 n).flatMap (rowP n)
def pairsPre (n a b : Nat) : List (Nat × Nat) := (List.range' 1 (a - 1)).flatMap (rowP n) ++ (List.range' (a + 1) (b - (a + 1))).map fun j => (a, j)
def pairAV (q : Nat × Nat) : List AV := [.int q.1, .int q.2]
theorem pairsPre_first (n : Nat) : pairsPre n 1 2 = [] := by simp [pairsPre]
theorem pairsPre_step {n a b : Nat} (h : a < b) : pairsPre n a (b + 1) = pairsPre n a b ++ [(a, b)] := by
  have : b + 1 - (a + 1) = (b - (a + 1)) + 1 := by omega
  rw [pairsPre, this, List.range'_concat, List.map_append, ← List.append_assoc, pairsPre]
  simp only [List.map_cons, List.map_nil, Nat.one_mul]
  rw [show a + 1 + (b - (a + 1)) = b by omega]
theorem pairsPre_row {n a : Nat} (h : 1 ≤ a) (h2 : a ≤ n) : pairsPre n a (n + 1) = pairsPre n (a + 1) (a + 2) := by
  have e1 : n + 1 - (a + 1) = n - a := by omega
  have e2 : a + 2 - (a + 1 + 1) = 0 := by omega
  have e3 : a + 1 - 1 = (a - 1) + 1 := by omega
  rw [pairsPre, pairsPre, e1, e2, e3, List.range'_concat, List.flatMap_append]
  simp only [List.range'_zero, List.map_nil, List.append_nil, List.flatMap_cons, List.flatMap_nil, Nat.one_mul]
  rw [show 1 + (a - 1) = a by omega]
  rfl
theorem pairsPre_all (n : Nat) : pairsPre n (n + 1) (n + 2) = pairsL n := by simp [pairsPre, pairsL]
theorem pairAV_inj {xs ys : List (Nat × Nat)} (h : xs.map pairAV = ys.map pairAV) : xs = ys := by
  have : Function.Injective pairAV := fun x y h => by
    simp only [pairAV, List.cons.injEq, AV.v.injEq, Value.int.injEq, true_and, and_true] at h
    exact Prod.ext (by omega) (by omega)
  exact (List.map_inj_right this).1 h
def PairNx (n : Nat) (pre : List (List AV)) (x : List AV) : Prop := ∃ a b : Nat, 1 ≤ a ∧ a < b ∧ b ≤ n ∧ pre = (pairsPre n a b).map pairAV ∧ x = pairAV (a, b)
def PairE (n : Nat) (xs : List (List AV)) : Prop := xs = (pairsL n).map pairAV
/- gen.pairs$1 -/
set_option maxRecDepth 100000 in
set_option maxHeartbeats 400000 in
theorem gen_pairs1 (n : Nat) (hn : n ≤ 64) (l : Nat) (I : List (List AV) → List HA → Prop) (S : List HA → Prop) (hy : ∀ pre x hc, PairNx n pre x → I pre hc → YTriple Try.prog l x hc (fun r h' => ∃ v : Bool, r = .v (.bool v) ∧ (v = true → I (pre ++ [x]) h') ∧ (v = false → S h'))) (hc0 : List HA) (h0 : I [] hc0) : Triple Try.prog 336 [.fn (.yield l) [], .sp [.int n]] hc0 (fun r h' => I ((pairsL n).map pairAV) h' ∨ S h') := by
  refine triple_of Try.func336 rfl (by kernel_rfl) rfl (by simp) ?_
  refine aSeq ?_
  refine aReg ?_
  refine sp pMa ?_
  refine oNil ?_
  refine aBlock ?_
  refine aLoopI (α := Nat × List HA) (fun (a, hc) => 1 ≤ a ∧ a ≤ n + 1 ∧ I ((pairsPre n a (a + 1)).map pairAV) hc) (fun (a, hc) => ([(0, .fn (.yield l) []), (1, .sp [.int n]), (3, .int a)], hc)) (fun (a, hc) => n + 1 - a) (1, hc0) ?_ ?_ ?_
  · skip
    exact ⟨by omega, by omega, by rw [pairsPre_first]; exact h0⟩
  · skip
    exact weak_env ⟨rfl, rfl, rfl, trivial⟩
  · rintro ⟨a, hc⟩ ⟨ha1, ha2, hi⟩
    skip
    refine aSeq ?_
    refine aSeq ?_
    refine aReg ?_
    refine sp pM ?_
    refine sr (by first | exact rS1 ty_3 | exact rB1 ty_3 | exact rAr ty_3 | exact rArL ty_3 | exact rArR2 ty_3) ?_
    refine sp pB ?_
    refine oNil ?_
    refine aCondDec rfl (fun c7 => ?_) (fun c7 => ?_)
    · skip
      refine aSkip ?_
      refine aSeq ?_
      refine aBlock ?_
      refine aSeq ?_
      refine aReg ?_
      refine sp pM ?_
      refine sp pAd ?_
      refine sp pMa ?_
      refine oNil ?_
      refine aBlock ?_
      refine aLoopI (α := Nat × List HA) (fun (b, hc') => a < b ∧ b ≤ n + 1 ∧ I ((pairsPre n a b).map pairAV) hc') (fun (b, hc') => ([(0, .fn (.yield l) []), (1, .sp [.int n]), (3, .int a), (4, .int b)], hc')) (fun (b, hc') => n + 1 - b) (a + 1, hc) ?_ ?_ ?_
      · skip
        exact ⟨by omega, by omega, hi⟩
      · skip
        exact weak_env ⟨rfl, rfl, rfl, gInt rfl (by simp), trivial⟩
      · rintro ⟨b, hc'⟩ ⟨hab, hb2, hj⟩
        skip
        refine aSeq ?_
        refine aSeq ?_
        refine aReg ?_
        refine sp pM ?_
        refine sr (by first | exact rS1 ty_3 | exact rB1 ty_3 | exact rAr ty_3 | exact rArL ty_3 | exact rArR2 ty_3) ?_
        refine sp pB ?_
        refine oNil ?_
        refine aCondDec rfl (fun c14 => ?_) (fun c14 => ?_)
        · skip
          refine aSkip ?_
          refine aSeq ?_
          refine aBlock ?_
          refine aSeq ?_
          refine aReg ?_
          refine sp pM ?_
          refine sp pM ?_
          refine sp pM ?_
          refine oYield (hfr := []) rfl rfl rfl (by decide) rfl rfl (hy _ (pairAV (a, b)) hc' ⟨a, b, by omega, hab, by omega, rfl, rfl⟩ hj) ?_
          rintro _ h2 ⟨v, rfl, hq1, hq2⟩
          refine sp pNo ?_
          refine oNil ?_
          refine aCondNot rfl (fun c21 => ?_) (fun c21 => ?_)
          · skip
            refine aRet ?_
            exact ⟨_, h2, [], rfl, tk_refl, .inr (hq2 (by simpa using c21))⟩
          · skip
            refine aSkip ?_
            refine aReg ?_
            refine sp pM ?_
            refine sp pAd ?_
            refine sp pMa ?_
            refine oNil ?_
            have hq := hq1 (by simpa using c21)
            rw [← List.map_singleton, ← List.map_append, ← pairsPre_step hab] at hq
            exact ⟨(b + 1, h2), ⟨by omega, by omega, hq⟩, by show n + 1 - (b + 1) < n + 1 - b; omega, weak_env ⟨rfl, rfl, rfl, gInt rfl (by simp), trivial⟩⟩
        · skip
          refine aExit rfl ?_
          refine aReg ?_
          refine sp pM ?_
          refine sp pAd ?_
          refine sp pMa ?_
          refine oNil ?_
          have hbe : b = n + 1 := by omega
          subst hbe
          rw [pairsPre_row (by omega) (by omega)] at hj
          exact ⟨(a + 1, hc'), ⟨by omega, by omega, hj⟩, by show n + 1 - (a + 1) < n + 1 - a; omega, weak_env ⟨rfl, rfl, gInt rfl (by simp), trivial⟩⟩
    · skip
      refine aExit rfl ?_
      have hae : a = n + 1 := by omega
      subst hae
      rw [pairsPre_all] at hi
      exact ⟨_, hc, [], rfl, tk_refl, .inl hi⟩
theorem gen_pairs1_iter (n : Nat) (hn : n ≤ 64) : IterT Try.prog 336 [.sp [.int n]] (PairNx n) (PairE n) [] :=
  ⟨⟨_, Try.func336, by kernel_rfl, rfl⟩, fun l I S hy hc h0 => (gen_pairs1 n hn l I S (fun pre x hc hn hi => (hy pre x hc hn hi).bool) hc h0).mono fun r h' hq => ⟨h', rfl, hq.imp (fun hi => ⟨_, rfl, hi⟩) id⟩⟩
/- gen.pairs -/
set_option maxRecDepth 100000 in
set_option maxHeartbeats 400000 in
theorem gen_pairs (n : Nat) : Triple Try.prog 316 [.int n] [] (fun r h' => r = .fn (.func 336) [.sp [.int n]] ∧ h' = []) := by
  refine triple_of Try.func316 rfl (by kernel_rfl) rfl (by simp) ?_
  refine aSeq ?_
  refine aReg ?_
  refine sq ?_
  refine qBox rfl rfl (by decide) rfl rfl (fun b1 => ?_)
  refine sp pMa ?_
  refine oNil ?_
  refine aSeq ?_
  refine aReg ?_
  refine sp (pFn rfl rfl) ?_
  refine sp pMa ?_
  refine oNil ?_
  refine aWeak (weak_deep (k := 2) (b := .fn (.func 336) [.sp [.int n]]) rfl (.cons .hd .nil) (by repeat constructor)) ?_
  refine aRet ?_
  exact ⟨_, [], [], rfl, .nil, rfl, rfl⟩
def pRow (a b : Int) : Bool := b == a + 1
def pRing (n a b : Int) : Bool := (b == a + 1) || ((decide (3 ≤ n) && (a == 1)) && (b == n))
def pStar (a _ : Int) : Bool := a == 1
def pFull (_ _ : Int) : Bool := true
def pGrid (c a b : Int) : Bool := (b == a + c) || ((b == a + 1) && (a.tmod c != 0))
def wireOf (cost : Int) (q : Nat × Nat) : Wi := ⟨q.1, q.2, true, cost, cost⟩
def goodN (n cost : Int) : Bool := decide (1 ≤ n) && decide (n ≤ 64) && decide (1 ≤ cost) && decide (cost ≤ 1073741824)
def thoseL (n cost : Int) (p : Int → Int → Bool) : List Wi := if goodN n cost then ((pairsL n.toNat).filter fun q => p q.1 q.2).map (wireOf cost) else []
/-- What a function that is meant answers. -/
def Meant (P : Program) (n : Int) (gfn : FuncId) (caps : List AV) (p : Int → Int → Bool) : Prop := ∀ a b : Nat, 1 ≤ a → a < b → (b : Int) ≤ n → n ≤ 64 → Triple P gfn ([.int a, .int b] ++ caps) [] (fun r h' => r = .v (.bool (p a b)) ∧ h' = [])
theorem pairsPre_len {n a b : Nat} (ha : a ≤ n) (hb : b ≤ n + 1) : (pairsPre n a b).length ≤ 64 * 64 + 64 ∨ 64 < n := by
  by_cases hn : 64 < n
  · exact .inr hn
  · left
    have h1 : ∀ m, ((List.range' 1 m).flatMap (rowP n)).length ≤ m * 64 := by
      intro m
      induction m with
      | zero => simp
      | succ m ih =>
        rw [List.range'_concat, List.flatMap_append, List.length_append]
        have : ((rowP n (1 + 1 * m))).length ≤ 64 := by simp [rowP]; omega
        simp only [List.flatMap_cons, List.flatMap_nil, List.append_nil]
        omega
    have := h1 (a - 1)
    simp only [pairsPre, List.length_append, List.length_map, List.length_range']
    have : (a - 1) * 64 ≤ 64 * 64 := Nat.mul_le_mul_right _ (by omega)
    omega
/- gen.those -/
set_option maxRecDepth 100000 in
set_option maxHeartbeats 1000000 in
theorem gen_those (n cost : Int) (gfn : FuncId) (caps : List AV) (p : Int → Int → Bool) (hp : Meant Try.prog n gfn caps p) : Triple Try.prog 255 [.int n, .int cost, .fn (.func gfn) caps] [] (fun r h' => ∃ g c, r = .v (slV g (thoseL n cost p).length c) ∧ h' = [.sl g c 226 5 ((thoseL n cost p).map wirC)]) := by
  refine triple_of Try.func255 rfl (by kernel_rfl) rfl (by simp) ?_
  refine aSeq ?_
  refine aReg ?_
  refine sq ?_
  refine qBox rfl rfl (by decide) rfl rfl (fun b4 => ?_)
  refine sq ?_
  refine qBox rfl rfl (by decide) rfl rfl (fun b5 => ?_)
  refine sp pMa ?_
  refine oNil ?_
  refine aSeq ?_
  refine aReg ?_
  refine sq ?_
  refine qAlloc rfl rfl (by decide) ze_112 rfl (fun b7 => ?_)
  refine oNil ?_
  refine aSeq ?_
  refine aSeq ?_
  refine aReg ?_
  refine sp pM ?_
  refine sp pB ?_
  refine sp pM ?_
  refine oSplitDec 12 rfl (fun c12 => ?_) (fun c12 => ?_)
  · skip
    refine gf ?_
    refine gf ?_
    refine sp pK ?_
    refine sp pM ?_
    refine gf ?_
    refine gf ?_
    refine sp pK ?_
    refine sp pM ?_
    refine gf ?_
    refine gf ?_
    refine sp pK ?_
    refine oNil ?_
    refine aCondT rfl ?_
    refine aSeq ?_
    refine aReg ?_
    refine sp pMa ?_
    refine oNil ?_
    refine aWeak (weak_nil 226 5) ?_
    refine aRet ?_
    have hz : thoseL n cost p = [] := by rw [thoseL, if_neg (by simp only [goodN, Bool.and_eq_true, decide_eq_true_eq]; omega)]
    exact ⟨_, [.sl none 0 226 5 []], _, rfl, .cons .hd .nil, none, 0, by rw [hz]; rfl, by rw [hz]; rfl⟩
  · skip
    refine gp pM ?_
    refine gp pB ?_
    refine sp pK ?_
    refine sp pM ?_
    refine oSplitDec 16 rfl (fun c16 => ?_) (fun c16 => ?_)
    · skip
      refine gf ?_
      refine gf ?_
      refine sp pK ?_
      refine sp pM ?_
      refine gf ?_
      refine gf ?_
      refine sp pK ?_
      refine oNil ?_
      refine aCondT rfl ?_
      refine aSeq ?_
      refine aReg ?_
      refine sp pMa ?_
      refine oNil ?_
      refine aWeak (weak_nil 226 5) ?_
      refine aRet ?_
      have hz : thoseL n cost p = [] := by rw [thoseL, if_neg (by simp only [goodN, Bool.and_eq_true, decide_eq_true_eq]; omega)]
      exact ⟨_, [.sl none 0 226 5 []], _, rfl, .cons .hd .nil, none, 0, by rw [hz]; rfl, by rw [hz]; rfl⟩
    · skip
      refine gr (rB1 ty_3) ?_
      refine gp pB ?_
      refine sp pK ?_
      refine sp pM ?_
      refine oSplitDec 20 rfl (fun c20 => ?_) (fun c20 => ?_)
      · skip
        refine gf ?_
        refine gf ?_
        refine sp pK ?_
        refine oNil ?_
        refine aCondT rfl ?_
        refine aSeq ?_
        refine aReg ?_
        refine sp pMa ?_
        refine oNil ?_
        refine aWeak (weak_nil 226 5) ?_
        refine aRet ?_
        have hz : thoseL n cost p = [] := by rw [thoseL, if_neg (by simp only [goodN, Bool.and_eq_true, decide_eq_true_eq]; omega)]
        exact ⟨_, [.sl none 0 226 5 []], _, rfl, .cons .hd .nil, none, 0, by rw [hz]; rfl, by rw [hz]; rfl⟩
      · skip
        refine gr (rB1 ty_3) ?_
        refine gp pB ?_
        refine sp pK ?_
        refine oNil ?_
        refine aCondDec rfl (fun c23 => ?_) (fun c23 => ?_)
        · skip
          refine aSeq ?_
          refine aReg ?_
          refine sp pMa ?_
          refine oNil ?_
          refine aWeak (weak_nil 226 5) ?_
          refine aRet ?_
          have hz : thoseL n cost p = [] := by rw [thoseL, if_neg (by simp only [goodN, Bool.and_eq_true, decide_eq_true_eq]; omega)]
          exact ⟨_, [.sl none 0 226 5 []], _, rfl, .cons .hd .nil, none, 0, by rw [hz]; rfl, by rw [hz]; rfl⟩
        · skip
          refine aSkip ?_
          refine aSeq ?_
          refine aSeq ?_
          obtain ⟨m, rfl⟩ : ∃ m : Nat, n = m := ⟨n.toNat, by omega⟩
          refine aReg ?_
          refine sp pM ?_
          refine sq ?_
          refine qCall0 rfl rfl (by decide) rfl rfl (gen_pairs m) ?_
          rintro _ _ ⟨rfl, rfl⟩
          refine oNil ?_
          refine aBlock ?_
          refine aRangeFunc (α := List (Nat × Nat) × Option Nat × Nat) (fun (qs, g, c) => [.sl g c 226 5 (((qs.filter fun q => p q.1 q.2).map (wireOf cost)).map wirC), .box b7 [.v (slV g ((qs.filter fun q => p q.1 q.2).map (wireOf cost)).length c)], .box b5 [.fn (.func gfn) caps], .box b4 [.int cost]]) (fun pre (qs, g, c) => pre = qs.map pairAV) ([], none, 0) rfl (by decide) (gen_pairs1_iter m (by omega)) ?_ ?_ ?_ ?_ ?_
          · skip
            rintro _ _ ⟨a, b, _, _, _, _, rfl⟩; rfl
          · skip
            refine Weak.trans (weak_nil 226 5) ?_
            exact weak_heap (by repeat constructor)
          · skip
            rfl
          · rintro pre x ⟨qs, g, c⟩ ⟨a, b, ha1, hab, hbn, hpre, rfl⟩ hJ
            replace hJ : pre = qs.map pairAV := hJ
            obtain rfl : qs = pairsPre m a b := pairAV_inj (hJ.symm.trans hpre)
            have hfl := List.length_filter_le (fun q : Nat × Nat => p q.1 q.2) (pairsPre m a b)
            have hlen := pairsPre_len (n := m) (a := a) (b := b) (by omega) (by omega)
            refine aSeq ?_
            refine aReg ?_
            refine sp pMa ?_
            refine oNil ?_
            refine aReg ?_
            refine sp pMa ?_
            refine oNil ?_
            refine aBlock ?_
            refine aSeq ?_
            refine aReg ?_
            refine sr (by first | exact rS1 ty_260 | exact rB1 ty_260 | exact rAr ty_260 | exact rArL ty_260 | exact rArR2 ty_260) ?_
            refine sp pM ?_
            refine sp pM ?_
            refine sq ?_
            refine qCallV rfl rfl (by decide) rfl rfl (lents_refl _) (hp a b ha1 hab (by omega) (by omega)) ?_
            refine oNil ?_
            refine aCond rfl (fun c31 => ?_) (fun c31 => ?_)
            · skip
              refine aReg ?_
              refine sr (by first | exact rS1 ty_112 | exact rB1 ty_112 | exact rAr ty_112 | exact rArL ty_112 | exact rArR2 ty_112) ?_
              refine sp pM ?_
              refine sp pM ?_
              refine sr (by first | exact rS1 ty_3 | exact rB1 ty_3 | exact rAr ty_3 | exact rArL ty_3 | exact rArR2 ty_3) ?_
              refine sr (by first | exact rS1 ty_3 | exact rB1 ty_3 | exact rAr ty_3 | exact rArL ty_3 | exact rArR2 ty_3) ?_
              refine sp (pBuild rfl st_226 ze_226 rfl rfl rfl rfl) ?_
              refine sq ?_
              refine qLit (l := [_]) rfl rfl (by decide) us_112 ty_226 ze_226 rfl (by decide) (by decide) rfl rfl rfl (fun b38 => ?_)
              refine sa ?_
              refine oApp rfl rfl (by decide) rfl (by repeat constructor) (by simp) (srcOwn rfl (by repeat constructor) (by first | rfl | simp)) el_112 sl_112 (by intro z hz; rcases List.mem_cons.1 hz with rfl | hz; rfl; cases hz) (by first | (simp; done) | (simp; omega)) (by first | (simp; done) | (simp; omega)) (fun g39 k39 => ?_)
              refine sa ?_
              refine oStB rfl rfl rfl rfl (by repeat constructor) ty_112 rfl (Nat.le_of_ble_eq_true rfl) rfl ?_
              refine oNil ?_
              first
                | (refine ⟨(pairsPre m a b ++ [(a, b)], g39, k39), by show pre ++ _ = List.map pairAV (pairsPre m a b ++ [(a, b)]); rw [List.map_append, hJ]; rfl, ?_⟩
                   simp only [List.filter_append, List.map_append, List.filter_cons, c31, ↓reduceIte, List.filter_nil, List.map_cons, List.map_nil, List.length_map, List.length_append, List.length_cons, List.length_nil]
                   exact weak_sub trivial (by repeat constructor))
                | (refine ⟨(pairsPre m a b ++ [(a, b)], g, c), by show pre ++ _ = List.map pairAV (pairsPre m a b ++ [(a, b)]); rw [List.map_append, hJ]; rfl, ?_⟩
                   simp only [List.filter_append, List.map_append, List.filter_cons, c31, Bool.false_eq_true, ↓reduceIte, List.filter_nil, List.map_nil, List.append_nil]
                   exact weak_sub trivial (by repeat constructor))
            · skip
              refine aSkip ?_
              first
                | (refine ⟨(pairsPre m a b ++ [(a, b)], g39, k39), by show pre ++ _ = List.map pairAV (pairsPre m a b ++ [(a, b)]); rw [List.map_append, hJ]; rfl, ?_⟩
                   simp only [List.filter_append, List.map_append, List.filter_cons, c31, ↓reduceIte, List.filter_nil, List.map_cons, List.map_nil, List.length_map, List.length_append, List.length_cons, List.length_nil]
                   exact weak_sub trivial (by repeat constructor))
                | (refine ⟨(pairsPre m a b ++ [(a, b)], g, c), by show pre ++ _ = List.map pairAV (pairsPre m a b ++ [(a, b)]); rw [List.map_append, hJ]; rfl, ?_⟩
                   simp only [List.filter_append, List.map_append, List.filter_cons, c31, Bool.false_eq_true, ↓reduceIte, List.filter_nil, List.map_nil, List.append_nil]
                   exact weak_sub trivial (by repeat constructor))
          · rintro xs ⟨qs, g, c⟩ hE hJ
            try dsimp only [List.nil_append, List.cons_append]
            replace hJ : xs = qs.map pairAV := hJ
            obtain rfl : qs = pairsL m := pairAV_inj (hJ.symm.trans hE)
            refine aSeq ?_
            refine aReg ?_
            refine sr (by first | exact rS1 ty_112 | exact rB1 ty_112 | exact rAr ty_112 | exact rArL ty_112 | exact rArR2 ty_112) ?_
            refine sp pMa ?_
            refine oNil ?_
            refine aRet ?_
            have hz : thoseL m cost p = ((pairsL m).filter fun q => p q.1 q.2).map (wireOf cost) := by rw [thoseL, if_pos (by simp only [goodN, Bool.and_eq_true, decide_eq_true_eq]; omega)]; rfl
            rw [← hz]
            exact ⟨_, [.sl g c 226 5 ((thoseL m cost p).map wirC)], _, rfl, .cons .hd .nil, g, c, rfl, rfl⟩
/- gen.Row$1 -/
set_option maxRecDepth 100000 in
set_option maxHeartbeats 400000 in
theorem gen_Row1 (a b : Nat) (ha : 1 ≤ a) (hab : a < b) (hb : b ≤ 64) : Triple Try.prog 257 [.int a, .int b] [] (fun r h' => r = .v (.bool (pRow a b)) ∧ h' = []) := by
  refine triple_of Try.func257 rfl (by kernel_rfl) rfl (by simp) ?_
  refine aSeq ?_
  refine aReg ?_
  refine sp pMa ?_
  refine oNil ?_
  refine aSeq ?_
  refine aReg ?_
  refine sp pM ?_
  refine sp pM ?_
  refine sp pAd ?_
  refine sp pB ?_
  refine sp pMa ?_
  refine oNil ?_
  refine aRet ?_
  refine ⟨_, [], _, rfl, .nil, ?_, rfl⟩
  rfl
/- gen.Star$1 -/
set_option maxRecDepth 100000 in
set_option maxHeartbeats 400000 in
theorem gen_Star1 (a b : Nat) (ha : 1 ≤ a) (hab : a < b) (hb : b ≤ 64) : Triple Try.prog 259 [.int a, .int b] [] (fun r h' => r = .v (.bool (pStar a b)) ∧ h' = []) := by
  refine triple_of Try.func259 rfl (by kernel_rfl) rfl (by simp) ?_
  refine aSeq ?_
  refine aReg ?_
  refine sp pMa ?_
  refine oNil ?_
  refine aSeq ?_
  refine aReg ?_
  refine sp pM ?_
  refine sp pB ?_
  refine sp pMa ?_
  refine oNil ?_
  refine aRet ?_
  refine ⟨_, [], _, rfl, .nil, ?_, rfl⟩
  rfl
/- gen.Full$1 -/
set_option maxRecDepth 100000 in
set_option maxHeartbeats 400000 in
theorem gen_Full1 (a b : Nat) (ha : 1 ≤ a) (hab : a < b) (hb : b ≤ 64) : Triple Try.prog 260 [.int a, .int b] [] (fun r h' => r = .v (.bool (pFull a b)) ∧ h' = []) := by
  refine triple_of Try.func260 rfl (by kernel_rfl) rfl (by simp) ?_
  refine aSeq ?_
  refine aReg ?_
  refine sp pMa ?_
  refine oNil ?_
  refine aSeq ?_
  refine aReg ?_
  refine sp pMa ?_
  refine oNil ?_
  refine aRet ?_
  refine ⟨_, [], _, rfl, .nil, ?_, rfl⟩
  rfl
/- gen.Ring$1 -/
set_option maxRecDepth 100000 in
set_option maxHeartbeats 400000 in
theorem gen_Ring1 (a b : Nat) (ha : 1 ≤ a) (hab : a < b) (hb : b ≤ 64) (n : Int) : Triple Try.prog 258 [.int a, .int b, .sp [.int n]] [] (fun r h' => r = .v (.bool (pRing n a b)) ∧ h' = []) := by
  refine triple_of Try.func258 rfl (by kernel_rfl) rfl (by simp) ?_
  refine aSeq ?_
  refine aReg ?_
  refine sp pMa ?_
  refine oNil ?_
  refine aSeq ?_
  refine aReg ?_
  refine sp pM ?_
  refine sp pM ?_
  refine sp pAd ?_
  refine sp pB ?_
  refine sp pM ?_
  refine oSplitEq 10 rfl (fun c10 => ?_) (fun c10 => ?_)
  · skip
    refine gf ?_
    refine gf ?_
    refine gf ?_
    refine gf ?_
    refine gf ?_
    refine gf ?_
    refine gf ?_
    refine gf ?_
    refine gf ?_
    refine gf ?_
    refine gf ?_
    refine sp pK ?_
    refine sp pMa ?_
    refine oNil ?_
    refine aRet ?_
    refine ⟨_, [], _, rfl, .nil, ?_, rfl⟩
    show AV.v (.bool _) = AV.v (.bool _)
    simp_all [pRing]
    all_goals omega
  · skip
    refine gr (rS1 ty_3) ?_
    refine gp pB ?_
    refine gp pM ?_
    refine oSplitDec 13 rfl (fun c13 => ?_) (fun c13 => ?_)
    · skip
      refine gp pM ?_
      refine gp pB ?_
      refine gp pK ?_
      refine gp pM ?_
      refine oSplitEq 17 rfl (fun c17 => ?_) (fun c17 => ?_)
      · skip
        refine gp pM ?_
        refine gr (rS1 ty_3) ?_
        refine gp pB ?_
        refine gp pK ?_
        refine sp pK ?_
        refine sp pMa ?_
        refine oNil ?_
        refine aRet ?_
        refine ⟨_, [], _, rfl, .nil, ?_, rfl⟩
        show AV.v (.bool _) = AV.v (.bool _)
        simp_all [pRing]
        all_goals omega
      · skip
        refine gf ?_
        refine gf ?_
        refine gf ?_
        refine gp pK ?_
        refine sp pK ?_
        refine sp pMa ?_
        refine oNil ?_
        refine aRet ?_
        refine ⟨_, [], _, rfl, .nil, ?_, rfl⟩
        show AV.v (.bool _) = AV.v (.bool _)
        simp_all [pRing]
        all_goals omega
    · skip
      refine gf ?_
      refine gf ?_
      refine gp pK ?_
      refine gp pM ?_
      refine gf ?_
      refine gf ?_
      refine gf ?_
      refine gp pK ?_
      refine sp pK ?_
      refine sp pMa ?_
      refine oNil ?_
      refine aRet ?_
      refine ⟨_, [], _, rfl, .nil, ?_, rfl⟩
      show AV.v (.bool _) = AV.v (.bool _)
      simp_all [pRing]
      all_goals omega
/- gen.Grid$1 -/
set_option maxRecDepth 100000 in
set_option maxHeartbeats 400000 in
theorem gen_Grid1 (a b : Nat) (ha : 1 ≤ a) (hab : a < b) (hb : b ≤ 64) (c : Int) (hc : 1 ≤ c) (hc2 : c ≤ 64) : Triple Try.prog 256 [.int a, .int b, .sp [.int c]] [] (fun r h' => r = .v (.bool (pGrid c a b)) ∧ h' = []) := by
  refine triple_of Try.func256 rfl (by kernel_rfl) rfl (by simp) ?_
  refine aSeq ?_
  refine aReg ?_
  refine sp pMa ?_
  refine oNil ?_
  refine aSeq ?_
  refine aReg ?_
  refine sp pM ?_
  refine sp pM ?_
  refine sr (rS1 ty_3) ?_
  refine sp pAd ?_
  refine sp pB ?_
  refine sp pM ?_
  refine oSplitEq 11 rfl (fun c11 => ?_) (fun c11 => ?_)
  · skip
    refine gf ?_
    refine gf ?_
    refine gf ?_
    refine gf ?_
    refine gf ?_
    refine gf ?_
    refine gf ?_
    refine gf ?_
    refine gf ?_
    refine gf ?_
    refine sp pK ?_
    refine sp pMa ?_
    refine oNil ?_
    refine aRet ?_
    refine ⟨_, [], _, rfl, .nil, ?_, rfl⟩
    show AV.v (.bool _) = AV.v (.bool _)
    simp_all [pGrid]
  · skip
    refine gp pM ?_
    refine gp pM ?_
    refine gp pAd ?_
    refine gp pB ?_
    refine gp pM ?_
    refine oSplitEq 16 rfl (fun c16 => ?_) (fun c16 => ?_)
    · skip
      refine gp pM ?_
      refine gr (rS1 ty_3) ?_
      refine gp (pRem rfl rfl rfl (by omega)) ?_
      refine gp pB ?_
      refine gp pK ?_
      refine sp pK ?_
      refine sp pMa ?_
      refine oNil ?_
      refine aRet ?_
      refine ⟨_, [], _, rfl, .nil, ?_, rfl⟩
      show AV.v (.bool _) = AV.v (.bool _)
      simp_all [pGrid]
    · skip
      refine gf ?_
      refine gf ?_
      refine gf ?_
      refine gf ?_
      refine gp pK ?_
      refine sp pK ?_
      refine sp pMa ?_
      refine oNil ?_
      refine aRet ?_
      refine ⟨_, [], _, rfl, .nil, ?_, rfl⟩
      show AV.v (.bool _) = AV.v (.bool _)
      simp_all [pGrid]
/- gen.Row -/
set_option maxRecDepth 100000 in
set_option maxHeartbeats 400000 in
theorem gen_Row (n cost : Int) : Triple Try.prog 199 [.int n, .int cost] [] (fun r h' => ∃ g c, r = .v (slV g (thoseL n cost pRow).length c) ∧ h' = [.sl g c 226 5 ((thoseL n cost pRow).map wirC)]) := by
  refine triple_of Try.func199 rfl (by kernel_rfl) rfl (by simp) ?_
  refine aSeq ?_
  refine aReg ?_
  refine sp pMa ?_
  refine oNil ?_
  refine aSeq ?_
  refine aReg ?_
  refine sp pM ?_
  refine sp pM ?_
  refine sa ?_
  refine aCall rfl rfl (by decide) rfl rfl .nil (gen_those n cost _ [] pRow (fun a b ha hab hb hn => gen_Row1 a b ha hab (by omega))) ?_
  rintro _ _ ⟨g1, c1, rfl, rfl⟩
  refine sp pMa ?_
  refine oNil ?_
  refine aRet ?_
  refine ⟨_, [.sl g1 c1 226 5 _], _, rfl, .cons .hd .nil, g1, c1, rfl, rfl⟩
/- gen.Star -/
set_option maxRecDepth 100000 in
set_option maxHeartbeats 400000 in
theorem gen_Star (n cost : Int) : Triple Try.prog 201 [.int n, .int cost] [] (fun r h' => ∃ g c, r = .v (slV g (thoseL n cost pStar).length c) ∧ h' = [.sl g c 226 5 ((thoseL n cost pStar).map wirC)]) := by
  refine triple_of Try.func201 rfl (by kernel_rfl) rfl (by simp) ?_
  refine aSeq ?_
  refine aReg ?_
  refine sp pMa ?_
  refine oNil ?_
  refine aSeq ?_
  refine aReg ?_
  refine sp pM ?_
  refine sp pM ?_
  refine sa ?_
  refine aCall rfl rfl (by decide) rfl rfl .nil (gen_those n cost _ [] pStar (fun a b ha hab hb hn => gen_Star1 a b ha hab (by omega))) ?_
  rintro _ _ ⟨g1, c1, rfl, rfl⟩
  refine sp pMa ?_
  refine oNil ?_
  refine aRet ?_
  refine ⟨_, [.sl g1 c1 226 5 _], _, rfl, .cons .hd .nil, g1, c1, rfl, rfl⟩
/- gen.Full -/
set_option maxRecDepth 100000 in
set_option maxHeartbeats 400000 in
theorem gen_Full (n cost : Int) : Triple Try.prog 202 [.int n, .int cost] [] (fun r h' => ∃ g c, r = .v (slV g (thoseL n cost pFull).length c) ∧ h' = [.sl g c 226 5 ((thoseL n cost pFull).map wirC)]) := by
  refine triple_of Try.func202 rfl (by kernel_rfl) rfl (by simp) ?_
  refine aSeq ?_
  refine aReg ?_
  refine sp pMa ?_
  refine oNil ?_
  refine aSeq ?_
  refine aReg ?_
  refine sp pM ?_
  refine sp pM ?_
  refine sa ?_
  refine aCall rfl rfl (by decide) rfl rfl .nil (gen_those n cost _ [] pFull (fun a b ha hab hb hn => gen_Full1 a b ha hab (by omega))) ?_
  rintro _ _ ⟨g1, c1, rfl, rfl⟩
  refine sp pMa ?_
  refine oNil ?_
  refine aRet ?_
  refine ⟨_, [.sl g1 c1 226 5 _], _, rfl, .cons .hd .nil, g1, c1, rfl, rfl⟩
/- gen.Ring -/
set_option maxRecDepth 100000 in
set_option maxHeartbeats 400000 in
theorem gen_Ring (n cost : Int) : Triple Try.prog 200 [.int n, .int cost] [] (fun r h' => ∃ g c, r = .v (slV g (thoseL n cost (pRing n)).length c) ∧ h' = [.sl g c 226 5 ((thoseL n cost (pRing n)).map wirC)]) := by
  refine triple_of Try.func200 rfl (by kernel_rfl) rfl (by simp) ?_
  refine aSeq ?_
  refine aReg ?_
  refine sq ?_
  refine qBox rfl rfl (by decide) rfl rfl (fun b2 => ?_)
  refine sp pMa ?_
  refine oNil ?_
  refine aSeq ?_
  refine aReg ?_
  refine sr (rB1 ty_3) ?_
  refine sp pM ?_
  refine sp (pFn rfl rfl) ?_
  refine oWeak (weak_deep (k := 7) (b := .fn (.func 258) [.sp [.int n]]) rfl (.cons .hd .nil) (by repeat constructor)) ?_
  refine sa ?_
  refine aCall rfl rfl (by decide) rfl rfl .nil (gen_those n cost _ [.sp [.int n]] (pRing n) (fun a b ha hab hb hn => gen_Ring1 a b ha hab (by omega) n)) ?_
  rintro _ _ ⟨g1, c1, rfl, rfl⟩
  refine sp pMa ?_
  refine oNil ?_
  refine aRet ?_
  refine ⟨_, [.sl g1 c1 226 5 _], _, rfl, .cons .hd .nil, g1, c1, rfl, rfl⟩
def gridL (n c cost : Int) : List Wi := if 1 ≤ c ∧ c ≤ n then thoseL n cost (pGrid c) else []
/- gen.Grid -/
set_option maxRecDepth 100000 in
set_option maxHeartbeats 400000 in
theorem gen_Grid (n col cost : Int) : Triple Try.prog 198 [.int n, .int col, .int cost] [] (fun r h' => ∃ g c, r = .v (slV g (gridL n col cost).length c) ∧ h' = [.sl g c 226 5 ((gridL n col cost).map wirC)]) := by
  refine triple_of Try.func198 rfl (by kernel_rfl) rfl (by simp) ?_
  refine aSeq ?_
  refine aReg ?_
  refine sq ?_
  refine qBox rfl rfl (by decide) rfl rfl (fun b4 => ?_)
  refine sp pMa ?_
  refine oNil ?_
  refine aSeq ?_
  refine aSeq ?_
  refine aReg ?_
  refine sr (rB1 ty_3) ?_
  refine sp pB ?_
  refine sp pM ?_
  refine oSplitDec 9 rfl (fun c9 => ?_) (fun c9 => ?_)
  · skip
    refine gf ?_
    refine gf ?_
    refine gf ?_
    refine sp pK ?_
    refine oNil ?_
    refine aCondT rfl ?_
    refine aSeq ?_
    refine aReg ?_
    refine sp pMa ?_
    refine oNil ?_
    refine aWeak (weak_nil 226 5) ?_
    refine aRet ?_
    have hz : gridL n col cost = [] := by rw [gridL, if_neg (by omega)]
    exact ⟨_, [.sl none 0 226 5 []], _, rfl, .cons .hd .nil, none, 0, by rw [hz]; rfl, by rw [hz]; rfl⟩
  · skip
    refine gr (rB1 ty_3) ?_
    refine gp pM ?_
    refine gp pB ?_
    refine sp pK ?_
    refine oNil ?_
    refine aCondDec rfl (fun c13 => ?_) (fun c13 => ?_)
    · skip
      refine aSeq ?_
      refine aReg ?_
      refine sp pMa ?_
      refine oNil ?_
      refine aWeak (weak_nil 226 5) ?_
      refine aRet ?_
      have hz : gridL n col cost = [] := by rw [gridL, if_neg (by omega)]
      exact ⟨_, [.sl none 0 226 5 []], _, rfl, .cons .hd .nil, none, 0, by rw [hz]; rfl, by rw [hz]; rfl⟩
    · skip
      refine aSkip ?_
      refine aSeq ?_
      refine aReg ?_
      refine sp pM ?_
      refine sp pM ?_
      refine sp (pFn rfl rfl) ?_
      refine oWeak (weak_deep (k := 16) (b := .fn (.func 256) [.sp [.int col]]) rfl (.cons .hd .nil) (by repeat constructor)) ?_
      refine sa ?_
      refine aCall rfl rfl (by decide) rfl rfl .nil (gen_those n cost _ [.sp [.int col]] (pGrid col) (fun a b ha hab hb hn => gen_Grid1 a b ha hab (by omega) col (by omega) (by omega))) ?_
      rintro _ _ ⟨g1, c1, rfl, rfl⟩
      refine sp pMa ?_
      refine oNil ?_
      refine aRet ?_
      have hz : gridL n col cost = thoseL n cost (pGrid col) := by rw [gridL, if_pos (by omega)]
      rw [hz]
      refine ⟨_, [.sl g1 c1 226 5 _], _, rfl, .cons .hd .nil, g1, c1, rfl, rfl⟩
def shapeL (k n col cost : Int) : List Wi := if k = 0 then thoseL n cost pRow else if k = 1 then thoseL n cost (pRing n) else if k = 2 then thoseL n cost pStar else if k = 3 then thoseL n cost pFull else gridL n col cost
/- waymarklaw51.shape -/
set_option maxRecDepth 100000 in
set_option maxHeartbeats 400000 in
theorem law51_shape (kv n col cost : Int) : Triple Try.prog 108 [.v (.int .u8 kv), .int n, .int col, .int cost] [] (fun r h' => ∃ g c, r = .v (slV g (shapeL (kv.tmod 5) n col cost).length c) ∧ h' = [.sl g c 226 5 ((shapeL (kv.tmod 5) n col cost).map wirC)]) := by
  refine triple_of Try.func108 rfl (by kernel_rfl) rfl (by simp) ?_
  refine aSeq ?_
  refine aReg ?_
  refine sp pMa ?_
  refine oNil ?_
  refine aSeq ?_
  refine aSeq ?_
  refine aReg ?_
  refine sp pM ?_
  refine sp (pRem rfl rfl rfl (by first | decide | omega)) ?_
  refine oNil ?_
  refine aBlock ?_
  refine aSeq ?_
  refine aReg ?_
  refine sp pB ?_
  refine sp pMa ?_
  refine oNil ?_
  refine aCondEq rfl (fun c11 => ?_) (fun c11 => ?_)
  · skip
    refine aSeq ?_
    refine aReg ?_
    refine sp pM ?_
    refine sp pM ?_
    refine sa ?_
    refine aCall rfl rfl (by decide) rfl rfl .nil (gen_Row n cost) ?_
    rintro _ _ ⟨g1, c1, rfl, rfl⟩
    refine sp pMa ?_
    refine oNil ?_
    refine aRet ?_
    have hz : shapeL (kv.tmod 5) n col cost = thoseL n cost pRow := by rw [shapeL, if_pos c11]
    rw [hz]
    exact ⟨_, [_], _, rfl, .cons .hd .nil, g1, c1, rfl, rfl⟩
  · skip
    refine aSeq ?_
    refine aReg ?_
    refine sp pB ?_
    refine sp pMa ?_
    refine oNil ?_
    refine aCondEq rfl (fun c16 => ?_) (fun c16 => ?_)
    · skip
      refine aSeq ?_
      refine aReg ?_
      refine sp pM ?_
      refine sp pM ?_
      refine sa ?_
      refine aCall rfl rfl (by decide) rfl rfl .nil (gen_Ring n cost) ?_
      rintro _ _ ⟨g1, c1, rfl, rfl⟩
      refine sp pMa ?_
      refine oNil ?_
      refine aRet ?_
      have hz : shapeL (kv.tmod 5) n col cost = thoseL n cost (pRing n) := by rw [shapeL, if_neg c11, if_pos c16]
      rw [hz]
      exact ⟨_, [_], _, rfl, .cons .hd .nil, g1, c1, rfl, rfl⟩
    · skip
      refine aSeq ?_
      refine aReg ?_
      refine sp pB ?_
      refine sp pMa ?_
      refine oNil ?_
      refine aCondEq rfl (fun c21 => ?_) (fun c21 => ?_)
      · skip
        refine aSeq ?_
        refine aReg ?_
        refine sp pM ?_
        refine sp pM ?_
        refine sa ?_
        refine aCall rfl rfl (by decide) rfl rfl .nil (gen_Star n cost) ?_
        rintro _ _ ⟨g1, c1, rfl, rfl⟩
        refine sp pMa ?_
        refine oNil ?_
        refine aRet ?_
        have hz : shapeL (kv.tmod 5) n col cost = thoseL n cost pStar := by rw [shapeL, if_neg c11, if_neg c16, if_pos c21]
        rw [hz]
        exact ⟨_, [_], _, rfl, .cons .hd .nil, g1, c1, rfl, rfl⟩
      · skip
        refine aSeq ?_
        refine aReg ?_
        refine sp pB ?_
        refine sp pMa ?_
        refine oNil ?_
        refine aCondEq rfl (fun c26 => ?_) (fun c26 => ?_)
        · skip
          refine aSeq ?_
          refine aReg ?_
          refine sp pM ?_
          refine sp pM ?_
          refine sa ?_
          refine aCall rfl rfl (by decide) rfl rfl .nil (gen_Full n cost) ?_
          rintro _ _ ⟨g1, c1, rfl, rfl⟩
          refine sp pMa ?_
          refine oNil ?_
          refine aRet ?_
          have hz : shapeL (kv.tmod 5) n col cost = thoseL n cost pFull := by rw [shapeL, if_neg c11, if_neg c16, if_neg c21, if_pos c26]
          rw [hz]
          exact ⟨_, [_], _, rfl, .cons .hd .nil, g1, c1, rfl, rfl⟩
        · skip
          refine aSkip ?_
          refine aSeq ?_
          refine aReg ?_
          refine sp pM ?_
          refine sp pM ?_
          refine sp pM ?_
          refine sa ?_
          refine aCall rfl rfl (by decide) rfl rfl .nil (gen_Grid n col cost) ?_
          rintro _ _ ⟨g1, c1, rfl, rfl⟩
          refine sp pMa ?_
          refine oNil ?_
          refine aRet ?_
          have hz : shapeL (kv.tmod 5) n col cost = gridL n col cost := by rw [shapeL, if_neg c11, if_neg c16, if_neg c21, if_neg c26]
          rw [hz]
          exact ⟨_, [_], _, rfl, .cons .hd .nil, g1, c1, rfl, rfl⟩
theorem awake_grid : gridL 4 2 3 = [⟨1, 2, true, 3, 3⟩, ⟨1, 3, true, 3, 3⟩, ⟨2, 4, true, 3, 3⟩, ⟨3, 4, true, 3, 3⟩] := by decide
/- waymarklaw51.awake -/
set_option maxRecDepth 100000 in
set_option maxHeartbeats 400000 in
theorem law51_awake  : Triple Try.prog 107 [] [] (fun r h' => r = .v (.bool true) ∧ h' = []) := by
  refine triple_of Try.func107 rfl (by kernel_rfl) rfl (by simp) ?_
  refine aSeq ?_
  refine aReg ?_
  refine sp pMa ?_
  refine oNil ?_
  refine aSeq ?_
  refine aReg ?_
  refine sa ?_
  refine aCall rfl rfl (by decide) rfl rfl .nil (gen_Grid 4 2 3) ?_
  rintro _ _ ⟨g1, c1, rfl, rfl⟩
  rw [awake_grid]
  refine oWeak (weak_settle (k := 2) rfl .hd rfl) ?_
  refine sp pMa ?_
  refine oNil ?_
  refine aSeq ?_
  refine aReg ?_
  refine sp pM ?_
  refine sp (pLenS' (n := 4) (pLenS rfl rfl sl_112) rfl) ?_
  refine sp (pBin rfl rfl rfl rfl (rfl : _ = Value.bool true)) ?_
  refine sp pM ?_
  refine gp pM ?_
  refine gp (pIdxS rfl rfl rfl es_112 (by decide) rfl) ?_
  refine gr (by first | exact rSW ty_226 rfl | exact rSA ty_226 | exact rBWa ty_226 | exact rBW ty_226 | exact rBA ty_226 | exact rArA ty_226 (fun _ => rfl)) ?_
  refine gp (pBuild rfl st_226 ze_226 rfl rfl rfl rfl) ?_
  refine gp (pEqA rfl (.inl rfl) rfl rfl eq_226 rfl (rfl : _ = true)) ?_
  refine sp pK ?_
  refine sp pMa ?_
  refine oNil ?_
  refine aRet ?_
  exact ⟨_, [], _, rfl, .nil, rfl, rfl⟩
theorem tmod5 {k : Int} (h : 0 ≤ k) : 0 ≤ k.tmod 5 ∧ k.tmod 5 < 5 := ⟨Int.tmod_nonneg _ h, Int.tmod_lt_of_pos _ (by decide)⟩
theorem law51_awake_v : Triple Try.prog 107 [] [] (Is (.v (.bool true)) []) := law51_awake
theorem law51_shape_s {kv n col cost : Int} : Triple Try.prog 108 [.v (.int .u8 kv), .int n, .int col, .int cost] [] (Is (.sl 5 ((shapeL (kv.tmod 5) n col cost).map wirC)) []) :=
  ((law51_shape kv n col cost).mono (Q' := Own 226 5 ((shapeL (kv.tmod 5) n col cost).map wirC) []) fun q h' ⟨g, c, hq, hh⟩ => ⟨g, c, by rw [List.length_map]; exact hq, hh⟩).settle
end A
end Go.Proofs.Ytmcannmjielalaa
set_option linter.unusedVariables false
set_option linter.unusedSimpArgs false
namespace Go.Proofs.Ytmcannmjielalaa
namespace A
theorem ik_5 : intKindOf Try.prog 5 = some .u8 := by kernel_rfl
/-! ### Pairs in order -/
theorem mem_pairsL {n : Nat} {q : Nat × Nat} : q ∈ pairsL n ↔ 1 ≤ q.1 ∧ q.1 < q.2 ∧ q.2 ≤ n := by
  unfold pairsL rowP
  rw [List.mem_flatMap]
  constructor
  · rintro ⟨a, ha, hq⟩
    obtain ⟨b, hb, rfl⟩ := List.mem_map.1 hq
    rw [List.mem_range'_1] at ha hb
    exact ⟨ha.1, by show a < b; omega, by show b ≤ n; omega⟩
  · rintro ⟨h1, h2, h3⟩
    refine ⟨q.1, List.mem_range'_1.2 (by omega), List.mem_map.2 ⟨q.2, List.mem_range'_1.2 (by omega), rfl⟩⟩
theorem pairsL_sorted (n : Nat) : (pairsL n).Pairwise fun p q => p.1 < q.1 ∨ p.1 = q.1 ∧ p.2 < q.2 := by
  unfold pairsL rowP
  rw [List.pairwise_flatMap]
  refine ⟨fun a ha => ?_, ?_⟩
  · rw [List.pairwise_map]
    exact (List.pairwise_lt_range' (s := a + 1) (n := n - a) (step := 1)).imp fun h => .inr ⟨rfl, h⟩
  · refine (List.pairwise_lt_range' (s := 1) (n := n) (step := 1)).imp fun h x hx y hy => ?_
    obtain ⟨_, _, rfl⟩ := List.mem_map.1 hx
    obtain ⟨_, _, rfl⟩ := List.mem_map.1 hy
    exact .inl h
def pickW (m : Nat) (p : Int → Int → Bool) : List Wi := ((pairsL m).filter fun q => p q.1 q.2).map (wireOf 1)
theorem pick_ok {m : Nat} (hm : m ≤ 64) (p : Int → Int → Bool) : wiresB (pickW m p) = true := by
  refine wires_good (fun w hw => ?_) ?_
  · obtain ⟨q, hq, rfl⟩ := List.mem_map.1 hw
    have := mem_pairsL.1 (List.mem_filter.1 hq).1
    unfold WOk wireOf
    simp only
    omega
  · unfold pickW
    rw [List.pairwise_map]
    refine ((pairsL_sorted m).filter _).imp fun {x y} h => ?_
    unfold ltWi wireOf
    simp only
    omega
theorem pick_mem {m : Nat} {p : Int → Int → Bool} {a b : Nat} (h1 : 1 ≤ a) (h2 : a < b) (h3 : b ≤ m) (hp : p a b = true) : (⟨a, b, true, 1, 1⟩ : Wi) ∈ pickW m p :=
  List.mem_map.2 ⟨(a, b), List.mem_filter.2 ⟨mem_pairsL.2 ⟨h1, h2, h3⟩, hp⟩, rfl⟩
theorem those_pick {m : Nat} (h1 : 1 ≤ m) (h2 : m ≤ 64) (p : Int → Int → Bool) : thoseL m 1 p = pickW m p := by
  have hg : goodN m 1 = true := by simp only [goodN, Bool.and_eq_true, decide_eq_true_eq]; omega
  rw [thoseL, if_pos hg, Int.toNat_natCast]
  rfl
/-! ### One piece -/
def upL (m : Nat) : List Int := (List.range m).map fun (i : Nat) => ((i + 1 : Nat) : Int)
theorem upL_step {m : Nat} : upL (m + 1) = upL m ++ [((m + 1 : Nat) : Int)] := rng_step
theorem upL_has {m : Nat} {v : Int} : (upL m).contains v = true ↔ 1 ≤ v ∧ v ≤ m := by
  rw [List.contains_iff_mem]
  exact mem_rng
theorem upL_len (m : Nat) : (upL m).length = m := by simp [upL]
theorem reach_one {l : List Wi} {m : Nat} (hl : wiresB l = true) (hall : ∀ b : Nat, 2 ≤ b → b ≤ m → ∃ w ∈ l, w.u = true ∧ w.b = b) : ∀ v : Nat, 1 ≤ v → v ≤ m → isF (liveM l (upL m)) 1 v = true := fun v => by
  have hok := arcs_ok (live_ok (l := l) (upL m))
  induction v using Nat.strongRecOn with
  | _ v ih =>
    intro h1 h2
    by_cases e : v = 1
    · subst e
      exact (dF_root hok (by decide) (by decide)).1
    · obtain ⟨w, hw, hu, hb⟩ := hall v (by omega) h2
      have hk := (wires_spec hl).1 w hw
      unfold WOk at hk
      have ha := ih w.a.toNat (by omega) (by omega) (by omega)
      rw [show ((w.a.toNat : Nat) : Int) = w.a by omega] at ha
      have hup : upW (upL m) w = true := by
        unfold upW
        rw [hu, upL_has.2 ⟨by omega, by omega⟩, upL_has.2 ⟨by omega, by omega⟩]
        rfl
      have harc : (⟨w.a, w.b, w.ca⟩ : Arc) ∈ liveM l (upL m) := by
        unfold liveM
        rw [if_pos hl, ← raw_ref hl, mem_raw]
        exact ⟨w, hw, hup, .inl ⟨rfl, rfl, rfl⟩⟩
      have := (wk_isF hok (.inl ⟨by decide, by decide⟩) (Wk.step (isF_wk hok ha) harc rfl)).1
      rw [← hb]
      exact this
theorem comp_one {l : List Wi} {m : Nat} (hl : wiresB l = true) (hm : 1 ≤ m) (hall : ∀ b : Nat, 2 ≤ b → b ≤ m → ∃ w ∈ l, w.u = true ∧ w.b = b) {v : Int} (h1 : 1 ≤ v) (h2 : v ≤ m) : v ∈ compM l (upL m) 1 := by
  unfold compM
  rw [hl, upL_has.2 ⟨Int.le_refl 1, by omega⟩, if_pos (by decide), sortI_mem]
  by_cases e : v = 1
  · subst e; simp
  · refine List.mem_cons_of_mem _ (List.mem_map.2 ⟨_, rtsM_of (live_ok (upL m)) e ?_, rfl⟩)
    have := reach_one hl hall v.toNat (by omega) (by omega)
    rwa [show ((v.toNat : Nat) : Int) = v by omega] at this
theorem comp_none {l : List Wi} {m : Nat} {v : Int} (h : m < v) : compM l (upL m) v = [] := by
  unfold compM
  rw [if_neg]
  intro hh
  simp only [Bool.and_eq_true] at hh
  have := upL_has.1 hh.2
  omega
theorem parts_one {l : List Wi} {m : Nat} (hl : wiresB l = true) (hm : 1 ≤ m) (hall : ∀ b : Nat, 2 ≤ b → b ≤ m → ∃ w ∈ l, w.u = true ∧ w.b = b) : ∀ j : Nat, partsM l (upL m) (j + 1) = [compM l (upL m) 1]
  | 0 => by
    have h1 := comp_one hl hm hall (v := 1) (by decide) (by omega)
    have h2 : 0 < (compM l (upL m) 1).length := List.length_pos_of_mem h1
    rw [parts_step]
    show partS l (upL m) [] 1 = _
    unfold partS
    rw [decide_eq_true h2]
    rfl
  | j + 1 => by
    rw [parts_step, parts_one hl hm hall j]
    unfold partS
    by_cases h : j + 2 ≤ m
    · have h1 := comp_one hl hm hall (v := ((j + 1 + 1 : Nat) : Int)) (by omega) (by omega)
      rw [if_neg]
      simp only [List.any_cons, List.any_nil, Bool.or_false]
      rw [List.contains_iff_mem.2 h1]
      simp
    · rw [comp_none (v := ((j + 1 + 1 : Nat) : Int)) (by omega), if_neg]
      simp
/-! ### The shapes -/
def manyH (k n : Int) (len : Int) : Int := if k = 0 ∨ k = 2 then n - 1 else if k = 1 then (if 3 ≤ n then n else n - 1) else if k = 3 then (n * (n - 1)).tdiv 2 else len
def cntB (m : Nat) (p : Int → Int → Bool) (v : Int) : Bool := decide (((((pairsL m).filter fun q => p q.1 q.2).length : Nat) : Int) = v)
theorem cnts : ((List.range 20).all fun i => cntB (i + 1) pRow i && (cntB (i + 1) pStar i && (cntB (i + 1) (pRing ((i + 1 : Nat) : Int)) (if 2 ≤ i then ((i + 1 : Nat) : Int) else i) && cntB (i + 1) pFull ((((i + 1 : Nat) : Int) * i).tdiv 2)))) = true := by decide +kernel
theorem cnt_at {m : Nat} (h1 : 1 ≤ m) (h2 : m ≤ 20) : ((pickW m pRow).length : Int) = m - 1 ∧ ((pickW m pStar).length : Int) = m - 1 ∧ ((pickW m (pRing m)).length : Int) = (if 3 ≤ m then (m : Int) else m - 1) ∧ ((pickW m pFull).length : Int) = ((m : Int) * (m - 1)).tdiv 2 := by
  have h := List.all_eq_true.1 cnts (m - 1) (List.mem_range.2 (by omega))
  rw [show m - 1 + 1 = m by omega] at h
  simp only [Bool.and_eq_true, cntB, decide_eq_true_eq] at h
  obtain ⟨e1, e2, e3, e4⟩ := h
  unfold pickW
  rw [List.length_map, List.length_map, List.length_map, List.length_map, e1, e2, e3, e4]
  refine ⟨by omega, by omega, ?_, ?_⟩
  · split <;> split <;> omega
  · rw [show ((m - 1 : Nat) : Int) = (m : Int) - 1 by omega]
theorem shape_pick {k : Int} {m : Nat} {c : Int} (hk : 0 ≤ k ∧ k < 5) (h1 : 1 ≤ m) (h2 : m ≤ 20) (hc1 : 1 ≤ c) (hc2 : c ≤ m) : ∃ p : Int → Int → Bool, shapeL k m c 1 = pickW m p ∧ ((pickW m p).length : Int) = manyH k m (pickW m p).length ∧ ∀ b : Nat, 2 ≤ b → b ≤ m → ∃ a : Nat, 1 ≤ a ∧ a < b ∧ p a b = true := by
  obtain ⟨e1, e2, e3, e4⟩ := cnt_at h1 h2
  obtain rfl | rfl | rfl | rfl | rfl : k = 0 ∨ k = 1 ∨ k = 2 ∨ k = 3 ∨ k = 4 := by omega
  · exact ⟨pRow, those_pick h1 (by omega) _, by rw [e1]; rfl, fun b hb _ => ⟨b - 1, by omega, by omega, by unfold pRow; rw [beq_iff_eq]; omega⟩⟩
  · refine ⟨pRing m, those_pick h1 (by omega) _, ?_, fun b hb _ => ⟨b - 1, by omega, by omega, ?_⟩⟩
    · rw [e3]
      unfold manyH
      rw [if_neg (show ¬ ((1 : Int) = 0 ∨ (1 : Int) = 2) by decide), if_pos (show (1 : Int) = 1 from rfl)]
      by_cases h : 3 ≤ m
      · rw [if_pos h, if_pos (by omega)]
      · rw [if_neg h, if_neg (by omega)]
    · unfold pRing
      rw [show ((b : Int) == ((b - 1 : Nat) : Int) + 1) = true by rw [beq_iff_eq]; omega]
      rfl
  · exact ⟨pStar, those_pick h1 (by omega) _, by rw [e2]; rfl, fun b hb _ => ⟨1, by omega, by omega, rfl⟩⟩
  · exact ⟨pFull, those_pick h1 (by omega) _, by rw [e4]; rfl, fun b hb _ => ⟨1, by omega, by omega, rfl⟩⟩
  · refine ⟨pGrid c, ?_, rfl, fun b hb hbm => ?_⟩
    · show gridL m c 1 = _
      rw [gridL, if_pos ⟨hc1, hc2⟩]
      exact those_pick h1 (by omega) _
    · unfold pGrid
      by_cases h : ((b - 1 : Nat) : Int).tmod c = 0
      · obtain ⟨d, rfl⟩ : ∃ d : Nat, c = d := ⟨c.toNat, by omega⟩
        have hdv : (b - 1) % d = 0 := by
          have : ((b - 1 : Nat) : Int).tmod d = (((b - 1) % d : Nat) : Int) := rfl
          omega
        have hle : d ≤ b - 1 := Nat.le_of_dvd (by omega) (Nat.dvd_of_mod_eq_zero hdv)
        refine ⟨b - d, by omega, by omega, ?_⟩
        rw [show ((b : Int) == ((b - d : Nat) : Int) + d) = true by rw [beq_iff_eq]; omega]
        rfl
      · refine ⟨b - 1, by omega, by omega, ?_⟩
        rw [show ((b : Int) == ((b - 1 : Nat) : Int) + 1) = true by rw [beq_iff_eq]; omega, show (((b - 1 : Nat) : Int).tmod c != 0) = true by rw [bne_iff_ne]; exact h]
        simp
theorem hangs {k : Int} {m : Nat} {c : Int} (hk : 0 ≤ k ∧ k < 5) (h1 : 1 ≤ m) (h2 : m ≤ 20) (hc1 : 1 ≤ c) (hc2 : c ≤ m) : wiresB (shapeL k m c 1) = true ∧ ((shapeL k m c 1).length : Int) = manyH k m (shapeL k m c 1).length ∧ (partsM (shapeL k m c 1) (upL m) 64).length = 1 := by
  obtain ⟨p, e, hc, hp⟩ := shape_pick hk h1 h2 hc1 hc2
  rw [e]
  have hok := pick_ok (m := m) (by omega) p
  refine ⟨hok, hc, ?_⟩
  rw [parts_one hok h1 (fun b hb hbm => ?_) 63]
  · rfl
  · obtain ⟨a, ha1, ha2, ha3⟩ := hp b hb hbm
    exact ⟨_, pick_mem ha1 ha2 hbm ha3, rfl, rfl⟩
theorem lens : ((List.range 20).all fun i => decide ((pairsL (i + 1)).length ≤ 190)) = true := by decide +kernel
theorem shape_len {k : Int} {m : Nat} {c : Int} (hk : 0 ≤ k ∧ k < 5) (h1 : 1 ≤ m) (h2 : m ≤ 20) (hc1 : 1 ≤ c) (hc2 : c ≤ m) : (shapeL k m c 1).length ≤ 190 := by
  obtain ⟨p, e, _, _⟩ := shape_pick hk h1 h2 hc1 hc2
  rw [e]
  unfold pickW
  rw [List.length_map]
  have h3 := List.length_filter_le (fun q : Nat × Nat => p q.1 q.2) (pairsL m)
  have h4 := List.all_eq_true.1 lens (m - 1) (List.mem_range.2 (by omega))
  rw [show m - 1 + 1 = m by omega, decide_eq_true_eq] at h4
  omega
theorem mul20 {n : Int} (h1 : 1 ≤ n) (h2 : n ≤ 20) : (0 ≤ n * (n - 1) ∧ n * (n - 1) ≤ 400) ∧ 0 ≤ (n * (n - 1)).tdiv 2 ∧ (n * (n - 1)).tdiv 2 ≤ 400 := by
  have h0 : 0 ≤ n * (n - 1) := Int.mul_nonneg (by omega) (by omega)
  have h3 := Int.mul_le_mul (a := n) (b := n - 1) (c := 20) (d := 20) h2 (by omega) (by omega) (by omega)
  refine ⟨⟨h0, by omega⟩, ?_⟩
  rw [Int.tdiv_eq_ediv_of_nonneg h0]
  omega
/- waymarklaw51.GenHangs -/
set_option maxRecDepth 100000 in
set_option maxHeartbeats 4000000 in
theorem law51_GenHangs {kv n qv : Int} (hkv : 0 ≤ kv) (hkv2 : kv < 256) (hcv : 0 ≤ qv) (hcv2 : qv < 256) : Triple Try.prog 24 [.v (.int .u8 kv), .int n, .v (.int .u8 qv)] [] (Is (.v (.bool true)) []) := by
  refine triple_of Try.func24 rfl (by kernel_rfl) rfl (by simp) ?_
  refine aSeq ?_
  refine aReg ?_
  refine sp pMa ?_
  refine oNil ?_
  refine aSeq ?_
  refine aSeq ?_
  refine aReg ?_
  refine sp pM ?_
  refine sp pB ?_
  refine sp pM ?_
  refine oSplitDec 14 rfl (fun c14 => ?_) (fun c14 => ?_)
  · skip
    refine gf ?_
    refine gf ?_
    refine sp pK ?_
    refine oNil ?_
    refine aCondT rfl ?_
    refine aSeq ?_
    refine aReg ?_
    refine sq ?_
    refine cv rfl rfl rfl (lents_refl _) law51_awake_v ?_
    refine sp pMa ?_
    refine oNil ?_
    refine aRet ?_
    refine finIs rfl ?_
    rfl
  · skip
    refine gp pM ?_
    refine gp pB ?_
    refine sp pK ?_
    refine oNil ?_
    refine aCondDec rfl (fun c17 => ?_) (fun c17 => ?_)
    · skip
      refine aSeq ?_
      refine aReg ?_
      refine sq ?_
      refine cv rfl rfl rfl (lents_refl _) law51_awake_v ?_
      refine sp pMa ?_
      refine oNil ?_
      refine aRet ?_
      refine finIs rfl ?_
      rfl
    · skip
      refine aSkip ?_
      refine aSeq ?_
      have hn1 : 1 ≤ n ∧ n ≤ 20 := by omega
      have hrm : 0 ≤ qv.tmod n ∧ qv.tmod n < n := ⟨Int.tmod_nonneg _ hcv, Int.tmod_lt_of_pos _ (by omega)⟩
      have hk5 := tmod5 hkv
      obtain ⟨m, rfl⟩ : ∃ m : Nat, n = m := ⟨n.toNat, by omega⟩
      obtain ⟨hh1, hh2, hh3⟩ := hangs (k := kv.tmod 5) (m := m) (c := 1 + qv.tmod m) hk5 (by omega) (by omega) (by omega) (by omega)
      have hsl := shape_len (k := kv.tmod 5) (m := m) (c := 1 + qv.tmod m) hk5 (by omega) (by omega) (by omega) (by omega)
      have hmu := mul20 hn1.1 hn1.2
      refine aReg ?_
      refine sp pM ?_
      refine sp (by first | exact pCvK ik_5 ik_3 | exact pConv rfl rfl ik_5 ik_3 rfl) ?_
      refine sp pM ?_
      refine sp (pRem rfl rfl rfl (by first | decide | omega)) ?_
      refine sp pAd ?_
      refine sp pMa ?_
      refine oNil ?_
      refine aSeq ?_
      refine aReg ?_
      refine sp pM ?_
      refine sp pM ?_
      refine sp pM ?_
      refine sq ?_
      refine ci rfl rfl rfl (law51_shape_s (kv := kv) (n := (m : Int)) (col := (1 + qv.tmod (m : Int))) (cost := 1)) ?_
      refine sp pMa ?_
      refine oNil ?_
      refine aSeq ?_
      refine aReg ?_
      refine sq ?_
      refine qLit (l := []) rfl rfl (by decide) us_25 ty_3 ze_3 rfl (by decide) (by decide) rfl rfl rfl (fun b28 => ?_)
      refine sp pMa ?_
      refine oNil ?_
      refine aSeq ?_
      refine aSeq ?_
      refine aReg ?_
      refine sp pMa ?_
      refine oNil ?_
      refine aBlock ?_
      refine loopF (α := Nat × List Int × Option Nat × Nat) (kept := [(0, _), (1, _), (8, _)]) (fun (i, u, g, c) => i ≤ m ∧ u = upL i) (fun (i, u, g, c) => [(10, .int ((i + 1 : Nat) : Int)), (9, .v (slV g u.length c))]) (fun (i, u, g, c) => [.sl g c 3 1 (u.map intA)]) (fun (i, u, g, c) => m - i) (0, [], _, _) ?_ ⟨gInt rfl (by first | rfl | omega | simp), gLen rfl (by first | rfl | simp | (simp; omega)), rfl, rfl, rfl, trivial⟩ (by repeat constructor) ?_
      · skip
        exact ⟨by omega, rfl⟩
      · rintro ⟨i, u, g, c⟩ ⟨hi, hu⟩
        refine aSeq ?_
        refine aSeq ?_
        refine aReg ?_
        refine sp pM ?_
        refine sp pM ?_
        refine sp pB ?_
        refine oNil ?_
        refine aCondDec rfl (fun c31 => ?_) (fun c31 => ?_)
        · skip
          refine aSkip ?_
          refine aSeq ?_
          refine aBlock ?_
          have hul : u.length = i := by rw [hu]; exact upL_len i
          refine aReg ?_
          refine sp pM ?_
          refine sp pM ?_
          refine sq ?_
          refine qLit (l := [_]) rfl rfl (by decide) us_25 ty_3 ze_3 rfl (by decide) (by decide) rfl rfl rfl (fun b36 => ?_)
          refine sa ?_
          refine oAppT ([((i + 1 : Nat) : Int)] : List Int) rfl rfl (by repeat constructor) (srcOwn rfl (by repeat constructor) rfl) el_25 sl_25 (fun g37 k37 => ?_)
          refine sp pMa ?_
          refine oNil ?_
          refine aReg ?_
          refine sp pM ?_
          refine sp pAd ?_
          refine sp pMa ?_
          refine oNil ?_
          refine ⟨(i + 1, _, _, _), ?_, by (try dsimp only); omega, ⟨gInt rfl (by first | rfl | omega | simp), gLen rfl (by first | rfl | simp | (simp; omega)), rfl, rfl, rfl, trivial⟩, _, (by repeat constructor)⟩
          exact ⟨by omega, by rw [upL_step, ← hu]⟩
        · skip
          refine aExit rfl ?_
          refine aSeq ?_
          have him : i = m := by omega
          rw [him] at hu
          have hul : u.length = m := by rw [hu]; exact upL_len m
          refine aWeak (weak_settle (k := 9) rfl (by repeat constructor) (by first | rfl | (simp; done) | (simp; omega) | (simp_all; done))) ?_
          refine aReg ?_
          refine sp pM ?_
          refine sp (by first | exact pLm sl_112 | exact pLs sl_112 | exact pLv sl_112) ?_
          refine sp pMa ?_
          refine oNil ?_
          refine cutF (α := Int) (kept := [(8, _), (9, _)]) (H0 := []) (fun y => y = manyH (kv.tmod 5) (m : Int) (shapeL (kv.tmod 5) (m : Int) (1 + qv.tmod (m : Int)) 1).length) (fun y => [(11, .int y)]) (fun y => []) ⟨rfl, rfl, trivial⟩ (by repeat constructor) ?_ ?_
          · skip
            refine aSeq ?_
            refine aReg ?_
            refine sp pM ?_
            refine sp (pRem rfl rfl rfl (by first | decide | omega)) ?_
            refine oNil ?_
            refine aBlock ?_
            refine aSeq ?_
            refine aSeq ?_
            refine aReg ?_
            refine sp pB ?_
            refine sp pMa ?_
            refine oNil ?_
            refine aCondEq rfl (fun c42 => ?_) (fun c42 => ?_)
            · skip
              refine aSkip ?_
              refine aCondEq rfl (fun c42 => ?_) (fun c42 => ?_)
              · skip
                refine aReg ?_
                refine sp pM ?_
                refine sp pSu ?_
                refine sp pMa ?_
                refine oNil ?_
                refine ⟨_, ?_, ⟨gInt rfl (by first | rfl | omega | simp), rfl, rfl, trivial⟩, _, (by repeat constructor)⟩
                unfold manyH
                (repeat' split) <;> first
                  | rfl
                  | omega
                  | (simp_all; done)
                  | (simp_all; omega)
              · skip
                refine aSeq ?_
                refine aReg ?_
                refine sp pB ?_
                refine sp pMa ?_
                refine oNil ?_
                refine aCondEq rfl (fun c47 => ?_) (fun c47 => ?_)
                · skip
                  refine aSeq ?_
                  refine aReg ?_
                  refine sp pM ?_
                  refine sp pSu ?_
                  refine sp pMa ?_
                  refine oNil ?_
                  refine aSeq ?_
                  refine aReg ?_
                  refine sp pM ?_
                  refine sp pB ?_
                  refine oNil ?_
                  refine aCondDec rfl (fun c52 => ?_) (fun c52 => ?_)
                  · skip
                    refine aReg ?_
                    refine sp pM ?_
                    refine sp pMa ?_
                    refine oNil ?_
                    refine ⟨_, ?_, ⟨gInt rfl (by first | rfl | omega | simp), rfl, rfl, trivial⟩, _, (by repeat constructor)⟩
                    unfold manyH
                    (repeat' split) <;> first
                      | rfl
                      | omega
                      | (simp_all; done)
                      | (simp_all; omega)
                  · skip
                    refine aSkip ?_
                    refine ⟨_, ?_, ⟨gInt rfl (by first | rfl | omega | simp), rfl, rfl, trivial⟩, _, (by repeat constructor)⟩
                    unfold manyH
                    (repeat' split) <;> first
                      | rfl
                      | omega
                      | (simp_all; done)
                      | (simp_all; omega)
                · skip
                  refine aSeq ?_
                  refine aReg ?_
                  refine sp pB ?_
                  refine sp pMa ?_
                  refine oNil ?_
                  refine aCondEq rfl (fun c54 => ?_) (fun c54 => ?_)
                  · skip
                    refine aReg ?_
                    refine sp pM ?_
                    refine sp pM ?_
                    refine sp pSu ?_
                    refine sp pMu ?_
                    refine sp (pQuoI rfl rfl rfl (by omega) (by omega) (by omega)) ?_
                    refine sp pMa ?_
                    refine oNil ?_
                    refine ⟨_, ?_, ⟨gInt rfl (by first | rfl | omega | simp), rfl, rfl, trivial⟩, _, (by repeat constructor)⟩
                    unfold manyH
                    (repeat' split) <;> first
                      | rfl
                      | omega
                      | (simp_all; done)
                      | (simp_all; omega)
                  · skip
                    refine aSkip ?_
                    refine ⟨_, ?_, ⟨gInt rfl (by first | rfl | omega | simp), rfl, rfl, trivial⟩, _, (by repeat constructor)⟩
                    unfold manyH
                    (repeat' split) <;> first
                      | rfl
                      | omega
                      | (simp_all; done)
                      | (simp_all; omega)
            · skip
              refine aReg ?_
              refine sp pB ?_
              refine sp pMa ?_
              refine oNil ?_
              refine aCondEq rfl (fun c42 => ?_) (fun c42 => ?_)
              · skip
                refine aReg ?_
                refine sp pM ?_
                refine sp pSu ?_
                refine sp pMa ?_
                refine oNil ?_
                refine ⟨_, ?_, ⟨gInt rfl (by first | rfl | omega | simp), rfl, rfl, trivial⟩, _, (by repeat constructor)⟩
                unfold manyH
                (repeat' split) <;> first
                  | rfl
                  | omega
                  | (simp_all; done)
                  | (simp_all; omega)
              · skip
                refine aSeq ?_
                refine aReg ?_
                refine sp pB ?_
                refine sp pMa ?_
                refine oNil ?_
                refine aCondEq rfl (fun c47 => ?_) (fun c47 => ?_)
                · skip
                  refine aSeq ?_
                  refine aReg ?_
                  refine sp pM ?_
                  refine sp pSu ?_
                  refine sp pMa ?_
                  refine oNil ?_
                  refine aSeq ?_
                  refine aReg ?_
                  refine sp pM ?_
                  refine sp pB ?_
                  refine oNil ?_
                  refine aCondDec rfl (fun c52 => ?_) (fun c52 => ?_)
                  · skip
                    refine aReg ?_
                    refine sp pM ?_
                    refine sp pMa ?_
                    refine oNil ?_
                    refine ⟨_, ?_, ⟨gInt rfl (by first | rfl | omega | simp), rfl, rfl, trivial⟩, _, (by repeat constructor)⟩
                    unfold manyH
                    (repeat' split) <;> first
                      | rfl
                      | omega
                      | (simp_all; done)
                      | (simp_all; omega)
                  · skip
                    refine aSkip ?_
                    refine ⟨_, ?_, ⟨gInt rfl (by first | rfl | omega | simp), rfl, rfl, trivial⟩, _, (by repeat constructor)⟩
                    unfold manyH
                    (repeat' split) <;> first
                      | rfl
                      | omega
                      | (simp_all; done)
                      | (simp_all; omega)
                · skip
                  refine aSeq ?_
                  refine aReg ?_
                  refine sp pB ?_
                  refine sp pMa ?_
                  refine oNil ?_
                  refine aCondEq rfl (fun c54 => ?_) (fun c54 => ?_)
                  · skip
                    refine aReg ?_
                    refine sp pM ?_
                    refine sp pM ?_
                    refine sp pSu ?_
                    refine sp pMu ?_
                    refine sp (pQuoI rfl rfl rfl (by omega) (by omega) (by omega)) ?_
                    refine sp pMa ?_
                    refine oNil ?_
                    refine ⟨_, ?_, ⟨gInt rfl (by first | rfl | omega | simp), rfl, rfl, trivial⟩, _, (by repeat constructor)⟩
                    unfold manyH
                    (repeat' split) <;> first
                      | rfl
                      | omega
                      | (simp_all; done)
                      | (simp_all; omega)
                  · skip
                    refine aSkip ?_
                    refine ⟨_, ?_, ⟨gInt rfl (by first | rfl | omega | simp), rfl, rfl, trivial⟩, _, (by repeat constructor)⟩
                    unfold manyH
                    (repeat' split) <;> first
                      | rfl
                      | omega
                      | (simp_all; done)
                      | (simp_all; omega)
          · rintro y hy
            refine aSeq ?_
            refine aReg ?_
            refine sp pM ?_
            refine sq ?_
            refine cv rfl rfl rfl (lents_refl _) (ref27_May (l := (shapeL (kv.tmod 5) (m : Int) (1 + qv.tmod (m : Int)) 1)) (by omega)) ?_
            rw [hh1]
            refine sp pM ?_
            refine gp pM ?_
            refine gp (by first | exact pLm sl_112 | exact pLs sl_112 | exact pLv sl_112) ?_
            refine gp pM ?_
            refine gp (pBl (by exact pB) (show _ = true from by first | (rw [hy, ← hh2]; simp; done) | (rw [hy, ← hh2]; exact decide_eq_true rfl))) ?_
            refine sp pK ?_
            refine sp pM ?_
            refine gp pM ?_
            refine gp pM ?_
            refine ga ?_
            refine (ci rfl rfl rfl (live_Parts_s (l := (shapeL (kv.tmod 5) (m : Int) (1 + qv.tmod (m : Int)) 1)) (up := u) (by omega) (by omega)) ?_).op
            refine gp (by first | exact pLm sl_109 | exact pLs sl_109 | exact pLv sl_109) ?_
            refine gp (pBl (by exact pB) (show _ = true from by rw [hu, hh3]; rfl)) ?_
            refine sp pK ?_
            refine sp pM ?_
            refine ga ?_
            refine (cv rfl rfl rfl (lents_refl _) law51_awake_v ?_).op
            refine sp pK ?_
            refine sp pMa ?_
            refine oNil ?_
            refine aRet ?_
            refine finIs rfl ?_
            rfl
end A
end Go.Proofs.Ytmcannmjielalaa
namespace Go.Proofs.Ytmcannmjielalaa.genHangs
open Go.ChangeShapes Go.WideShapes Go.ChangeAt Go.RowKit Go.Proofs.Ytmcannmjielalaa.A
open Go.ChangeMaps (open_string shut_string)
set_option linter.unusedVariables false
theorem own : ownKnob Try.prog.godebug = none := by kernel_rfl
theorem laidOut : laidOutB Try.prog = true := A.laidAll
theorem fInPlace : (Rows.genHangsRow.inPlace == Try.prog.inPlace 24) = true := by kernel_rfl
theorem fUnfollowed : (Rows.genHangsRow.unfollowed == Try.prog.unfollowed 24) = true := by kernel_rfl
theorem fRecurses : (Rows.genHangsRow.recurses == Try.prog.recurses 24) = true := by kernel_rfl
theorem fNamed : (Rows.genHangsRow.named == Try.prog.varsNamed 24) = true := by kernel_rfl
theorem closed : joinedFacts Try.prog 24 Try.f24 Rows.genHangsSpec Rows.genHangsRow = true := by
  unfold joinedFacts
  simp only [Bool.and_eq_true]
  refine ⟨⟨⟨⟨⟨⟨⟨⟨⟨⟨⟨⟨⟨⟨⟨⟨⟨⟨⟨⟨⟨⟨⟨⟨⟨⟨⟨⟨⟨⟨⟨?_, A.laidAll⟩, A.mapsAll⟩, ?_⟩, ?_⟩, ?_⟩, ?_⟩, ?_⟩, ?_⟩, fInPlace⟩, fUnfollowed⟩, fRecurses⟩, fNamed⟩, ?_⟩, ?_⟩, ?_⟩, ?_⟩, ?_⟩, ?_⟩, ?_⟩, ?_⟩, ?_⟩, ?_⟩, ?_⟩, A.stopsAll⟩, A.mayE⟩, by rw [A.lifF]; kernel_rfl⟩, by rw [A.mkC]; kernel_rfl⟩, ?_⟩, ?_⟩, ?_⟩, ?_⟩
  all_goals kernel_rfl
set_option maxRecDepth 100000 in
theorem lifted (os : Os) (started : os.Started) (H : Type) (enc : TypeId × Value → H) :
    ReturnsInHanded {} Try.checked os 24 .any (Rows.genHangsSpec.pre6 enc Try.prog Try.f24 Rows.genHangsRow.domain false) (Rows.genHangsSpec.post enc Try.prog Try.f24 false true false false) := by
  refine returnsInHanded_of_change_sized (C := Try.checked) own started (by kernel_rfl) Try.func24
    (ChangeSpec.witness6 (enc := enc) (C := Try.checked) false ⟨#[], #[.int .u8 0, .int .i64 0, .int .u8 0], []⟩ 8 (by kernel_rfl) (by kernel_rfl) (by kernel_rfl) (by kernel_rfl)) ?_
  intro W base args ds gs before hval0 hW hcnd hsz0 _
  have hval : ∀ (j : Nat) t v, Try.f24.params[j]? = some t → args[j]? = some v → Value.okWide Try.prog W .any base t v := hval0
  have hW' := hW
  obtain ⟨p, q, hA0, hV, rfl, hfz, hnd⟩ := hW
  have hA : DataW.TrodAll enc Try.prog W 0 (fun _ => true) true Try.f24.params.toList args.toList ds p := hA0
  rw [Try.params24] at hA hval
  obtain ⟨v0, vs0, d0, ds0, p0, q0, hargs, rfl, rfl, h0, r0⟩ := trodAll_cons hA
  obtain ⟨v1, vs1, d1, ds1, p1, q1, rfl, rfl, rfl, h1, r1⟩ := trodAll_cons r0
  obtain ⟨v2, vs2, d2, ds2, p2, q2, rfl, rfl, rfl, h2, r2⟩ := trodAll_cons r1
  obtain ⟨rfl, rfl, rfl⟩ := trodAll_nil r2
  obtain rfl : args = #[v0, v1, v2] := by cases args; simp_all
  obtain ⟨rfl, rfl⟩ := trodVars_none hV
  have k0 := h0
  have lt0 : ∀ x ∈ p0, x.block < W.heap.size := by obtain ⟨m, hm⟩ := k0; exact DataW.trod_lt m _ _ _ hm
  have one0 : v0.oneCell' = true := by obtain ⟨_, rfl⟩ := okWide_int Try.underlying5 (hval 0 5 v0 rfl rfl); rfl
  obtain ⟨a0, w0, rep0⟩ := argOne (opInt Try.underlying5) one0 h0
  have k1 := h1
  have lt1 : ∀ x ∈ p1, x.block < W.heap.size := by obtain ⟨m, hm⟩ := k1; exact DataW.trod_lt m _ _ _ hm
  have one1 : v1.oneCell' = true := by obtain ⟨_, rfl⟩ := okWide_int Try.underlying3 (hval 1 3 v1 rfl rfl); rfl
  obtain ⟨a1, w1, rep1⟩ := argOne (opInt Try.underlying3) one1 h1
  have k2 := h2
  have lt2 : ∀ x ∈ p2, x.block < W.heap.size := by obtain ⟨m, hm⟩ := k2; exact DataW.trod_lt m _ _ _ hm
  have one2 : v2.oneCell' = true := by obtain ⟨_, rfl⟩ := okWide_int Try.underlying5 (hval 2 5 v2 rfl rfl); rfl
  obtain ⟨a2, w2, rep2⟩ := argOne (opInt Try.underlying5) one2 h2
  refine (law_calls (law51_GenHangs (kv := a0) (n := a1) (qv := a2) (u8_range w0).1 (u8_range w0).2 (u8_range w2).1 (u8_range w2).2) (reps_cons rep0 (reps_cons rep1 (reps_cons rep2 reps_nil)))).mono fun e W' ⟨he, bel⟩ => ?_
  subst he
  exact ⟨_, rfl, _, _, _, [], _, [], hW', trodAll_mk1 (shut_bool Try.underlying4 _), (trodAll_cons_mk (Below.trod laidOut (by kernel_rfl) (of_decide_eq_true (by kernel_rfl)) k0 bel lt0) (trodAll_cons_mk (Below.trod laidOut (by kernel_rfl) (of_decide_eq_true (by kernel_rfl)) k1 bel lt1) (trodAll_cons_mk (Below.trod laidOut (by kernel_rfl) (of_decide_eq_true (by kernel_rfl)) k2 bel lt2) trodAll_mk0))), rfl, bel.frame _, fun h => by cases h⟩
theorem over : Rows.genHangsRow.holds Try.pinned (OpenSpec.ofChange Rows.genHangsSpec) :=
  OpenClaim.holds_of_wide 24 Try.f24 rfl rfl rfl rfl rfl rfl rfl ⟨rfl, rfl, rfl, rfl, rfl⟩ rfl rfl rfl rfl rfl (by kernel_rfl) Try.func24 closed
    (of_decide_eq_true (by kernel_rfl)) (by unfold Func.isWrapper; first | (rw [if_pos (by decide +kernel)]; kernel_rfl) | (rw [if_neg (by decide +kernel)]; exact ⟨rfl, rfl⟩))
    (fun os started H enc _ => lifted os started H enc)
theorem proved : Rows.GenHangsSaid := over
#print axioms proved
end Go.Proofs.Ytmcannmjielalaa.genHangs
