/- Whatever the input, waymarklaw52.LoadKeeps returns true, and each argument reads as it did. -/
import Derived.Shelf.SlSortCmp.NoneTotal
import Derived.Shelf.SlSortCmp.WholeK
import Derived.Test.YtmcannmjielalaaS13LoadKeeps
set_option linter.unusedVariables false
set_option linter.unusedSimpArgs false
namespace Go.Proofs.Ytmcannmjielalaa
namespace A
open Go.Sort Go.Shelf Go.Lib Go.RowKit
theorem run_enter {P : Program} {g : FuncId} (hb : HasBody P g) (args : Array Value) (w : World) : (callFunc g args).run P w = .ok (.enter g args) w := by
  obtain ⟨fn, h1, h2, h3⟩ := hb
  have hn' : ¬ fn.name = "runtime.NumGoroutine" := by simpa using h2
  have hb' : ¬ fn.body = none := fun h => by rw [h] at h3; cases h3
  simp [callFunc, h1, hn', hb']
theorem rep_v {F : Nat → Prop} {w : World} {x y : Value} (h : Rep F w (.v x) y) : y = x := by cases h; rfl
theorem heap_sortedK {w : World} {b n : Nat} {os : Array Obj} {cur D : Array Value} {e : TypeId} (hb : w.heap[b]? = some (.cells cur e (0, 0))) :
    (grow (putRow id (Sort.ahead w n) b 0 D) os).heap[b]? = some (.cells (putCells id 0 D cur) e (0, 0)) := by
  have hg : b < w.heap.size := (Array.getElem?_eq_some_iff.1 hb).1
  rw [heap_grow_old _ _ (by simpa using hg)]
  simp [putRow, mapBlock, Sort.ahead, Array.getElem?_modify, hb, onCells]
theorem grownBy_sortedK {w : World} {b n : Nat} {os : Array Obj} (D : Array Value) : w.grownBy (grow (putRow id (Sort.ahead w n) b 0 D) os) (some b) := by
  refine ⟨rfl, rfl, rfl, by simp, fun k hk hne => ?_⟩
  rw [heap_grow_old _ _ (by simpa using hk)]
  have : b ≠ k := fun e => hne (by rw [e])
  simp [putRow, mapBlock, Sort.ahead, Array.getElem?_modify, this]
theorem take_putCellsK (cur D : Array Value) (h : D.size ≤ cur.size) : (putCells id 0 D cur).toList.take D.size = D.toList := by
  apply List.ext_getElem?
  intro j
  by_cases hj : j < D.size
  · rw [List.getElem?_take_of_lt hj, Array.getElem?_toList]
    simp [putCells, hj, show j < cur.size by omega]
  · rw [List.getElem?_take_eq_none (by omega), List.getElem?_eq_none (by simp; omega)]
theorem cmp_lays {α : Type} [Inhabited α] {P : Program} {g : FuncId} {fC : α → List AV} {enc : α → List Value} {k : Nat} {cf : α → α → Int} {b size : Nat} {w : World} (hfe : ∀ x, fC x = (enc x).map .v) (h1 : ∀ x, ∀ v ∈ enc x, v.oneCell' = true)
    (hT : ∀ x y, Triple P g [.agg (fC x), .agg (fC y)] [] (Is (.int (cf x y)) [])) : CmpLays P g #[] enc k cf b 0 size w := by
  intro m os dk hs x y
  have hagg : ∀ z, Rep (fun _ => False) (sortWorldK enc k w b 0 m dk os) (.agg (fC z)) (.agg (enc z).toArray) := fun z => by
    refine .agg _ _ (by rw [hfe]; simp) (fun v hv => h1 z v (by simpa using hv)) (fun j av v hj hv => ?_)
    rw [hfe, List.getElem?_map, Option.map_eq_some_iff] at hj
    obtain ⟨u, hu, rfl⟩ := hj
    have : (enc z)[j]? = some v := by simpa using hv
    rw [hu] at this
    cases this
    exact .v _
  refine ((hT x y).2 (fun _ => False) (sortWorldK enc k w b 0 m dk os) #[.agg (enc x).toArray, .agg (enc y).toArray] ⟨fun x hx => by simp at hx, by simp, fun b hb => by simp at hb, fun b hb => hb.elim⟩ ?_).mono ?_
  · exact reps_cons (vs := [.agg (enc y).toArray]) (hagg x) (reps_cons (vs := []) (hagg y) reps_nil)
  · rintro ex w' ⟨r, v, h', F', rfl, ⟨rfl, rfl⟩, hr, hR, hE⟩
    have := rep_v hr
    subst this
    generalize hW : sortWorldK enc k w b 0 m dk os = W at hE
    refine ⟨rfl, w'.drawn - W.drawn, w'.heap.extract W.heap.size w'.heap.size, ?_⟩
    have hd := hE.dr
    have hh : w'.heap = W.heap ++ w'.heap.extract W.heap.size w'.heap.size := by
      apply Array.ext_getElem?
      intro j
      by_cases hj : j < W.heap.size
      · rw [Array.getElem?_append_left hj]
        exact hE.keep j hj (by simp)
      · rw [Array.getElem?_append_right (by omega), Array.getElem?_extract]
        by_cases hj2 : j < w'.heap.size
        · rw [if_pos (by omega)]
          congr 1
          omega
        · rw [if_neg (by omega), Array.getElem?_eq_none (by omega)]
    obtain ⟨hp, tp, dr, ww, ou⟩ := w'
    obtain ⟨hp0, tp0, dr0, ww0, ou0⟩ := W
    have e1 := hE.os
    have e2 := hE.output
    have e3 := hE.tape
    simp only at e1 e2 e3 hd hh
    subst e1
    subst e2
    subst e3
    simp only [grow, World.drewN, World.mk.injEq, true_and, and_true]
    exact ⟨hh, by omega⟩
theorem mul_add_div {i j k : Nat} (h : j < k) : (i * k + j) / k = i := by
  rw [Nat.mul_comm, Nat.mul_add_div (by omega), Nat.div_eq_of_lt h, Nat.add_zero]
theorem mul_add_mod {i j k : Nat} (h : j < k) : (i * k + j) % k = j := by
  rw [Nat.mul_comm, Nat.mul_add_mod, Nat.mod_eq_of_lt h]
theorem triple_sortFunc {α : Type} [Inhabited α] {P : Program} {ρ : Ren} {f g : FuncId} (L : SlLaysF0.n6 P ρ) (hf : ρ.f 6 = f) (hb : HasBody P f) {k t : Nat} (ht : ρ.t 24 = t) (hty : tyOf P t = some (k, true)) (h0 : 0 < k) {fC : α → List AV} (enc : α → List Value) (hfe : ∀ x, fC x = (enc x).map .v) (hk : ∀ x, (enc x).length = k) (h1 : ∀ x, ∀ v ∈ enc x, v.oneCell' = true)
    (cf : α → α → Int) (hO : SWO (ltOf cf)) (hT : ∀ x y, Triple P g [.agg (fC x), .agg (fC y)] [] (Is (.int (cf x y)) [])) (hg : HasBody P g) (gg : Option Nat) (c e : Nat) (ws : List α) (hz : ws.length < 4611686018427387904) :
    Triple P f [.v (slV gg ws.length c), .fn (.func g) []] [.sl gg c e k (ws.map fC)] (fun r h' => ∃ ts : List α, ts.Perm ws ∧ ts.Pairwise (fun x y => ltOf cf y x = false) ∧ r = .tup [] ∧ h' = [.sl gg c e k (ts.map fC)]) := by
  subst hf
  subst ht
  refine ⟨hb, fun F w vs hR hreps => ?_⟩
  obtain ⟨hv1, hv2⟩ := hreps
  obtain ⟨x, y, rfl⟩ : ∃ x y, vs = #[x, y] := by
    match vs, hv1 with
    | ⟨[x, y]⟩, _ => exact ⟨x, y, rfl⟩
  have hx := hv2 0 _ x rfl rfl
  have hy := hv2 1 _ y rfl rfl
  have hx := rep_v hx
  subst hx
  obtain rfl : y = .func (.func g) #[] #[] := by
    cases hy with
    | fn _ _ cx hcl _ =>
      obtain rfl : cx = #[] := Array.eq_empty_of_size_eq_zero (by simpa using hcl)
      rfl
  have hha := hR.rep _ (List.mem_singleton.2 rfl)
  have hlen : (ws.map fC).length = ws.length := List.length_map _
  have aE : ∀ w, (isAgg (ρ.t 24)).run P w = .ok true w := fun w => run_isAgg hty w
  have zE : ∀ w, (Go.sizeOf (ρ.t 24)).run P w = .ok k w := fun w => run_sizeOf hty w
  match gg with
  | none =>
    have hn : ws = [] := by
      obtain ⟨xs, ho, _⟩ := hha
      rcases ho.2 with ⟨_, h⟩ | ⟨b, _, _, h, _⟩
      · exact List.eq_nil_of_length_eq_zero (by simpa using h)
      · simp [slV] at h
    subst hn
    refine (AnyF.slices_SortFunc_none L none c (.func (.func g) #[] #[]) w).mono ?_
    rintro ex w' ⟨rfl, rfl⟩
    exact ⟨.tup [], .tuple #[], _, F, rfl, ⟨[], .nil, .nil, rfl, rfl⟩, .tup _ _ rfl (fun j av x hj => by simp at hj), hR, .refl _ _ _⟩
  | some b =>
    obtain ⟨cur, hg0, hnc, hcm, hcs, hyz, hrest⟩ := row_of hha
    obtain ⟨xs, hxl, _, hx1, hxc, hxr⟩ := own_cells hha
    rw [hlen] at hxl hnc
    have hflat : ∀ j, j < ws.length * k → xs[j]? = some ((flatK enc k ws.toArray)[j]!) := fun j hj => by
      have hjx : j < xs.length := by omega
      have hi : j / k < ws.length := by rw [Nat.div_lt_iff_lt_mul h0]; exact hj
      have hm : j % k < k := Nat.mod_lt _ h0
      have e1 : (ws.map fC)[j / k]? = some (fC ws[j / k]) := by simp [hi]
      have e2 : (fC ws[j / k])[j % k]? = some (.v ((enc ws[j / k])[j % k]'(by rw [hk]; exact hm))) := by rw [hfe]; simp [hk, hm]
      have e3 : xs[j / k * k + j % k]? = some xs[j] := by rw [Nat.div_add_mod']; exact List.getElem?_eq_getElem hjx
      have := rep_v (hxr _ _ _ _ _ e1 e2 e3)
      rw [List.getElem?_eq_getElem hjx, this, get_flatK _ _ _ _ (by simpa using hj)]
      simp [hi, hk, hm]
    have hH : HoldsK enc k w b 0 ws.toArray := by
      intro j hj
      have hj' : j < ws.length * k := by simpa using hj
      refine ⟨?_, by simp [World.frozen?, hg0]⟩
      rw [Nat.zero_add]
      exact hxc j _ (hflat j hj')
    have hlt : b < w.heap.size := hR.lt b (by simp [HA.own])
    refine (AnyQ.slices_SortFunc L k aE zE enc hk h1 cf hO g #[] b 0 c ws.toArray w (run_enter hg) (cmp_lays hfe h1 hT) hH hlt (by simpa using hz)).mono ?_
    rintro ex w' ⟨rfl, d', n, os, hp, hs, rfl⟩
    have hsz : d'.size = ws.length := by simpa using hp.1
    have hperm : d'.toList.Perm ws := by
      have := hp.2.2
      simp only [List.size_toArray] at this
      simp only [Array.toList_extract, List.drop_zero, List.extract_eq_take_drop, Nat.sub_zero] at this
      rw [List.take_of_length_le (by simp [hsz]), List.take_of_length_le (by simp)] at this
      exact this
    have hpair : d'.toList.Pairwise (fun x y => ltOf cf y x = false) := by
      rw [List.pairwise_iff_getElem]
      intro i j hi hj hij
      have hj' : j < d'.size := by simpa using hj
      have := hs i j (Nat.zero_le _) hij (by simpa [hsz] using hj')
      rw [getElem!_pos d' j hj', getElem!_pos d' i (by omega)] at this
      simpa using this
    have hgr := grownBy_sortedK (n := n) (os := os) (b := b) (w := w) (flatK enc k d')
    have hset : ∀ k', F k' → (grow (putRow id (Sort.ahead w n) b 0 (flatK enc k d')) os).heap[k']? = w.heap[k']? := fun k' hk' => hgr.block k' (hR.sep k' hk').1 (fun e => (hR.sep k' hk').2 (by simp at e; simp [HA.own, e]))
    have hfs : (flatK enc k d').size = ws.length * k := by simp [hsz]
    have hcap : (flatK enc k d').size ≤ cur.size := by rw [hfs, hcs]; exact Nat.mul_le_mul_right _ hnc
    refine ⟨.tup [], .tuple #[], _, F, rfl, ⟨d'.toList, hperm, hpair, rfl, rfl⟩, .tup _ _ rfl (fun j av x hj => by simp at hj), ⟨fun y hy => ?_, by simp [HA.own], fun k' hk' => ?_, fun k' hk' => ⟨Nat.lt_of_lt_of_le (hR.sep k' hk').1 hgr.size, fun hm => (hR.sep k' hk').2 (by simpa [HA.own] using hm)⟩⟩, ⟨hgr.os, hgr.output, hgr.tape, hgr.size, fun k' hk' hn => hgr.block k' hk' (fun e => hn (by simp at e; simp [HA.own, e])), fun k' hk' => .inl (by simpa [HA.own] using hk'), fun _ h => h, fun _ h => .inl h, by show w.drawn ≤ w.drawn + n; omega⟩⟩
    · rw [List.mem_singleton] at hy
      subst hy
      have e1 : (d'.toList.map fC).length = ws.length := by simp [hsz]
      have hget : ∀ i j v, i < ws.length → j < k → (flatK enc k d').toList[i * k + j]? = some v → ∃ u, d'[i]? = some u ∧ (enc u)[j]? = some v := fun i j v hi hj hv => by
        have hlt2 : i * k + j < d'.size * k := by rw [hsz]; exact idx_lt hi hj
        rw [Array.getElem?_toList, Array.getElem?_eq_getElem (by simpa using hlt2)] at hv
        have hv := Option.some.inj hv
        rw [← getElem!_pos (flatK enc k d') (i * k + j) (by simpa using hlt2), get_flatK _ _ _ _ hlt2, mul_add_div hj, mul_add_mod hj] at hv
        refine ⟨d'[i]!, by rw [getElem!_pos d' i (by omega)]; exact Array.getElem?_eq_getElem (by omega), ?_⟩
        rw [← hv, getElem!_pos (enc d'[i]!) j (by rw [hk]; exact hj)]
        exact List.getElem?_eq_getElem _
      refine ⟨(flatK enc k d').toList, ⟨by rw [Array.length_toList, hfs, e1], .inr ⟨b, c, _, by rw [e1]; rfl, Nat.zero_le _, heap_sortedK hg0, by rw [e1]; exact hnc, hcm, by simp [putCells, hcs], ?_⟩⟩, fun y hy => ?_, fun x hx => ?_, ?_⟩
      · rw [e1, ← hfs]; exact take_putCellsK cur _ hcap
      · obtain ⟨z, _, rfl⟩ := List.mem_map.1 hy; rw [hfe]; simp [hk]
      · obtain ⟨j, hj⟩ := List.mem_iff_getElem?.1 hx
        have hj2 : j < ws.length * k := by have := (List.getElem?_eq_some_iff.1 hj).1; simpa [hsz] using this
        have hm : j % k < k := Nat.mod_lt _ h0
        have := hget (j / k) (j % k) x (by rw [Nat.div_lt_iff_lt_mul h0]; exact hj2) hm (by rw [Nat.div_add_mod']; exact hj)
        obtain ⟨u, _, hu⟩ := this
        exact h1 u x (List.mem_of_getElem? hu)
      · intro i j y av x hi hj hx
        rw [List.getElem?_map, Option.map_eq_some_iff] at hi
        obtain ⟨z, hz, rfl⟩ := hi
        have hil : i < ws.length := by have := (List.getElem?_eq_some_iff.1 hz).1; simpa [hsz] using this
        rw [hfe, List.getElem?_map, Option.map_eq_some_iff] at hj
        obtain ⟨u, hu, rfl⟩ := hj
        have hjk : j < k := by have := (List.getElem?_eq_some_iff.1 hu).1; rwa [hk] at this
        obtain ⟨z', hz', hx'⟩ := hget i j x hil hjk hx
        have : z' = z := by
          rw [Array.getElem?_toList] at hz
          rw [hz] at hz'
          exact (Option.some.inj hz').symm
        subst this
        rw [hu] at hx'
        cases hx'
        exact .v _
    · have : k' = b := by simpa [HA.own] using hk'
      subst this
      exact Nat.lt_of_lt_of_le hlt hgr.size
end A
end Go.Proofs.Ytmcannmjielalaa
set_option linter.unusedVariables false
set_option linter.unusedSimpArgs false
set_option linter.unusedSectionVars false
namespace Go.Proofs.Ytmcannmjielalaa
namespace A
variable {P : Program} {N : Nat} {env : Env} {h : List HA} {K : Cont} {X : List (Nat × Cont)} {Rt : Cont}
variable {κ : Type} [DecidableEq κ] {kf : κ → List Value} {kt : TypeId} {n : Nat} {l : List (Nat × EQ)}
theorem kGet_ne {β : Type} : ∀ {m : List (κ × β)} {a : κ}, kGet m a = none → ∀ (j : Nat) p, m[j]? = some p → a ≠ p.1
  | [], a, _, j, p, hp => by simp at hp
  | (q, u) :: t, a, hn, j, p, hp => by
    simp only [kGet] at hn
    split at hn
    · cases hn
    · rename_i hne
      cases j with
      | zero => simp at hp; subst hp; exact hne
      | succ j => exact kGet_ne hn j p (by simpa using hp)
theorem kPut_put {β : Type} {a : κ} {u v : β} : ∀ {m : List (κ × β)}, kPut (kPut m a u) a v = kPut m a v
  | [] => by simp [kPut]
  | (q, w) :: t => by
    by_cases e : a = q
    · subst e; simp [kPut]
    · simp only [kPut, e, if_false, kPut_put]
/-- The entries of a map of ints. -/
structure EI (kf : κ → List Value) (m : List (κ × Int)) (ents : Array MapEntry) (clock : Nat) : Prop where
  sz : ents.size = m.length
  ent : ∀ (i : Nat) kv e, m[i]? = some kv → ents[i]? = some e → e.key = keyV kf kv.1 ∧ e.val = .int .i64 kv.2 ∧ e.born < clock
  uq : ∀ (i j : Nat) e f, ents[i]? = some e → ents[j]? = some f → e.born = f.born → i = j
theorem EI.ents {m : List (κ × Int)} {ents : Array MapEntry} {clock : Nat} (hE : EI kf m ents clock) (F : Nat → Prop) (w : World) : EntsK kf inA F w clock ents.toList m :=
  entsK_of _ _ (by simp [hE.sz]) (fun i kv e a b => by
    obtain ⟨h1, h2, h3⟩ := hE.ent i kv e a (by simpa using b)
    exact ⟨h1, by rw [h2]; exact .v _, h3⟩)
theorem EI.of {F : Nat → Prop} {w : World} {m : List (κ × Int)} {ents : Array MapEntry} {clock : Nat} (h4 : EntsK kf inA F w clock ents.toList m) (h5 : ∀ (i j : Nat) e f, ents[i]? = some e → ents[j]? = some f → e.born = f.born → i = j) : EI kf m ents clock := by
  obtain ⟨hl, hel⟩ := entsK_to h4
  simp only [Array.length_toList, Array.getElem?_toList] at hl hel
  refine ⟨hl, fun i kv e a b => ?_, h5⟩
  obtain ⟨h1, h2, h3⟩ := hel i kv e a b
  refine ⟨h1, ?_, h3⟩
  generalize e.val = v at h2
  cases h2
  rfl
variable {o : Oper} {t et : TypeId} {x i y : Operand} {b : Nat} {m : List (κ × Int)} {a : κ} {h' : List HA} {v : Int}
/-- The entry of a key is found, or made. -/
theorem oKME {d : Nat} (k : KeyT P kt kf n l) (ho : o.op = .mapEntry t x i) (hd : o.dst = some d) (hN : d < N) (hx : ev env x = some (.v (.map (some b)))) (hi : ev env i = some (keyA kf a)) (hm : P.underlying t = some (.map kt et)) (hz : zeroOf P et = some (.int .i64 0))
    (hk : ∀ ents clock j e, EI kf (kPut m a ((kGet m a).getD 0)) ents clock → ents[j]? = some e → (kPut m a ((kGet m a).getD 0))[j]? = some (a, (kGet m a).getD 0) → (∀ (j' : Nat) p, j' < j → (kPut m a ((kGet m a).getD 0))[j']? = some p → a ≠ p.1) → K ((d, .tup [.int ((kGet m a).getD 0), .int e.born]) :: env) (.obj b (.map ents clock) :: h'))
    (hs : Spl h (.mapK b (kvKM kf inA m)) h' := by repeat constructor) : AOp P N o env h K := by
  intro B F ac w Q s ex hdef
  have hr := s.ev hx
  have hri := rep_keyA (s.ev hi)
  generalize hv : ac.eval x = vx at hr
  cases hr
  obtain ⟨ents, clock, h3, h4, h5⟩ := mapK_ents (s.r.rep _ (spl_mem hs))
  have hE := EI.of h4 h5
  have hlt := s.r.lt b (own_mapK hs)
  have hobj : (getObj b).run P w = .ok (.map ents clock) w := by simp only [getObj, Sem.run, h3]
  have hset : ∀ obj, (setObj b obj).run P w = .ok () { w with heap := w.heap.setIfInBounds b obj } := fun obj => by simp only [setObj, Sem.run, h3]
  have hup : ∀ obj, R F (.obj b obj :: h') { w with heap := w.heap.setIfInBounds b obj } ∧ Ext F h w F (.obj b obj :: h') { w with heap := w.heap.setIfInBounds b obj } := fun obj =>
    s.r.upd (x' := .obj b obj) hs rfl rfl rfl rfl (by simp) (fun q hq => setObj_other (by simpa [HA.own] using hq)) (setObj_heap hlt)
  have two : ∀ (p q : Int), Rep F { w with heap := w.heap } (.tup [.int p, .int q]) (.tuple #[.int .i64 p, .int .i64 q]) := fun p q => .tup _ _ rfl (fun j av z hj hz => by
    match j with
    | 0 => simp at hj hz; subst hj; subst hz; exact .v _
    | 1 => simp at hj hz; subst hj; subst hz; exact .v _
    | j + 2 => simp at hj)
  have two' : ∀ (w' : World) (p q : Int), Rep F w' (.tup [.int p, .int q]) (.tuple #[.int .i64 p, .int .i64 q]) := fun w' p q => .tup _ _ rfl (fun j av z hj hz => by
    match j with
    | 0 => simp at hj hz; subst hj; subst hz; exact .v _
    | 1 => simp at hj hz; subst hj; subst hz; exact .v _
    | j + 2 => simp at hj)
  unfold Oper.wp
  rcases find_entsK k (a := a) h4 with ⟨h6, h7⟩ | ⟨j, e, v0, h6, h8, h9, h10, h11⟩
  · have hp : kPut m a 0 = m ++ [(a, 0)] := kPut_new h7
    have hrun : (execOp ac.eval o).run P w = .ok (.value (.tuple #[.int .i64 0, .int .i64 clock])) { w with heap := w.heap.setIfInBounds b (.map (ents.push { key := keyV kf a, val := .int .i64 0, born := clock }) (clock + 1)) } := by
      simp [execOp, ho, hv, hri, Instr.mapEntry, run_underlying' hm, hobj, k.check, h6, hset, run_zero hz, goInt]
    obtain ⟨hR, hE2⟩ := hup (.map (ents.push { key := keyV kf a, val := .int .i64 0, born := clock }) (clock + 1))
    rw [hrun, Oper.upon_value, hd]
    rw [h7] at hk
    refine ⟨hdef, F, _, _, hk _ _ m.length { key := keyV kf a, val := .int .i64 0, born := clock } ⟨?_, fun i kv e hkv he => ?_, fun i j e f hi hj hb => ?_⟩ ?_ ?_ (fun j' p hj' hp' => ?_), s.put hE2 hR hN (two' _ 0 clock), ex.trans hE2⟩
    · show _ = (kPut m a 0).length
      rw [hp]; simp [hE.sz]
    · rw [show (kPut m a ((none : Option Int).getD 0)) = m ++ [(a, 0)] from hp] at hkv
      rw [Array.getElem?_push] at he
      by_cases hi : i = ents.size
      · rw [if_pos hi] at he
        rw [hi, hE.sz, List.getElem?_append_right (Nat.le_refl _)] at hkv
        simp at hkv he
        subst hkv; subst he
        exact ⟨rfl, rfl, by simp⟩
      · rw [if_neg hi] at he
        have hil := (Array.getElem?_eq_some_iff.1 he).1
        rw [List.getElem?_append_left (by rw [← hE.sz]; exact hil)] at hkv
        obtain ⟨a1, a2, a3⟩ := hE.ent i kv e hkv he
        exact ⟨a1, a2, by omega⟩
    · rw [Array.getElem?_push] at hi hj
      have hold : ∀ (q : Nat) g, ents[q]? = some g → g.born < clock := fun q g hq => (hE.ent q _ g (List.getElem?_eq_getElem (by rw [← hE.sz]; exact (Array.getElem?_eq_some_iff.1 hq).1)) hq).2.2
      split at hi <;> split at hj
      · omega
      · have := hold _ _ hj; simp at hi; subst hi; simp at hb; omega
      · have := hold _ _ hi; simp at hj; subst hj; simp at hb; omega
      · exact hE.uq i j e f hi hj hb
    · rw [Array.getElem?_push, if_pos hE.sz.symm]
    · rw [show (kPut m a ((none : Option Int).getD 0)) = m ++ [(a, 0)] from hp, List.getElem?_append_right (Nat.le_refl _)]
      simp
    · rw [show (kPut m a ((none : Option Int).getD 0)) = m ++ [(a, 0)] from hp, List.getElem?_append_left hj'] at hp'
      exact kGet_ne h7 j' p hp'
  · simp only [Array.getElem?_toList] at h8
    have hp : kPut m a v0 = m.set j (a, v0) := kPut_old h9 h11
    have hjm := (List.getElem?_eq_some_iff.1 h9).1
    obtain ⟨hkey, hval, hbn⟩ := hE.ent j _ e h9 h8
    have hval2 : e.val = .int .i64 v0 := hval
    have hrun : (execOp ac.eval o).run P w = .ok (.value (.tuple #[.int .i64 v0, .int .i64 e.born])) { w with heap := w.heap.setIfInBounds b (.map (ents.modify j fun e => { e with key := keyV kf a }) clock) } := by
      simp [execOp, ho, hv, hri, Instr.mapEntry, run_underlying' hm, hobj, k.check, h6, hset, h8, hkey, k.stays, goInt, hval2]
    obtain ⟨hR, hE2⟩ := hup (.map (ents.modify j fun e => { e with key := keyV kf a }) clock)
    have hmod : ∀ (q : Nat) g, (ents.modify j fun e => { e with key := keyV kf a })[q]? = some g → ∃ g0, ents[q]? = some g0 ∧ g.born = g0.born ∧ g.val = g0.val ∧ g.key = if j = q then keyV kf a else g0.key := fun q g hq => by
      rw [Array.getElem?_modify] at hq
      split at hq
      · rename_i hji
        obtain ⟨g0, h0, rfl⟩ := Option.map_eq_some_iff.1 hq
        exact ⟨g0, h0, rfl, rfl, by rw [if_pos hji]⟩
      · rename_i hji
        exact ⟨g, hq, rfl, rfl, by rw [if_neg hji]⟩
    rw [hrun, Oper.upon_value, hd]
    rw [h10] at hk
    have hpm : kPut m a ((some v0 : Option Int).getD 0) = m.set j (a, v0) := hp
    have hset0 : m.set j (a, v0) = m := by
      apply List.ext_getElem?
      intro q
      by_cases hq : j = q
      · subst hq; rw [List.getElem?_set_self hjm, h9]
      · rw [List.getElem?_set_ne hq]
    rw [hset0] at hpm
    refine ⟨hdef, F, _, _, hk _ _ j { e with key := keyV kf a } ⟨?_, fun i kv g hkv hg => ?_, fun i q g f hi hj hb => ?_⟩ ?_ ?_ (fun j' p hj' hp' => ?_), s.put hE2 hR hN (two' _ v0 e.born), ex.trans hE2⟩
    · rw [hpm]; simp [hE.sz]
    · rw [hpm] at hkv
      obtain ⟨g0, q1, q2, q3, q4⟩ := hmod i g hg
      obtain ⟨a1, a2, a3⟩ := hE.ent i kv g0 hkv q1
      refine ⟨?_, by rw [q3]; exact a2, by rw [q2]; exact a3⟩
      rw [q4]
      split
      · rename_i hji; subst hji; rw [h9] at hkv; cases hkv; rfl
      · exact a1
    · obtain ⟨g0, q1, q2, _⟩ := hmod i g hi
      obtain ⟨f0, q3, q4, _⟩ := hmod q f hj
      exact hE.uq i q g0 f0 q1 q3 (by rw [← q2, ← q4, hb])
    · rw [Array.getElem?_modify, if_pos rfl, h8]; rfl
    · rw [hpm]; exact h9
    · rw [hpm] at hp'; exact h11 j' p hj' hp'
/-- The entry found is written. -/
theorem oKES {s0 : Operand} {ents : Array MapEntry} {clock j : Nat} {e : MapEntry} {v0 : Int} (hE : EI kf m ents clock) (he : ents[j]? = some e) (hj : m[j]? = some (a, v0)) (hf : ∀ (j' : Nat) p, j' < j → m[j']? = some p → a ≠ p.1) (ho : o.op = .entryStore t x s0 y) (hd : o.dst = none) (hx : ev env x = some (.v (.map (some b)))) (hs0 : ev env s0 = some (.int e.born)) (hy : ev env y = some (.int v))
    (hk : K env (.mapK b (kvKM kf inA (kPut m a v)) :: h')) (hs : Spl h (.obj b (.map ents clock)) h' := by repeat constructor) : AOp P N o env h K := by
  intro B F ac w Q s ex hdef
  have hr := s.ev hx
  have hr0 := s.ev hs0
  have hry := s.ev hy
  generalize hv : ac.eval x = vx at hr
  generalize hv0 : ac.eval s0 = vs at hr0
  generalize hvy : ac.eval y = vy at hry
  cases hr; cases hr0; cases hry
  have h3 : w.heap[b]? = some (.map ents clock) := s.r.rep _ (spl_mem hs)
  have hown : b ∈ owns h := owns_spl hs (by simp [HA.own])
  have hlt := s.r.lt b hown
  have hobj : (getObj b).run P w = .ok (.map ents clock) w := by simp only [getObj, Sem.run, h3]
  have hset : ∀ obj, (setObj b obj).run P w = .ok () { w with heap := w.heap.setIfInBounds b obj } := fun obj => by simp only [setObj, Sem.run, h3]
  have hje := (Array.getElem?_eq_some_iff.1 he).1
  have hfi : ents.findIdx? (fun e' => (e'.born : Int) == (e.born : Int)) = some j := by
    rw [Array.findIdx?_eq_some_iff_getElem]
    refine ⟨hje, ?_, fun q hq => ?_⟩
    · rw [(Array.getElem?_eq_some_iff.1 he).2]; simp
    · intro h2
      have := hE.uq q j _ e (Array.getElem?_eq_getElem (by omega)) he (Int.ofNat.inj (show ((_ : Nat) : Int) = _ by simpa using h2))
      omega
  have hp : kPut m a v = m.set j (a, v) := kPut_old hj hf
  have hjm := (List.getElem?_eq_some_iff.1 hj).1
  have hrun : (execOp ac.eval o).run P w = .ok .skip { w with heap := w.heap.setIfInBounds b (.map (ents.modify j fun e => { e with val := .int .i64 v }) clock) } := by
    simp [execOp, ho, hv, hv0, hvy, Instr.entryStore, hobj, asInt, asIntOf, hfi, hset]
  have hmod : ∀ (q : Nat) g, (ents.modify j fun e => { e with val := .int .i64 v })[q]? = some g → ∃ g0, ents[q]? = some g0 ∧ g.born = g0.born ∧ g.key = g0.key ∧ g.val = if j = q then .int .i64 v else g0.val := fun q g hq => by
    rw [Array.getElem?_modify] at hq
    split at hq
    · rename_i hji
      obtain ⟨g0, h0, rfl⟩ := Option.map_eq_some_iff.1 hq
      exact ⟨g0, h0, rfl, rfl, by rw [if_pos hji]⟩
    · rename_i hji
      exact ⟨g, hq, rfl, rfl, by rw [if_neg hji]⟩
  obtain ⟨hR, hE2⟩ := s.r.upd (x' := .mapK b (kvKM kf inA (kPut m a v))) (w' := { w with heap := w.heap.setIfInBounds b (.map (ents.modify j fun e => { e with val := .int .i64 v }) clock) }) hs rfl rfl rfl rfl (by simp) (fun q hq => setObj_other (by simpa [HA.own] using hq)) ⟨_, _, setObj_heap hlt, by rw [hp]; simp [kvKM, hE.sz], fun q kv g hkv hg => by
      obtain ⟨g0, q1, q2, q3, q4⟩ := hmod q g hg
      rw [hp] at hkv
      simp only [kvKM, List.getElem?_map, Option.map_eq_some_iff] at hkv
      obtain ⟨pr, hpr, rfl⟩ := hkv
      by_cases hjq : j = q
      · subst hjq
        rw [List.getElem?_set_self hjm] at hpr
        cases hpr
        obtain ⟨a1, a2, a3⟩ := hE.ent j _ g0 hj q1
        rw [if_pos rfl] at q4
        exact ⟨by rw [q3]; exact a1, by rw [q4]; exact .v _, by rw [q2]; exact a3⟩
      · rw [List.getElem?_set_ne hjq] at hpr
        obtain ⟨a1, a2, a3⟩ := hE.ent q _ g0 hpr q1
        rw [if_neg hjq] at q4
        exact ⟨by rw [q3]; exact a1, by rw [q4, a2]; exact .v _, by rw [q2]; exact a3⟩, fun i q g f hi hq hb => by
      obtain ⟨g0, q1, q2, _⟩ := hmod i g hi
      obtain ⟨f0, q3, q4, _⟩ := hmod q f hq
      exact hE.uq i q g0 f0 q1 q3 (by rw [← q2, ← q4, hb])⟩
  unfold Oper.wp
  rw [hrun, Oper.upon_skip, hd]
  exact ⟨hdef, F, env, _, hk, s.go hE2 hR, ex.trans hE2⟩
/-- 'm[k]', where an entry was just found. -/
theorem rKGobj {ents : Array MapEntry} {clock : Nat} (k : KeyT P kt kf n l) (hE : EI kf m ents clock) (hm : P.underlying t = some (.map kt et)) (hz : zeroOf P et = some (.int .i64 0)) (ho : o.op = .lookup t x i false := by rfl) (hx : ev env x = some (.v (.map (some b))) := by rfl) (hi : ev env i = some (keyA kf a) := by rfl) (hs : Spl h (.obj b (.map ents clock)) h' := by repeat constructor) : ARead P N o env h (.int ((kGet m a).getD 0)) := by
  intro F ac w s
  have hr := s.ev hx
  have hri := rep_keyA (s.ev hi)
  generalize hv : ac.eval x = v at hr
  cases hr
  have h3 : w.heap[b]? = some (.map ents clock) := s.r.rep _ (spl_mem hs)
  have hown : b ∈ owns h := owns_spl hs (by simp [HA.own])
  have h4 := hE.ents F w
  have hobj : ∀ w', Agree F h w w' → (getObj b).run P w' = .ok (.map ents clock) w' := fun w' hw => by
    have := hw b (.inr hown)
    simp only [getObj, Sem.run, this, h3]
  rcases find_entsK k (a := a) h4 with ⟨h5, h6⟩ | ⟨j, e, v, h5, h6, h7, h8, _⟩
  · rw [h6]
    refine ⟨.int .i64 0, .v _, fun w' hw => ?_⟩
    simp [execOp, ho, hv, hri, Instr.lookup, run_underlying' hm, hobj w' hw, k.check, h5, run_zero hz]
  · rw [h8]
    have h9 := ((entsK_to h4).2 j _ e h7 h6).2.1
    refine ⟨e.val, h9, fun w' hw => ?_⟩
    simp [execOp, ho, hv, hri, Instr.lookup, run_underlying' hm, hobj w' hw, k.check, h5]
end A
end Go.Proofs.Ytmcannmjielalaa
set_option linter.unusedVariables false
set_option linter.unusedSimpArgs false
namespace Go.Proofs.Ytmcannmjielalaa
namespace A
structure Dm where
  f : Int
  t : Int
  n : Int
  deriving DecidableEq, Inhabited
def demC (d : Dm) : List AV := [.int d.f, .int d.t, .int d.n]
def amB (n : Int) : Bool := decide (1 ≤ n) && decide (n ≤ 1073741824)
def wayB (db : List Lsa) (d : Dm) : Bool := amB d.n && hopB db d.f d.t
def wayL (db : List Lsa) (d : Dm) : List Int := if amB d.n then hopL db d.f d.t else []
abbrev MK := List ((Int × Int) × Int)
def addK (m : MK) (p : Int × Int) (c : Int) : MK := kPut m p ((kGet m p).getD 0 + c)
def stepsI (c : Int) (L : List Int) (m : MK) : Nat → MK
  | 0 => m
  | k + 1 => addK (stepsI c L m k) (L.getD k 0, L.getD (k + 1) 0) c
def onD (db : List Lsa) (m : MK) (d : Dm) : MK := stepsI d.n (wayL db d) m ((wayL db d).length - 1)
def onM (db : List Lsa) (l : List Dm) : MK := l.foldl (onD db) []
theorem onM_step {db : List Lsa} {l : List Dm} {i : Nat} {d : Dm} (h : l[i]? = some d) : onM db (l.take (i + 1)) = onD db (onM db (l.take i)) d := by
  unfold onM
  rw [take_step h, List.foldl_append]
  rfl
def arcK (p : (Int × Int) × Int) : Arc := ⟨p.1.1, p.1.2, p.2⟩
def onA (db : List Lsa) (l : List Dm) : List Arc := (onM db l).map arcK
theorem way_len (db : List Lsa) (d : Dm) : (wayL db d).length ≤ 64 := by
  unfold wayL
  split
  · exact hopL_len db d.f d.t
  · simp
theorem way_has {db : List Lsa} {d : Dm} (h : 0 < (wayL db d).length) : 1 ≤ d.n ∧ d.n ≤ 1073741824 ∧ HWay (arcsDb db) d.t d.f (wayL db d) ∧ (∀ u ∈ wayL db d, 1 ≤ u ∧ u ≤ 64) := by
  unfold wayL at h ⊢
  cases ha : amB d.n with
  | false => rw [ha] at h; simp at h
  | true =>
    rw [ha, if_pos rfl] at h
    rw [if_pos rfl]
    have hB : hopB db d.f d.t = true := by
      unfold hopL at h
      split at h
      · assumption
      · simp at h
    obtain ⟨hw, hok, hi⟩ := hopB_way hB
    unfold amB at ha
    simp only [Bool.and_eq_true, decide_eq_true_eq] at ha
    have hr := isF_range (arcs_ok hok) hi
    exact ⟨ha.1, ha.2, hw, fun u hu => by
      have := isF_range (arcs_ok hok) (hw.isF (arcs_ok hok) ⟨hr.2.2.1, hr.2.2.2⟩ u hu)
      omega⟩
/-! ### What comes to a node, less what goes from it -/
def flw (x y n c : Int) : Int := (if y = n then c else 0) - (if x = n then c else 0)
theorem flw_add (x y n c d : Int) : flw x y n (c + d) = flw x y n c + flw x y n d := by unfold flw; split <;> split <;> omega
theorem flw_range {x y n c b : Int} (h0 : 0 ≤ c) (h1 : c ≤ b) : -b ≤ flw x y n c ∧ flw x y n c ≤ b := by unfold flw; split <;> split <;> omega
def potM (n : Int) : MK → Int
  | [] => 0
  | p :: t => flw p.1.1 p.1.2 n p.2 + potM n t
def potA (n : Int) : List Arc → Int
  | [] => 0
  | a :: t => flw a.f a.t n a.c + potA n t
def potD (db : List Lsa) (n : Int) : List Dm → Int
  | [] => 0
  | d :: t => (if 0 < (wayL db d).length then flw d.f d.t n d.n else 0) + potD db n t
theorem potA_map (n : Int) : ∀ m : MK, potA n (m.map arcK) = potM n m
  | [] => rfl
  | p :: t => by rw [List.map_cons, potA, potM, potA_map n t]; rfl
theorem potA_app (n : Int) : ∀ (l m : List Arc), potA n (l ++ m) = potA n l + potA n m
  | [], m => by simp [potA]
  | a :: t, m => by rw [List.cons_append, potA, potA, potA_app n t m]; omega
theorem potD_app (db : List Lsa) (n : Int) : ∀ (l m : List Dm), potD db n (l ++ m) = potD db n l + potD db n m
  | [], m => by simp [potD]
  | a :: t, m => by rw [List.cons_append, potD, potD, potD_app db n t m]; omega
theorem potA_perm {n : Int} {l m : List Arc} (h : l.Perm m) : potA n l = potA n m := by
  induction h with
  | nil => rfl
  | cons x _ ih => rw [potA, potA, ih]
  | swap x y l => rw [potA, potA, potA, potA]; omega
  | trans _ _ h1 h2 => rw [h1, h2]
theorem potM_put {n : Int} {p : Int × Int} {v : Int} : ∀ {m : MK}, potM n (kPut m p v) = potM n m - flw p.1 p.2 n ((kGet m p).getD 0) + flw p.1 p.2 n v
  | [] => by
    simp only [kPut, kGet, potM, Option.getD_none]
    unfold flw
    split <;> split <;> omega
  | (q, u) :: t => by
    by_cases e : p = q
    · subst e
      simp only [kPut, kGet, if_true, potM, Option.getD_some]
      omega
    · simp only [kPut, kGet, e, if_false, potM, potM_put]
      omega
theorem potM_add {n : Int} {p : Int × Int} {c : Int} {m : MK} : potM n (addK m p c) = potM n m + flw p.1 p.2 n c := by
  unfold addK
  rw [potM_put, flw_add]
  omega
theorem potM_steps {n c : Int} {L : List Int} {m : MK} : ∀ k, k < L.length → potM n (stepsI c L m k) = potM n m + flw (L.getD 0 0) (L.getD k 0) n c
  | 0, _ => by
    show potM n m = _
    unfold flw
    omega
  | k + 1, h => by
    rw [stepsI, potM_add, potM_steps k (by omega)]
    simp only
    unfold flw
    omega
theorem potM_onD {db : List Lsa} {m : MK} {d : Dm} (n : Int) : potM n (onD db m d) = potM n m + if 0 < (wayL db d).length then flw d.f d.t n d.n else 0 := by
  unfold onD
  by_cases h : 0 < (wayL db d).length
  · obtain ⟨_, _, hw, _⟩ := way_has h
    have h1 := hw.ends.1
    have h2 := hw.ends.2
    rw [List.head?_eq_getElem?] at h1
    rw [List.getLast?_eq_getElem?] at h2
    rw [potM_steps _ (by omega), List.getD, List.getD, h1, h2, if_pos h]
    rfl
  · rw [if_neg h, show (wayL db d).length - 1 = 0 by omega]
    simp [stepsI]
theorem potM_on {db : List Lsa} {n : Int} {l : List Dm} : potM n (onM db l) = potD db n l := by
  have key : ∀ (l : List Dm) (m : MK), potM n (l.foldl (onD db) m) = potM n m + potD db n l := fun l => by
    induction l with
    | nil => intro m; simp [potD]
    | cons d t ih => intro m; rw [List.foldl_cons, ih, potM_onD, potD]; omega
  unfold onM
  rw [key]
  simp [potM]
/-! ### How great loads are -/
structure MB (m : MK) (s : Nat) : Prop where
  rng : ∀ p ∈ m, 1 ≤ p.1.1 ∧ p.1.1 ≤ 64 ∧ 1 ≤ p.1.2 ∧ p.1.2 ≤ 64 ∧ 0 ≤ p.2 ∧ p.2 ≤ s * 1073741824
  len : m.length ≤ s
  nd : (m.map Prod.fst).Nodup
theorem MB.get {m : MK} {s : Nat} (h : MB m s) (p : Int × Int) : 0 ≤ (kGet m p).getD 0 ∧ (kGet m p).getD 0 ≤ s * 1073741824 := by
  cases hg : kGet m p with
  | none => simp; omega
  | some v =>
    have key : ∀ m : MK, kGet m p = some v → (p, v) ∈ m := fun m => by
      induction m with
      | nil => intro h; cases h
      | cons q t ih =>
        intro h
        obtain ⟨q, u⟩ := q
        simp only [kGet] at h
        split at h
        · rename_i e; cases h; subst e; simp
        · exact List.mem_cons_of_mem _ (ih h)
    have := h.rng _ (key m hg)
    rw [Option.getD_some]
    exact this.2.2.2.2
theorem mem_kPut {κ β : Type} [DecidableEq κ] {m : List (κ × β)} {p : κ} {v : β} {q : κ × β} (h : q ∈ kPut m p v) : q = (p, v) ∨ q ∈ m := by
  induction m with
  | nil => simp [kPut] at h; exact .inl h
  | cons r t ih =>
    obtain ⟨r, u⟩ := r
    simp only [kPut] at h
    split at h
    · rcases List.mem_cons.1 h with h | h
      · exact .inl h
      · exact .inr (List.mem_cons_of_mem _ h)
    · rcases List.mem_cons.1 h with h | h
      · exact .inr (by rw [h]; simp)
      · rcases ih h with h | h
        · exact .inl h
        · exact .inr (List.mem_cons_of_mem _ h)
theorem MB.add {m : MK} {s : Nat} (h : MB m s) {x y c : Int} (hx : 1 ≤ x ∧ x ≤ 64) (hy : 1 ≤ y ∧ y ≤ 64) (hc : 0 ≤ c ∧ c ≤ 1073741824) : MB (addK m (x, y) c) (s + 1) := by
  have hg := h.get (x, y)
  unfold addK
  refine ⟨fun q hq => ?_, ?_, kPut_nodup h.nd⟩
  · rcases mem_kPut hq with rfl | hq
    · refine ⟨hx.1, hx.2, hy.1, hy.2, ?_, ?_⟩
      · show 0 ≤ (kGet m (x, y)).getD 0 + c; omega
      · show (kGet m (x, y)).getD 0 + c ≤ _; omega
    · have := h.rng q hq; refine ⟨this.1, this.2.1, this.2.2.1, this.2.2.2.1, this.2.2.2.2.1, ?_⟩; omega
  · have := kPut_len (k := (x, y)) (v := (kGet m (x, y)).getD 0 + c) (m := m)
    have := h.len
    omega
theorem MB.mono {m : MK} {s t : Nat} (h : MB m s) (hst : s ≤ t) : MB m t := ⟨fun p hp => by
  have := h.rng p hp
  refine ⟨this.1, this.2.1, this.2.2.1, this.2.2.2.1, this.2.2.2.2.1, ?_⟩
  omega, Nat.le_trans h.len hst, h.nd⟩
theorem MB.steps {m : MK} {s : Nat} (h : MB m s) {c : Int} {L : List Int} (hc : 0 ≤ c ∧ c ≤ 1073741824) (hr : ∀ u ∈ L, 1 ≤ u ∧ u ≤ 64) : ∀ k, k < L.length → MB (stepsI c L m k) (s + k)
  | 0, _ => h
  | k + 1, hk => by
    have ih := MB.steps h hc hr k (by omega)
    have g1 : L.getD k 0 = L[k] := by rw [List.getD, List.getElem?_eq_getElem (by omega)]; rfl
    have g2 : L.getD (k + 1) 0 = L[k + 1] := by rw [List.getD, List.getElem?_eq_getElem (by omega)]; rfl
    rw [stepsI, g1, g2]
    exact ih.add (hr _ (List.getElem_mem _)) (hr _ (List.getElem_mem _)) hc
theorem MB.onD {db : List Lsa} {m : MK} {s : Nat} (h : MB m s) (d : Dm) : MB (onD db m d) (s + 64) := by
  unfold A.onD
  have hl := way_len db d
  by_cases hp : 0 < (wayL db d).length
  · obtain ⟨h1, h2, _, h3⟩ := way_has hp
    exact (h.steps ⟨by omega, h2⟩ h3 _ (by omega)).mono (by omega)
  · rw [show (wayL db d).length - 1 = 0 by omega]
    exact h.mono (by omega)
theorem MB.on {db : List Lsa} {l : List Dm} : ∀ i, i ≤ l.length → MB (onM db (l.take i)) (i * 64)
  | 0, _ => ⟨fun p hp => by simp [onM] at hp, by simp [onM], by simp [onM]⟩
  | i + 1, hi => by
    have hd : l[i]? = some l[i] := List.getElem?_eq_getElem (by omega)
    rw [onM_step hd, Nat.succ_mul]
    exact (MB.on i (by omega)).onD _
theorem potA_range {B : Int} {n : Int} (hB : 0 ≤ B) : ∀ {l : List Arc}, (∀ a ∈ l, 0 ≤ a.c ∧ a.c ≤ B) → -(l.length * B) ≤ potA n l ∧ potA n l ≤ l.length * B
  | [], _ => by simp [potA]
  | a :: t, h => by
    have h1 := potA_range (n := n) hB (fun b hb => h b (List.mem_cons_of_mem _ hb))
    have h2 := flw_range (x := a.f) (y := a.t) (n := n) (h a (by simp)).1 (h a (by simp)).2
    rw [potA, List.length_cons]
    have : ((t.length + 1 : Nat) : Int) * B = t.length * B + B := by rw [Int.natCast_add, Int.add_mul]; simp
    omega
theorem potD_range {db : List Lsa} {n : Int} : ∀ {l : List Dm}, -(l.length * 1073741824) ≤ potD db n l ∧ potD db n l ≤ l.length * 1073741824
  | [] => by simp [potD]
  | d :: t => by
    have h1 := potD_range (db := db) (n := n) (l := t)
    rw [potD, List.length_cons]
    split
    · rename_i h
      obtain ⟨h2, h3, _⟩ := way_has h
      have := flw_range (x := d.f) (y := d.t) (n := n) (show 0 ≤ d.n by omega) h3
      omega
    · omega
theorem srt_ext {α : Type} {r : α → α → Prop} (irr : ∀ a, ¬ r a a) (tr : ∀ a b c, r a b → r b c → r a c) : ∀ {l m : List α}, l.Pairwise r → m.Pairwise r → (∀ a, a ∈ l ↔ a ∈ m) → l = m
  | [], [], _, _, _ => rfl
  | [], b :: m, _, _, h => by have := (h b).2 (by simp); simp at this
  | a :: l, [], _, _, h => by have := (h a).1 (by simp); simp at this
  | a :: l, b :: m, hl, hm, h => by
    rw [List.pairwise_cons] at hl hm
    have e : a = b := by
      rcases List.mem_cons.1 ((h a).1 (by simp)) with e | h1
      · exact e
      · rcases List.mem_cons.1 ((h b).2 (by simp)) with e | h2
        · exact e.symm
        · exact absurd (tr a b a (hl.1 b h2) (hm.1 a h1)) (irr a)
    subst e
    rw [srt_ext irr tr hl.2 hm.2 (fun x => ?_)]
    constructor
    · intro hx
      rcases List.mem_cons.1 ((h x).1 (by simp [hx])) with e | h1
      · subst e; exact absurd (hl.1 x hx) (irr x)
      · exact h1
    · intro hx
      rcases List.mem_cons.1 ((h x).2 (by simp [hx])) with e | h1
      · subst e; exact absurd (hm.1 x hx) (irr x)
      · exact h1
/-- What is sorted in weak order, with keys that differ, is sorted. -/
theorem sorted_arcs {ts l : List Arc} (hp : ts.Perm l) (hs : ts.Pairwise fun x y => Go.Proofs.ltOf orderA y x = false) (hd : l.Pairwise fun x y => ¬ (x.f = y.f ∧ x.t = y.t)) : ts.Pairwise ltA := by
  have hd2 : ts.Pairwise fun x y => ¬ (x.f = y.f ∧ x.t = y.t) := (hp.pairwise_iff (fun {x y} h e => h ⟨e.1.symm, e.2.symm⟩)).2 hd
  refine (hs.and hd2).imp fun {a b} ⟨h1, h2⟩ => ?_
  unfold Go.Proofs.ltOf at h1
  have h3 : ¬ ltA b a := fun h => by rw [← orderA_lt] at h; rw [decide_eq_true h] at h1; cases h1
  unfold ltA at *
  omega
theorem on_nodup {db : List Lsa} {l : List Dm} : (onA db l).Pairwise fun x y => ¬ (x.f = y.f ∧ x.t = y.t) := by
  have h := (MB.on (db := db) (l := l) l.length (Nat.le_refl _)).nd
  rw [List.take_length, List.nodup_iff_pairwise_ne, List.pairwise_map] at h
  unfold onA
  rw [List.pairwise_map]
  exact h.imp fun h e => h (Prod.ext e.1 e.2)
/-- What load.Of tells: the arcs of the map, in order. -/
def LoadR (db : List Lsa) (l : List Dm) (ts : List Arc) : Prop := ts.Perm (onA db l) ∧ ts.Pairwise ltA
theorem LoadR.rng {db : List Lsa} {l : List Dm} {ts : List Arc} (h : LoadR db l ts) : ∀ a ∈ ts, 1 ≤ a.f ∧ a.f ≤ 64 ∧ 1 ≤ a.t ∧ a.t ≤ 64 ∧ 0 ≤ a.c ∧ a.c ≤ (l.length * 64 : Nat) * 1073741824 := fun a ha => by
  have hm := MB.on (db := db) (l := l) l.length (Nat.le_refl _)
  rw [List.take_length] at hm
  have := h.1.mem_iff.1 ha
  unfold onA at this
  obtain ⟨p, hp, rfl⟩ := List.mem_map.1 this
  exact hm.rng p hp
theorem LoadR.len {db : List Lsa} {l : List Dm} {ts : List Arc} (h : LoadR db l ts) : ts.length ≤ l.length * 64 := by
  have hm := MB.on (db := db) (l := l) l.length (Nat.le_refl _)
  rw [List.take_length] at hm
  rw [h.1.length_eq]
  unfold onA
  rw [List.length_map]
  exact hm.len
theorem LoadR.pot {db : List Lsa} {l : List Dm} {ts : List Arc} (h : LoadR db l ts) (n : Int) : potA n ts = potD db n l := by
  rw [potA_perm h.1]
  unfold onA
  rw [potA_map, potM_on]
theorem LoadR.is {db : List Lsa} {l : List Dm} {ts us : List Arc} (h : LoadR db l ts) (hu : us.Pairwise ltA) (hm : ∀ a, a ∈ onA db l ↔ a ∈ us) : ts = us :=
  srt_ext (r := ltA) (fun a e => by unfold ltA at e; omega) (fun a b c h1 h2 => by unfold ltA at *; omega) h.2 hu (fun a => by rw [h.1.mem_iff, hm])
end A
end Go.Proofs.Ytmcannmjielalaa
set_option linter.unusedVariables false
set_option linter.unusedSimpArgs false
namespace Go.Proofs.Ytmcannmjielalaa
namespace A
theorem op_Link : OpC Try.prog 138 2 Link linkC (fun _ => True) :=
  opMap (opStruct Try.underlying138 (by kernel_rfl) (fsCons rfl (by kernel_rfl) (opInt Try.underlying3) (fsCons rfl (by kernel_rfl) (opInt Try.underlying3) fsNil))) (fun x => ⟨x.1, x.2.1⟩) (fun _ => rfl) (fun _ _ => trivial)
theorem op_Lsa : OpC Try.prog 141 3 Lsa lsaC (fun _ => True) :=
  opMap (opStruct Try.underlying141 (by kernel_rfl) (fsCons rfl (by kernel_rfl) (opInt Try.underlying3) (fsCons rfl (by kernel_rfl) (opInt Try.underlying3) (fsCons rfl (by kernel_rfl) (opSlice Try.underlying139 (by kernel_rfl) (by decide) op_Link) fsNil)))) (fun x => ⟨x.1, x.2.1, x.2.2.1⟩) (fun _ => rfl) (fun _ _ => trivial)
theorem op_Demand : OpC Try.prog 136 3 Dm demC (fun _ => True) :=
  opMap (opStruct Try.underlying136 (by kernel_rfl) (fsCons rfl (by kernel_rfl) (opInt Try.underlying3) (fsCons rfl (by kernel_rfl) (opInt Try.underlying3) (fsCons rfl (by kernel_rfl) (opInt Try.underlying3) fsNil)))) (fun x => ⟨x.1, x.2.1, x.2.2.1⟩) (fun _ => rfl) (fun _ _ => trivial)
end A
end Go.Proofs.Ytmcannmjielalaa
set_option linter.unusedVariables false
set_option linter.unusedSimpArgs false
namespace Go.Proofs.Ytmcannmjielalaa
namespace A
theorem ar_33 : arrOf Try.prog 33 = some (2, 1) := by kernel_rfl
theorem es_130 : elemSize Try.prog 130 = some 3 := by kernel_rfl
theorem fd_136_0 : fieldOf Try.prog 136 0 = some (0, 1, false) := by kernel_rfl
theorem fd_136_1 : fieldOf Try.prog 136 1 = some (1, 1, false) := by kernel_rfl
theorem fd_136_2 : fieldOf Try.prog 136 2 = some (2, 1, false) := by kernel_rfl
theorem sl_130 : isSl Try.prog 130 = true := by kernel_rfl
theorem ty_136 : tyOf Try.prog 136 = some (3, true) := by kernel_rfl
theorem ty_33 : tyOf Try.prog 33 = some (2, true) := by kernel_rfl
theorem um_251 : Try.prog.underlying 251 = some (.map 33 3) := by kernel_rfl
theorem ze_136 : zeroOf Try.prog 136 = some (.agg #[.int .i64 0, .int .i64 0, .int .i64 0]) := by kernel_rfl
/- load.way -/
set_option maxRecDepth 100000 in
set_option maxHeartbeats 400000 in
theorem load_way {db : List Lsa} {d : Dm} (hdl : db.length < 9223372036854775807 := by omega) : Triple Try.prog 208 [.sl 3 (db.map lsaC), .agg (demC d)] [] (fun q h' => ∃ g c, q = .tup [.v (slV g (wayL db d).length c), .v (.bool (wayB db d))] ∧ h' = [.sl g c 3 1 ((wayL db d).map intA)]) := by
  refine triple_of Try.func208 rfl (by kernel_rfl) rfl (by simp) ?_
  refine aSeq ?_
  refine aReg ?_
  refine sq ?_
  refine qBox rfl rfl (by decide) rfl rfl (fun b3 => ?_)
  refine sp pMa ?_
  refine sp pMa ?_
  refine oNil ?_
  refine aSeq ?_
  refine aSeq ?_
  refine aReg ?_
  refine sp (pFb fd_136_2) ?_
  refine sr (rB1 ty_3) ?_
  refine sp pB ?_
  refine sp pM ?_
  refine oSplitDec 9 rfl (fun c9 => ?_) (fun c9 => ?_)
  · skip
    refine gf ?_
    refine gf ?_
    refine gf ?_
    refine sp pK ?_
    refine oNil ?_
    refine aCondT rfl ?_
    refine aSeq ?_
    have hno : amB d.n = false := by
      unfold amB
      simp
      omega
    have hw : (wayL db d) = [] := by unfold wayL; rw [hno]; rfl
    have hb : wayB db d = false := by unfold wayB; rw [hno]; rfl
    refine aWeak (weak_nil 3 1) ?_
    refine aReg ?_
    refine sp pMa ?_
    refine sp pMa ?_
    refine oNil ?_
    rw [hw, hb]
    refine aRet ?_
    refine ⟨_, _, _, rfl, (by repeat constructor), none, 0, rfl, rfl⟩
  · skip
    refine gp (pFb fd_136_2) ?_
    refine gr (rB1 ty_3) ?_
    refine gp pB ?_
    refine sp pK ?_
    refine oNil ?_
    refine aCondDec rfl (fun c13 => ?_) (fun c13 => ?_)
    · skip
      refine aSeq ?_
      have hno : amB d.n = false := by
        unfold amB
        simp
        omega
      have hw : (wayL db d) = [] := by unfold wayL; rw [hno]; rfl
      have hb : wayB db d = false := by unfold wayB; rw [hno]; rfl
      refine aWeak (weak_nil 3 1) ?_
      refine aReg ?_
      refine sp pMa ?_
      refine sp pMa ?_
      refine oNil ?_
      rw [hw, hb]
      refine aRet ?_
      refine ⟨_, _, _, rfl, (by repeat constructor), none, 0, rfl, rfl⟩
    · skip
      refine aSkip ?_
      refine aSeq ?_
      have hyes : amB d.n = true := by
        unfold amB
        simp
        omega
      have hw : (wayL db d) = hopL db d.f d.t := by unfold wayL; rw [hyes]; rfl
      have hb : wayB db d = hopB db d.f d.t := by unfold wayB; rw [hyes]; rfl
      refine aReg ?_
      refine sp pM ?_
      refine sp (pFb fd_136_0) ?_
      refine sr (rB1 ty_3) ?_
      refine sp (pFb fd_136_1) ?_
      refine sr (rB1 ty_3) ?_
      refine sa ?_
      refine ca rfl rfl rfl (route_Hops (db := db) (fr := d.f) (td := d.t) hdl) ?_
      rintro _ _ ⟨g19, c19, rfl, rfl⟩
      refine sp pX ?_
      refine sp pX ?_
      refine sp pMa ?_
      refine sp pMa ?_
      refine oNil ?_
      rw [hw, hb]
      refine aRet ?_
      refine ⟨_, _, _, rfl, (by repeat constructor), g19, c19, rfl, rfl⟩
theorem load_way_s {db : List Lsa} {d : Dm} (hdl : db.length < 9223372036854775807 := by omega) : Triple Try.prog 208 [.sl 3 (db.map lsaC), .agg (demC d)] [] (Is (.tup [.sl 1 ((wayL db d).map intA), .v (.bool (wayB db d))]) []) :=
  (load_way (db := db) (d := d) hdl).deep fun q h' ⟨g, c, hq, hh⟩ => ⟨_, [.sl g c 3 1 ((wayL db d).map intA)], [], by subst hh; exact .cons .hd .nil, by subst hq; exact .tup (.sl List.mem_cons_self (by rw [List.length_map]) Deep.refl (.same (.row .nil))) (.row .nil), rfl, rfl⟩
def srtA_ren : Go.Shelf.Ren := ⟨fun | 6 => 183 | 15 => 243 | 14 => 251 | 28 => 282 | 29 => 283 | 20 => 292 | 21 => 293 | 22 => 294 | 23 => 295 | 24 => 296 | 25 => 297 | 26 => 298 | 27 => 299 | 46 => 327 | 47 => 320 | 48 => 321 | 49 => 328 | 50 => 329 | 57 => 339 | n => n, fun | 22 => 22 | 24 => 36 | 25 => 150 | 3 => 3 | 39 => 270 | 0 => 0 | 53 => 313 | 55 => 37 | 4 => 4 | 46 => 307 | 45 => 306 | 50 => 175 | 5 => 5 | 9 => 9 | 66 => 341 | 70 => 344 | 76 => 354 | 77 => 187 | n => n, fun | n => n⟩
theorem srtA : Go.Proofs.SlLaysF0.n6 Try.prog srtA_ren := {
  mixed := by kernel_rfl,
  f6 := ⟨"slices.SortFunc[[]waymark/api.Arc,waymark/api.Arc]", by decide, Try.func183.trans (congrArg some (by kernel_rfl))⟩,
  f14 := ⟨"slices.pdqsortCmpFunc[waymark/api.Arc]", by decide, Try.func251.trans (congrArg some (by kernel_rfl))⟩,
  f15 := Try.func243.trans (congrArg some (by kernel_rfl)),
  f20 := ⟨"slices.insertionSortCmpFunc[waymark/api.Arc]", by decide, Try.func292.trans (congrArg some (by kernel_rfl))⟩,
  f21 := ⟨"slices.heapSortCmpFunc[waymark/api.Arc]", by decide, Try.func293.trans (congrArg some (by kernel_rfl))⟩,
  f22 := ⟨"slices.breakPatternsCmpFunc[waymark/api.Arc]", by decide, Try.func294.trans (congrArg some (by kernel_rfl))⟩,
  f23 := ⟨"slices.choosePivotCmpFunc[waymark/api.Arc]", by decide, Try.func295.trans (congrArg some (by kernel_rfl))⟩,
  f24 := ⟨"slices.reverseRangeCmpFunc[waymark/api.Arc]", by decide, Try.func296.trans (congrArg some (by kernel_rfl))⟩,
  f25 := ⟨"slices.partialInsertionSortCmpFunc[waymark/api.Arc]", by decide, Try.func297.trans (congrArg some (by kernel_rfl))⟩,
  f26 := ⟨"slices.partitionEqualCmpFunc[waymark/api.Arc]", by decide, Try.func298.trans (congrArg some (by kernel_rfl))⟩,
  f27 := ⟨"slices.partitionCmpFunc[waymark/api.Arc]", by decide, Try.func299.trans (congrArg some (by kernel_rfl))⟩,
  f28 := Try.func282.trans (congrArg some (by kernel_rfl)),
  f29 := Try.func283.trans (congrArg some (by kernel_rfl)),
  f46 := ⟨"slices.siftDownCmpFunc[waymark/api.Arc]", by decide, Try.func327.trans (congrArg some (by kernel_rfl))⟩,
  f47 := Try.func320.trans (congrArg some (by kernel_rfl)),
  f48 := Try.func321.trans (congrArg some (by kernel_rfl)),
  f49 := ⟨"slices.medianAdjacentCmpFunc[waymark/api.Arc]", by decide, Try.func328.trans (congrArg some (by kernel_rfl))⟩,
  f50 := ⟨"slices.medianCmpFunc[waymark/api.Arc]", by decide, Try.func329.trans (congrArg some (by kernel_rfl))⟩,
  f57 := ⟨"slices.order2CmpFunc[waymark/api.Arc]", by decide, Try.func339.trans (congrArg some (by kernel_rfl))⟩,
  t0 := Try.underlying0,
  a0 := Try.isAgg0,
  z0 := Try.sizeOf0,
  v0 := Try.zeroValue0,
  t3 := Try.underlying3,
  a3 := Try.isAgg3,
  z3 := Try.sizeOf3,
  v3 := Try.zeroValue3,
  t4 := Try.underlying4,
  a4 := Try.isAgg4,
  z4 := Try.sizeOf4,
  v4 := Try.zeroValue4,
  t5 := Try.underlying5,
  a5 := Try.isAgg5,
  z5 := Try.sizeOf5,
  v5 := Try.zeroValue5,
  t9 := Try.underlying9,
  a9 := Try.isAgg9,
  z9 := Try.sizeOf9,
  v9 := Try.zeroValue9,
  t22 := Try.underlying22,
  a22 := Try.isAgg22,
  z22 := Try.sizeOf22,
  v22 := Try.zeroValue22,
  t25 := Try.underlying150,
  a25 := Try.isAgg150,
  z25 := Try.sizeOf150,
  v25 := Try.zeroValue150,
  t39 := Try.underlying270,
  a39 := Try.isAgg270,
  z39 := Try.sizeOf270,
  v39 := Try.zeroValue270,
  t45 := Try.underlying306,
  a45 := Try.isAgg306,
  z45 := Try.sizeOf306,
  v45 := Try.zeroValue306,
  t46 := Try.underlying307,
  a46 := Try.isAgg307,
  z46 := Try.sizeOf307,
  v46 := Try.zeroValue307,
  t50 := Try.underlying175,
  a50 := Try.isAgg175,
  z50 := Try.sizeOf175,
  v50 := Try.zeroValue175,
  t53 := Try.underlying313,
  a53 := Try.isAgg313,
  z53 := Try.sizeOf313,
  v53 := Try.zeroValue313,
  t55 := Try.underlying37,
  a55 := Try.isAgg37,
  z55 := Try.sizeOf37,
  v55 := Try.zeroValue37,
  t66 := Try.underlying341,
  a66 := Try.isAgg341,
  z66 := Try.sizeOf341,
  v66 := Try.zeroValue341,
  t70 := Try.underlying344,
  a70 := Try.isAgg344,
  z70 := Try.sizeOf344,
  v70 := Try.zeroValue344,
  t76 := Try.underlying354,
  a76 := Try.isAgg354,
  z76 := Try.sizeOf354,
  v76 := Try.zeroValue354,
  t77 := Try.underlying187,
  a77 := Try.isAgg187,
  z77 := Try.sizeOf187,
  v77 := Try.zeroValue187 }
/- load.Of$1 -/
def load_Of1_r1_T : Bool × List (List Nat × List Nat) := (true, [([], []), ([0], [0]), ([], []), ([2], [2]), ([1, 3], [1, 3]), ([], []), ([5], [5]), ([], []), ([7], [7]), ([6, 8, 4], [6, 8]), ([4, 9], [4, 9]), ([10, 9], [10]), ([11, 11, 0, 1, 2, 3, 4, 5, 6, 7, 8, 9, 10, 11], [11])])
def load_Of1_r1_B : List Nat := [0, 1, 0, 4, 15, 0, 32, 0, 128, 511, 1023, 2047, 4095]
theorem load_Of1_r1_t : Go.Proofs.YtmcannmjielalaaW.PrintLast.rtab .any (Go.Proofs.YtmcannmjielalaaW.PrintLast.opsOf Try.f209 1) = load_Of1_r1_T := by kernel_rfl
theorem load_Of1_r1_b : Go.Proofs.YtmcannmjielalaaW.PrintLast.waitsOk load_Of1_r1_T.2 load_Of1_r1_B = true := by kernel_rfl
set_option maxRecDepth 100000 in
set_option maxHeartbeats 400000 in
theorem load_Of1 {a b : Arc} : Triple Try.prog 209 [.agg (arcC a), .agg (arcC b)] [] (Is (.v (.int .i64 (orderA a b))) []) := by
  refine triple_of Try.func209 rfl (by kernel_rfl) rfl (by simp) ?_
  refine aSeq ?_
  refine aReg ?_
  refine sq ?_
  refine qBox rfl rfl (by decide) rfl rfl (fun b2 => ?_)
  refine sq ?_
  refine qBox rfl rfl (by decide) rfl rfl (fun b3 => ?_)
  refine sp pMa ?_
  refine oNil ?_
  refine aSeq ?_
  refine aDrawT load_Of1_r1_t load_Of1_r1_b [] 13 #[false, false, false, false, false, false, false, false, false, false, false, false, false] (by kernel_rfl) rfl rfl (fun HT => ?_)
  refine dp HT 0 rfl (pFb fd_36_0) ?_
  refine dr HT 1 rfl (rB1 ty_3) ?_
  refine dp HT 2 rfl (pFb fd_36_0) ?_
  refine dr HT 3 rfl (rB1 ty_3) ?_
  refine dp HT 5 rfl (pFb fd_36_1) ?_
  refine dr HT 6 rfl (rB1 ty_3) ?_
  refine dp HT 7 rfl (pFb fd_36_1) ?_
  refine dr HT 8 rfl (rB1 ty_3) ?_
  refine dGo ?_
  refine e1 HT 4 rfl ?_
  refine cv rfl rfl rfl (lents_refl _) cmp_Compare ?_
  refine e1 HT 9 rfl ?_
  refine cv rfl rfl rfl (lents_refl _) cmp_Compare ?_
  refine e1 HT 10 rfl ?_
  refine qLit (l := [_, _]) rfl rfl (by decide) us_25 ty_3 ze_3 rfl (by decide) (by decide) rfl rfl rfl (fun b15 => ?_)
  refine e1 HT 11 rfl ?_
  refine cv rfl rfl rfl (by repeat (first | exact .nil | refine .cons (.sl (by repeat (first | exact List.mem_cons_self | apply List.mem_cons_of_mem)) (by first | rfl | simp)) ?_ | refine .cons (.same _) ?_)) (cmp_Or [cmpI a.f b.f, cmpI a.t b.t]) ?_
  refine ePure (i := 12) #[true, true, true, true, true, true, true, true, true, true, true, true, true] rfl rfl rfl (HT.any (by kernel_rfl)) (by exact pMa) (by decide) ?_
  refine eE HT ?_
  clear HT
  refine aRet ?_
  refine finIs rfl ?_
  rfl
theorem hb_srtA : HasBody Try.prog 183 := ⟨_, Try.func183, by kernel_rfl, rfl⟩
theorem hb_lo1 : HasBody Try.prog 209 := ⟨_, Try.func209, by kernel_rfl, rfl⟩
def encA (e : Arc) : List Value := [.int .i64 e.f, .int .i64 e.t, .int .i64 e.c]
theorem swo_arc : Go.Sort.SWO (Go.Proofs.ltOf orderA) where
  irrefl := fun x => by simp only [Go.Proofs.ltOf, decide_eq_false_iff_not, orderA_lt]; unfold ltA; omega
  trans := fun x y z h1 h2 => by simp only [Go.Proofs.ltOf, decide_eq_true_eq, orderA_lt] at *; unfold ltA at *; omega
  ntrans := fun x y z h1 h2 => by simp only [Go.Proofs.ltOf, decide_eq_false_iff_not, orderA_lt] at *; unfold ltA at *; omega
theorem sort_arc (g : Option Nat) (c : Nat) (l : List Arc) (hl : l.length ≤ 1000000) : Triple Try.prog 183 [.v (slV g l.length c), .fn (.func 209) []] [.sl g c 36 3 (l.map arcC)] (fun r h' => ∃ ts : List Arc, ts.Perm l ∧ ts.Pairwise (fun x y => Go.Proofs.ltOf orderA y x = false) ∧ r = .tup [] ∧ h' = [.sl g c 36 3 (ts.map arcC)]) :=
  triple_sortFunc (P := Try.prog) (k := 3) srtA rfl hb_srtA rfl ty_36 (by decide) encA (fun _ => rfl) (fun _ => rfl) (fun e v hv => by simp [encA] at hv; rcases hv with rfl | rfl | rfl <;> rfl) orderA swo_arc (fun x y => load_Of1 (a := x) (b := y)) hb_lo1 g c 36 l (by omega)
theorem idx_perm {α β : Type} (f : α → β) {m : List α} {d : α} {idx : List Nat} (h : Idx m.length idx) (ha : ∀ i, i < m.length → i ∈ idx) : (idx.map fun i => f (m.getD i d)).Perm (m.map f) := by
  have h1 := (h.all ha).map fun i => f (m.getD i d)
  refine h1.trans (.of_eq ?_)
  apply List.ext_getElem?
  intro i
  simp only [List.getElem?_map]
  by_cases hi : i < m.length
  · rw [List.getElem?_range hi]
    simp [List.getD, List.getElem?_eq_getElem hi]
  · rw [List.getElem?_eq_none (by simp; omega), List.getElem?_eq_none (by omega)]
    rfl
/- load.Of -/
def load_Of_r11_T : Bool × List (List Nat × List Nat) := (true, [([], []), ([], []), ([], []), ([2], [2]), ([1, 3], [1, 3]), ([4], [4]), ([], []), ([], []), ([6, 7], [6, 7]), ([8], [8]), ([5, 9], [5, 9]), ([0, 10], [0, 10]), ([], []), ([12], [12]), ([11, 13], [11, 13]), ([0, 10, 0, 1, 2, 3, 4, 5, 6, 7, 8, 9, 10, 12, 13], [0, 10]), ([15], [15]), ([0, 16, 14, 15, 0, 1, 2, 3, 4, 5, 6, 7, 8, 9, 10, 11, 12, 13, 14, 15, 16], [0, 14, 16])])
def load_Of_r11_B : List Nat := [0, 0, 0, 4, 14, 30, 0, 0, 192, 448, 1022, 2047, 0, 4096, 16383, 14335, 47103, 131071]
theorem load_Of_r11_t : Go.Proofs.YtmcannmjielalaaW.PrintLast.rtab .any (Go.Proofs.YtmcannmjielalaaW.PrintLast.opsOf Try.f112 11) = load_Of_r11_T := by kernel_rfl
theorem load_Of_r11_b : Go.Proofs.YtmcannmjielalaaW.PrintLast.waitsOk load_Of_r11_T.2 load_Of_r11_B = true := by kernel_rfl
set_option maxRecDepth 100000 in
set_option maxHeartbeats 4000000 in
theorem load_Of {db : List Lsa} {l : List Dm} (hdl : db.length < 9223372036854775807 := by omega) (hl : l.length ≤ 1000 := by omega) : Triple Try.prog 112 [.sl 3 (db.map lsaC), .sl 3 (l.map demC)] [] (fun q h' => ∃ g c ts, (if lsdbB 0 db then LoadR db l ts else ts = []) ∧ q = .v (slV g ts.length c) ∧ h' = [.sl g c 36 3 (ts.map arcC)]) := by
  refine triple_of Try.func112 rfl (by kernel_rfl) rfl (by simp) ?_
  refine aSeq ?_
  refine aReg ?_
  refine sp pMa ?_
  refine oNil ?_
  refine aSeq ?_
  refine aSeq ?_
  refine aReg ?_
  refine sp pM ?_
  refine sq ?_
  refine cv rfl rfl rfl (lents_refl _) (lsdb_Check_v (db := db) hdl) ?_
  refine sp pB ?_
  refine oNil ?_
  refine aCondNe rfl (fun c16 => ?_) (fun c16 => ?_)
  · skip
    refine aSeq ?_
    have hno : lsdbB 0 db = false := by cases h : lsdbB 0 db <;> simp_all
    refine aWeak (weak_nil 36 3) ?_
    refine aReg ?_
    refine sp pMa ?_
    refine oNil ?_
    refine aRet ?_
    refine ⟨_, _, _, rfl, (by repeat constructor), none, 0, [], ?_, rfl, rfl⟩
    rw [hno]
    rfl
  · skip
    refine aSkip ?_
    refine aSeq ?_
    have hyes : lsdbB 0 db = true := by cases h : lsdbB 0 db <;> simp_all
    refine aReg ?_
    refine sq ?_
    refine qMK k2K inA rfl (fun b17 => ?_)
    refine sp pMa ?_
    refine oNil ?_
    refine aSeq ?_
    refine aSeq ?_
    refine aReg ?_
    refine sp pM ?_
    refine sp pM ?_
    refine sp (by first | exact pLm sl_130 | exact pLs sl_130) ?_
    refine sp pMin ?_
    rw [show min (l.length : Int) 1000 = (l.length : Int) by omega]
    refine sp (pSlice rfl rfl es_130 (bdN rfl) (bdI rfl) (by first | omega | (simp only [List.length_map]; omega)) (by first | omega | (simp only [List.length_map]; omega))) ?_
    rw [show ((l.map demC).drop 0).take (l.length - 0) = l.map demC by rw [List.drop_zero, Nat.sub_zero, List.take_of_length_le (by simp)]]
    refine sp (by first | exact pLm sl_130 | exact pLs sl_130 | exact pLv sl_130) ?_
    refine sp pM ?_
    refine oNil ?_
    refine aBlock ?_
    refine loopF (α := Nat × MK) (kept := [(0, _), (5, _), (22, _), (23, _)]) (fun (i, m) => i ≤ l.length ∧ m = onM db (l.take i)) (fun (i, m) => [(24, .int i)]) (fun (i, m) => [.mapK b17 (kvKM k2K inA m)]) (fun (i, m) => l.length - i) (0, []) ?_ ⟨gInt rfl (by first | rfl | omega | simp), rfl, rfl, rfl, rfl, trivial⟩ (by repeat constructor) ?_
    · skip
      exact ⟨by omega, rfl⟩
    · rintro ⟨i, m⟩ ⟨hi, hm⟩
      refine aSeq ?_
      refine aReg ?_
      refine sp pB ?_
      refine oNil ?_
      refine aSeq ?_
      refine aCondDec rfl (fun c25 => ?_) (fun c25 => ?_)
      · skip
        refine aSkip ?_
        refine aSeq ?_
        refine aBlock ?_
        refine aSeq ?_
        obtain ⟨d, hd⟩ : ∃ z, l[i]? = some z := ⟨_, List.getElem?_eq_getElem (by omega)⟩
        refine aReg ?_
        first | refine sp (pIx es_130) ?_ | (refine obtSN 22 24 rfl rfl (by omega) (fun x26 hx26 => ?_); refine sp (pIs es_130 hx26) ?_) | (refine obtS 22 24 rfl rfl (by omega) (by omega) (fun x26 hx26 => ?_); refine sp (pIs es_130 hx26) ?_) | refine sp (pIo es_130) ?_
        refine sr (by first | exact rSW ty_136 rfl | exact rSA ty_136 | exact rBWa ty_136 | exact rBW ty_136 | exact rBA ty_136 | exact rArA ty_136 (fun _ => rfl)) ?_
        refine sq ?_
        refine qAlloc rfl rfl (by decide) ze_136 rfl (fun b7 => ?_)
        refine sa ?_
        refine oStW rfl rfl rfl rfl (by repeat constructor) ty_136 ?_
        refine oNil ?_
        refine aSeq ?_
        refine aReg ?_
        refine sp pM ?_
        refine sr (by first | exact rBWa ty_136 | exact rBW ty_136 | exact rBA ty_136) ?_
        refine sq ?_
        refine ci rfl rfl rfl (load_way_s (db := db) (d := d) hdl) ?_
        refine sp pM ?_
        refine sp pX ?_
        refine sp pX ?_
        refine sp pMa ?_
        refine sp pMa ?_
        refine oNil ?_
        refine aSeq ?_
        have hMB := MB.on (db := db) (l := l) i (by omega)
        rw [← hm] at hMB
        have hWl := way_len db d
        refine aReg ?_
        refine sp pMa ?_
        refine oNil ?_
        refine aBlock ?_
        refine loopF (α := Nat × MK) (kept := [(0, _), (5, _), (7, _), (8, _), (22, _), (23, _), (24, _)]) (fun (k, m2) => k ≤ (wayL db d).length - 1 ∧ m2 = stepsI d.n (wayL db d) m k) (fun (k, m2) => [(10, .int ((k + 1 : Nat) : Int))]) (fun (k, m2) => [.mapK b17 (kvKM k2K inA m2)]) (fun (k, m2) => (wayL db d).length - k) (0, m) ?_ ⟨gInt rfl (by first | rfl | omega | simp), rfl, rfl, rfl, rfl, rfl, rfl, rfl, trivial⟩ (by repeat constructor) ?_
        · skip
          exact ⟨by omega, rfl⟩
        · rintro ⟨k, m2⟩ ⟨hk, hm2⟩
          refine aSeq ?_
          refine aSeq ?_
          refine aReg ?_
          refine sp pM ?_
          refine sp pM ?_
          refine sp (by first | exact pLm sl_25 | exact pLs sl_25 | exact pLv sl_25) ?_
          refine sp pB ?_
          refine oNil ?_
          refine aCondDec rfl (fun c37 => ?_) (fun c37 => ?_)
          · skip
            refine aSkip ?_
            refine aSeq ?_
            refine aBlock ?_
            obtain ⟨x, hx⟩ : ∃ z, (wayL db d)[k]? = some z := ⟨_, List.getElem?_eq_getElem (by omega)⟩
            obtain ⟨y, hy⟩ : ∃ z, (wayL db d)[k + 1]? = some z := ⟨_, List.getElem?_eq_getElem (by omega)⟩
            have hx2 : (wayL db d)[(((k + 1 : Nat) : Int) - 1).toNat]? = some x := by rw [show (((k + 1 : Nat) : Int) - 1).toNat = k by omega]; exact hx
            obtain ⟨hn1, hn2, hway, hrng⟩ := way_has (db := db) (d := d) (by omega)
            have hMk := hMB.steps (c := d.n) ⟨by omega, hn2⟩ hrng k (by omega)
            rw [← hm2] at hMk
            have hgk := hMk.get (x, y)
            have hst : stepsI d.n (wayL db d) m (k + 1) = addK m2 (x, y) d.n := by rw [stepsI, List.getD, List.getD, hx, hy, ← hm2]; rfl
            refine aDrawS (h1 := [.box b7 _]) load_Of_r11_t load_Of_r11_b [] 18 #[false, false, false, false, false, false, false, false, false, false, false, false, false, false, false, false, false, false] (by kernel_rfl) rfl rfl (by repeat constructor) (fun HT => ?_)
            refine ep HT 0 rfl pM ?_
            refine ep HT 1 rfl pM ?_
            refine ep HT 2 rfl pM ?_
            refine ep HT 3 rfl pSu ?_
            first | refine ep HT 4 rfl (pIx es_25) ?_ | (refine obtEN 41 43 rfl rfl (by omega) (fun x44 hx44 => ?_); refine ep HT 4 rfl (pIs es_25 hx44) ?_) | (refine obtE 41 43 rfl rfl (by omega) (by omega) (fun x44 hx44 => ?_); refine ep HT 4 rfl (pIs es_25 hx44) ?_) | refine ep HT 4 rfl (pIo es_25) ?_
            refine er HT 5 rfl (by first | exact rS1 ty_3 | exact rB1 ty_3 | exact rAr ty_3 | exact rArL ty_3 | exact rArR2 ty_3) ?_
            refine ep HT 6 rfl pM ?_
            refine ep HT 7 rfl pM ?_
            first | refine ep HT 8 rfl (pIx es_25) ?_ | (refine obtEN 46 47 rfl rfl (by omega) (fun x48 hx48 => ?_); refine ep HT 8 rfl (pIs es_25 hx48) ?_) | (refine obtE 46 47 rfl rfl (by omega) (by omega) (fun x48 hx48 => ?_); refine ep HT 8 rfl (pIs es_25 hx48) ?_) | refine ep HT 8 rfl (pIo es_25) ?_
            refine er HT 9 rfl (by first | exact rS1 ty_3 | exact rB1 ty_3 | exact rAr ty_3 | exact rArL ty_3 | exact rArR2 ty_3) ?_
            refine ep HT 10 rfl (pBuildA rfl ua_33 ty_3 ze_33 rfl rfl rfl rfl) ?_
            refine ep HT 12 rfl (pFb fd_136_2) ?_
            refine er HT 13 rfl (rB1 ty_3) ?_
            refine eTwoS (i := 11) (j := 15) #[true, true, true, true, true, true, true, true, true, true, true, true, true, true, false, false, false, false] #[true, true, true, true, true, true, true, true, true, true, true, false, true, true, false, true, false, false] rfl rfl (HT.two (by kernel_rfl)) (by decide) (by decide) ?_ ?_
            · skip
              refine stQ (wantN rfl) (fun t ht => by cases ht <;> decide) ?_
              refine aReadQ (by exact (by first | exact rKG (kf := k2K) (c := inA) (a := (x, y)) kt_2 um_251 ze_3 0 .refl | exact rKGobj (kf := k2K) (a := (x, y)) kt_2 hEI um_251 ze_3)) rfl (by decide) ?_
              refine undel (d := 51) rfl ?_
              first
                | rw [kGet_put, if_pos rfl, Option.getD_some]
                | skip
              refine ef HT 14 rfl pAd ?_
              refine eOneS (i := 15) #[true, true, true, true, true, true, true, true, true, true, true, true, true, true, true, true, false, false] rfl (HT.one (by kernel_rfl)) (by decide) ?_
              · skip
                refine stA (hx := [.mapK b17 _]) (wantN rfl) (fun t ht => by cases ht <;> decide) (.cons (by repeat constructor) .nil) (by repeat constructor) ?_
                refine oKME (kf := k2K) (a := (x, y)) kt_2 rfl rfl (by decide) rfl rfl um_251 ze_3 (fun ents clock je ee hEI hEe hEj hEf => ?_)
                refine undel (d := 55) rfl ?_
                dsimp only [List.cons_append, List.nil_append]
                refine ef HT 16 rfl pX ?_
                refine eOneS (i := 17) #[true, true, true, true, true, true, true, true, true, true, true, true, true, true, true, true, true, true] rfl (HT.one (by kernel_rfl)) (by decide) ?_
                · skip
                  refine stA (hx := [.obj b17 _]) (wantN rfl) (fun t ht => by cases ht <;> decide) (.cons (by repeat constructor) .nil) (by repeat constructor) ?_
                  refine oKES (kf := k2K) (a := (x, y)) hEI hEe hEj hEf rfl rfl rfl rfl rfl ?_
                  dsimp only [List.cons_append, List.nil_append]
                  rw [kPut_put]
                  refine eE HT ?_
                  clear HT
                  refine aReg ?_
                  refine sp pM ?_
                  refine sp pAd ?_
                  refine sp pMa ?_
                  refine oNil ?_
                  refine ⟨(k + 1, _), ?_, by (try dsimp only); omega, ⟨gInt rfl (by first | rfl | omega | simp), rfl, rfl, rfl, rfl, rfl, rfl, rfl, trivial⟩, _, (by repeat constructor)⟩
                  refine ⟨by omega, ?_⟩
                  rw [hst]
                  rfl
            · skip
              refine stA (hx := [.mapK b17 _]) (wantN rfl) (fun t ht => by cases ht <;> decide) (.cons (by repeat constructor) .nil) (by repeat constructor) ?_
              refine oKME (kf := k2K) (a := (x, y)) kt_2 rfl rfl (by decide) rfl rfl um_251 ze_3 (fun ents clock je ee hEI hEe hEj hEf => ?_)
              refine undel (d := 55) rfl ?_
              dsimp only [List.cons_append, List.nil_append]
              refine ef HT 16 rfl pX ?_
              refine eOneS (i := 11) #[true, true, true, true, true, true, true, true, true, true, true, true, true, true, false, true, true, false] rfl (HT.one (by kernel_rfl)) (by decide) ?_
              · skip
                refine stQ (wantN rfl) (fun t ht => by cases ht <;> decide) ?_
                refine aReadQ (by exact (by first | exact rKG (kf := k2K) (c := inA) (a := (x, y)) kt_2 um_251 ze_3 0 .refl | exact rKGobj (kf := k2K) (a := (x, y)) kt_2 hEI um_251 ze_3)) rfl (by decide) ?_
                refine undel (d := 51) rfl ?_
                first
                  | rw [kGet_put, if_pos rfl, Option.getD_some]
                  | skip
                refine ef HT 14 rfl pAd ?_
                refine eOneS (i := 17) #[true, true, true, true, true, true, true, true, true, true, true, true, true, true, true, true, true, true] rfl (HT.one (by kernel_rfl)) (by decide) ?_
                · skip
                  refine stA (hx := [.obj b17 _]) (wantN rfl) (fun t ht => by cases ht <;> decide) (.cons (by repeat constructor) .nil) (by repeat constructor) ?_
                  refine oKES (kf := k2K) (a := (x, y)) hEI hEe hEj hEf rfl rfl rfl rfl rfl ?_
                  dsimp only [List.cons_append, List.nil_append]
                  rw [kPut_put]
                  refine eE HT ?_
                  clear HT
                  refine aReg ?_
                  refine sp pM ?_
                  refine sp pAd ?_
                  refine sp pMa ?_
                  refine oNil ?_
                  refine ⟨(k + 1, _), ?_, by (try dsimp only); omega, ⟨gInt rfl (by first | rfl | omega | simp), rfl, rfl, rfl, rfl, rfl, rfl, rfl, trivial⟩, _, (by repeat constructor)⟩
                  refine ⟨by omega, ?_⟩
                  rw [hst]
                  rfl
          · skip
            refine aExit rfl ?_
            refine aReg ?_
            refine sp pAd ?_
            refine sp pM ?_
            refine oNil ?_
            refine ⟨(i + 1, _), ?_, by (try dsimp only); omega, ⟨gInt rfl (by first | rfl | omega | simp), rfl, rfl, rfl, rfl, trivial⟩, _, (by repeat constructor)⟩
            refine ⟨by omega, ?_⟩
            obtain rfl : k = (wayL db d).length - 1 := by omega
            rw [onM_step hd, ← hm, hm2]
            rfl
      · skip
        refine aExit rfl ?_
        refine aSeq ?_
        rw [take_all (by omega)] at hm
        have hMB := MB.on (db := db) (l := l) l.length (Nat.le_refl _)
        rw [List.take_length, ← hm] at hMB
        refine aWeak (weak_nil 36 3) ?_
        refine aReg ?_
        refine sp pMa ?_
        refine oNil ?_
        refine aSeq ?_
        refine aSeq ?_
        refine aReg ?_
        refine sp pM ?_
        refine sa ?_
        refine oRangeK rfl rfl um_251 (fun r59 => ?_)
        refine oNil ?_
        refine aBlock ?_
        refine loopF (α := List Nat × List Arc × Option Nat × Nat) (kept := [(59, _)]) (fun (idx, out, g, c) => Idx m.length idx ∧ out = idx.map (fun j => arcK (m.getD j ((0, 0), 0)))) (fun (idx, out, g, c) => [(11, .v (slV g out.length c))]) (fun (idx, out, g, c) => [.mapKIt b17 r59 (kvKM k2K inA m) idx, .sl g c 36 3 (out.map arcC)]) (fun (idx, out, g, c) => m.length - idx.length) ([], [], _, _) ?_ ⟨gLen rfl (by first | rfl | simp | (simp; omega)), rfl, trivial⟩ (by repeat constructor) ?_
        · skip
          exact ⟨Idx.nil, rfl⟩
        · rintro ⟨idx, out, g, c⟩ ⟨hix, ho⟩
          refine aSeq ?_
          refine aReg ?_
          refine sa ?_
          refine oNextK (kf := k2K) (fun _ => rfl) rfl rfl (fun t60 ks60 ix60 hn60 => ?_)
          refine sp pX ?_
          refine oNil ?_
          refine aSeq ?_
          refine aCond rfl (fun c61 => ?_) (fun c61 => ?_)
          · skip
            refine aSkip ?_
            refine aBlock ?_
            refine aSeq ?_
            refine aReg ?_
            obtain ⟨j, p, hp, hni, rfl, rfl⟩ := hn60.yes c61
            obtain ⟨⟨kx, ky⟩, vc⟩ := p
            have hE : arcK (m.getD j ((0, 0), 0)) = ⟨kx, ky, vc⟩ := by simp [arcK, List.getD, hp]
            have hol : out.length ≤ 64000 := by have := hix.len; have := hMB.len; rw [ho, List.length_map]; omega
            refine sr (rEntryK (kf := k2K) (fun _ => rfl) rfl rfl hp) ?_
            refine sp pX ?_
            refine sp pX ?_
            refine sq ?_
            refine qAlloc rfl rfl (by decide) ze_33 rfl (fun b12 => ?_)
            refine sa ?_
            refine oStW rfl rfl rfl rfl (by repeat constructor) ty_33 ?_
            refine sp pMa ?_
            refine oNil ?_
            refine aReg ?_
            refine sp pM ?_
            refine sp (pIa ar_33) ?_
            refine sr (by first | exact rAr ty_3 | exact rArL ty_3 | exact rArR2 ty_3 | exact rB1 ty_3) ?_
            refine sp (pIa ar_33) ?_
            refine sr (by first | exact rAr ty_3 | exact rArL ty_3 | exact rArR2 ty_3 | exact rB1 ty_3) ?_
            refine sp pM ?_
            refine sp (pBuild rfl st_36 ze_36 rfl rfl rfl rfl) ?_
            refine sq ?_
            refine qLit (l := [_]) rfl rfl (by decide) us_22 ty_36 ze_36 rfl (by decide) (by decide) rfl rfl rfl (fun b72 => ?_)
            refine sa ?_
            refine oAppT ([⟨kx, ky, vc⟩] : List Arc) rfl rfl (by repeat constructor) (srcOwn rfl (by repeat constructor) rfl) el_22 sl_22 (fun g73 k73 => ?_)
            refine sp pMa ?_
            refine oNil ?_
            have hlt2 : m.length - (idx ++ [j]).length < m.length - idx.length := by have := hix.lt (len_get hp) hni; rw [List.length_append]; simp; omega
            refine ⟨(idx ++ [j], _, _, _), ?_, by (try dsimp only); exact hlt2, ⟨gLen rfl (by first | rfl | simp | (simp; omega)), rfl, trivial⟩, _, (by repeat constructor)⟩
            exact ⟨hix.add (len_get hp) hni, by rw [List.map_append, ← ho, List.map_singleton, hE]⟩
          · skip
            obtain ⟨rfl, e60, hall⟩ := hn60.no c61
            obtain rfl := e60.symm
            refine aWeak (weak_unmapK .hd) ?_
            have hol : out.length ≤ 64000 := by have := hix.len; have := hMB.len; rw [ho, List.length_map]; omega
            refine aExit rfl ?_
            refine aSeq ?_
            refine aReg ?_
            refine sp pM ?_
            refine sa ?_
            refine ca rfl rfl rfl (sort_arc g c out (by omega)) ?_
            rintro _ _ ⟨ts, hperm, hsort, rfl, rfl⟩
            refine oNil ?_
            refine aSeq ?_
            refine aReg ?_
            refine sp pM ?_
            refine sp pMa ?_
            refine oNil ?_
            have hpp : ts.Perm (onA db l) := by
              refine hperm.trans ?_
              rw [ho]
              unfold onA
              rw [← hm]
              exact idx_perm arcK hix hall
            have hLR : LoadR db l ts := ⟨hpp, sorted_arcs hpp hsort on_nodup⟩
            refine aRet ?_
            refine ⟨_, [_], _, rfl, (by repeat constructor), g, c, ts, ?_, ?_, rfl⟩
            · rw [if_pos hyes]; exact hLR
            · rw [hperm.length_eq]; rfl
end A
end Go.Proofs.Ytmcannmjielalaa
set_option linter.unusedVariables false
set_option linter.unusedSimpArgs false
namespace Go.Proofs.Ytmcannmjielalaa
namespace A
theorem nodeB_iff {n : Int} : nodeB n = true ↔ 1 ≤ n ∧ n ≤ 64 := by unfold nodeB; simp
def carS (db : List Lsa) : List Dm → Int
  | [] => 0
  | d :: t => (if wayB db d then d.n else 0) + carS db t
def carN (db : List Lsa) : List Dm → Int
  | [] => 0
  | d :: t => (if wayB db d then 0 else 1) + carN db t
theorem carS_app (db : List Lsa) : ∀ l m : List Dm, carS db (l ++ m) = carS db l + carS db m
  | [], m => by simp [carS]
  | a :: t, m => by rw [List.cons_append, carS, carS, carS_app db t m]; omega
theorem carN_app (db : List Lsa) : ∀ l m : List Dm, carN db (l ++ m) = carN db l + carN db m
  | [], m => by simp [carN]
  | a :: t, m => by rw [List.cons_append, carN, carN, carN_app db t m]; omega
theorem way_n {db : List Lsa} {d : Dm} (h : wayB db d = true) : 1 ≤ d.n ∧ d.n ≤ 1073741824 := by
  unfold wayB amB at h
  simp only [Bool.and_eq_true, decide_eq_true_eq] at h
  exact h.1
theorem carS_rng (db : List Lsa) : ∀ l : List Dm, 0 ≤ carS db l ∧ carS db l ≤ l.length * 1073741824
  | [] => by simp [carS]
  | d :: t => by
    have h := carS_rng db t
    rw [carS, List.length_cons]
    split
    · rename_i hw
      have := way_n hw
      omega
    · omega
theorem carN_rng (db : List Lsa) : ∀ l : List Dm, 0 ≤ carN db l ∧ carN db l ≤ l.length
  | [] => by simp [carN]
  | d :: t => by
    have h := carN_rng db t
    rw [carN, List.length_cons]
    split <;> omega
def hopR (l : List Arc) (td : Int) (k : Nat) (v : Int) : List Int := if isF l v td then hopsF l td k v else []
theorem hops_tail {l : List Arc} {td v : Int} {k : Nat} (hne : v ≠ td) (h : HWay l td v (hopsF l td k v)) : 0 < k ∧ hopsF l td k v = v :: hopsF l td (k - 1) (viaM l v td) ∧ HWay l td (viaM l v td) (hopsF l td (k - 1) (viaM l v td)) := by
  cases k with
  | zero =>
    exfalso
    unfold hopsF at h
    cases h with
    | here => exact hne rfl
    | hop ha hf hne2 hi hd hp => cases hp
  | succ k =>
    have e : hopsF l td (k + 1) v = v :: hopsF l td k (viaM l v td) := by
      conv => lhs; unfold hopsF
      rw [if_neg hne]
    rw [e] at h
    have key : ∀ p : List Int, HWay l td v (v :: p) → ∃ x, HWay l td x p := fun p hp => by
      cases hp with
      | here => exact absurd rfl hne
      | hop ha hf hne2 hi hd hp => exact ⟨_, hp⟩
    obtain ⟨x, hx⟩ := key _ h
    have h1 := hx.ends.1
    have h2 := hopsF_zero (l := l) (td := td) k (viaM l v td)
    rw [List.head?_eq_getElem?, h2] at h1
    cases h1
    exact ⟨by omega, e, hx⟩
theorem hops_at {l : List Arc} {td : Int} : ∀ k : Nat, hopsF l td k td = [td]
  | 0 => rfl
  | k + 1 => by unfold hopsF; rw [if_pos rfl]
theorem find_hop {db : List Lsa} (hv : lsdbB 0 db = true) {v td : Int} (hne : v ≠ td) : findG (rtsDb db v) td = if isF (arcsDb db) v td then ⟨td, viaM (arcsDb db) v td, dF (arcsDb db) v td⟩ else ⟨0, 0, 0⟩ := by
  unfold findG rtsDb
  rw [if_pos hv, rts_find (dbArcs_ok hv) hne]
  split <;> rfl
theorem via_isF {db : List Lsa} (hv : lsdbB 0 db = true) {td v : Int} (ht : 1 ≤ td ∧ td ≤ 64) {k : Nat} (h : HWay (arcsDb db) td v (hopsF (arcsDb db) td k v)) : isF (arcsDb db) v td = true :=
  h.isF (arcs_ok (dbArcs_ok hv)) ht v (List.mem_of_getElem? (hopsF_zero k v))
theorem way_bad {db : List Lsa} {d : Dm} (h : ¬ (1 ≤ d.f ∧ d.f ≤ 64 ∧ 1 ≤ d.t ∧ d.t ≤ 64 ∧ 1 ≤ d.n ∧ d.n ≤ 1073741824)) : wayL db d = [] := by
  unfold wayL
  split
  · rename_i ha
    unfold amB at ha
    simp only [Bool.and_eq_true, decide_eq_true_eq] at ha
    unfold hopL
    rw [if_neg]
    unfold hopB
    simp only [Bool.and_eq_true]
    intro hh
    have h1 := nodeB_iff.1 hh.1.2.1
    have h2 := nodeB_iff.1 hh.1.2.2
    omega
  · rfl
theorem way_good {db : List Lsa} {d : Dm} (hv : lsdbB 0 db = true) (h : 1 ≤ d.f ∧ d.f ≤ 64 ∧ 1 ≤ d.t ∧ d.t ≤ 64 ∧ 1 ≤ d.n ∧ d.n ≤ 1073741824) : wayL db d = hopR (arcsDb db) d.t 64 d.f := by
  unfold wayL amB
  rw [decide_eq_true h.2.2.2.2.1, decide_eq_true h.2.2.2.2.2]
  unfold hopL hopB hopR
  rw [hv, nodeB_iff.2 ⟨h.1, h.2.1⟩, nodeB_iff.2 ⟨h.2.2.1, h.2.2.2.1⟩]
  rfl
theorem way_rng {db : List Lsa} {d : Dm} (h : 0 < (wayL db d).length) : 1 ≤ d.f ∧ d.f ≤ 64 ∧ 1 ≤ d.t ∧ d.t ≤ 64 ∧ 1 ≤ d.n ∧ d.n ≤ 1073741824 := by
  by_cases hh : 1 ≤ d.f ∧ d.f ≤ 64 ∧ 1 ≤ d.t ∧ d.t ≤ 64 ∧ 1 ≤ d.n ∧ d.n ≤ 1073741824
  · exact hh
  · rw [way_bad hh] at h
    cases h
/- load.Carried -/
set_option maxRecDepth 100000 in
set_option maxHeartbeats 400000 in
theorem load_Carried {db : List Lsa} {l : List Dm} (hdl : db.length < 9223372036854775807 := by omega) (hl : l.length ≤ 1000 := by omega) : Triple Try.prog 207 [.sl 3 (db.map lsaC), .sl 3 (l.map demC)] [] (Is (.tup [.v (.int .u64 (carS db l)), .int (carN db l)]) []) := by
  refine triple_of Try.func207 rfl (by kernel_rfl) rfl (by simp) ?_
  refine aSeq ?_
  refine aReg ?_
  refine sp pMa ?_
  refine sp pMa ?_
  refine oNil ?_
  refine aSeq ?_
  refine aReg ?_
  refine sp pMa ?_
  refine sp pMa ?_
  refine oNil ?_
  refine aSeq ?_
  refine aSeq ?_
  refine aReg ?_
  refine sp pM ?_
  refine sp pM ?_
  refine sp (by first | exact pLm sl_130 | exact pLs sl_130) ?_
  refine sp pMin ?_
  rw [show min (l.length : Int) 1000 = (l.length : Int) by omega]
  refine sp (pSlice rfl rfl es_130 (bdN rfl) (bdI rfl) (by first | omega | (simp only [List.length_map]; omega)) (by first | omega | (simp only [List.length_map]; omega))) ?_
  rw [show ((l.map demC).drop 0).take (l.length - 0) = l.map demC by rw [List.drop_zero, Nat.sub_zero, List.take_of_length_le (by simp)]]
  refine sp (by first | exact pLm sl_130 | exact pLs sl_130 | exact pLv sl_130) ?_
  refine sp pM ?_
  refine oNil ?_
  refine aBlock ?_
  refine loopF (α := Nat × Int × Int) (kept := [(0, _), (16, _), (17, _)]) (fun (i, s, n) => i ≤ l.length ∧ s = carS db (l.take i) ∧ n = carN db (l.take i)) (fun (i, s, n) => [(18, .int i), (6, .v (.int .u64 s)), (7, .int n)]) (fun (i, s, n) => []) (fun (i, s, n) => l.length - i) (0, 0, 0) ?_ ⟨gInt rfl (by first | rfl | omega | simp), rfl, gInt rfl (by first | rfl | omega | simp), rfl, rfl, rfl, trivial⟩ (by repeat constructor) ?_
  · skip
    exact ⟨by omega, rfl, rfl⟩
  · rintro ⟨i, s, n⟩ ⟨hi, hs, hn⟩
    refine aSeq ?_
    refine aReg ?_
    refine sp pB ?_
    refine oNil ?_
    refine aSeq ?_
    refine aCondDec rfl (fun c19 => ?_) (fun c19 => ?_)
    · skip
      refine aSkip ?_
      refine aSeq ?_
      refine aBlock ?_
      refine aSeq ?_
      obtain ⟨d, hd⟩ : ∃ z, l[i]? = some z := ⟨_, List.getElem?_eq_getElem (by omega)⟩
      refine aReg ?_
      first | refine sp (pIx es_130) ?_ | (refine obtSN 16 18 rfl rfl (by omega) (fun x20 hx20 => ?_); refine sp (pIs es_130 hx20) ?_) | (refine obtS 16 18 rfl rfl (by omega) (by omega) (fun x20 hx20 => ?_); refine sp (pIs es_130 hx20) ?_) | refine sp (pIo es_130) ?_
      refine sr (by first | exact rSW ty_136 rfl | exact rSA ty_136 | exact rBWa ty_136 | exact rBW ty_136 | exact rBA ty_136 | exact rArA ty_136 (fun _ => rfl)) ?_
      refine sq ?_
      refine qAlloc rfl rfl (by decide) ze_136 rfl (fun b9 => ?_)
      refine sa ?_
      refine oStW rfl rfl rfl rfl (by repeat constructor) ty_136 ?_
      refine oNil ?_
      refine aSeq ?_
      refine aReg ?_
      refine sp pM ?_
      refine sr (by first | exact rBWa ty_136 | exact rBW ty_136 | exact rBA ty_136) ?_
      refine sq ?_
      refine ci rfl rfl rfl (load_way_s (db := db) (d := d) hdl) ?_
      refine sp pM ?_
      refine sp pX ?_
      refine sp pX ?_
      refine sp pMa ?_
      refine sp pMa ?_
      refine oNil ?_
      refine aSeq ?_
      have hcs := carS_rng db (l.take i)
      have hcn := carN_rng db (l.take i)
      have htl := List.length_take_le i l
      have htl2 := List.length_take_le' i l
      refine aReg ?_
      refine sp pM ?_
      refine oNil ?_
      refine aCond rfl (fun c28 => ?_) (fun c28 => ?_)
      · skip
        have hwn := way_n (db := db) (d := d) (by assumption)
        refine aReg ?_
        refine sp pM ?_
        refine sp (pFb fd_136_2) ?_
        refine sr (rB1 ty_3) ?_
        refine sp (by first | exact pCvK ik_3 ik_37 | exact pConv rfl rfl ik_3 ik_37 rfl) ?_
        refine sp (by first | exact pAdK | exact pB) ?_
        refine sp pMa ?_
        refine oNil ?_
        refine aReg ?_
        refine sp pAd ?_
        refine sp pM ?_
        refine oNil ?_
        refine ⟨(i + 1, _, _), ?_, by (try dsimp only); omega, ⟨gInt rfl (by first | rfl | omega | simp), rfl, gInt rfl (by first | rfl | omega | simp), rfl, rfl, rfl, trivial⟩, _, (by repeat constructor)⟩
        refine ⟨by omega, ?_, ?_⟩
        · rw [take_step hd, carS_app, ← hs, carS, carS]
          cases hp : wayB db d <;> first
            | (simp; done)
            | (exfalso; simp_all; done)
        · rw [take_step hd, carN_app, ← hn, carN, carN]
          cases hp : wayB db d <;> first
            | (simp; done)
            | (exfalso; simp_all; done)
      · skip
        refine aReg ?_
        refine sp pM ?_
        refine sp pAd ?_
        refine sp pMa ?_
        refine oNil ?_
        refine aReg ?_
        refine sp pAd ?_
        refine sp pM ?_
        refine oNil ?_
        refine ⟨(i + 1, _, _), ?_, by (try dsimp only); omega, ⟨gInt rfl (by first | rfl | omega | simp), rfl, gInt rfl (by first | rfl | omega | simp), rfl, rfl, rfl, trivial⟩, _, (by repeat constructor)⟩
        refine ⟨by omega, ?_, ?_⟩
        · rw [take_step hd, carS_app, ← hs, carS, carS]
          cases hp : wayB db d <;> first
            | (simp; done)
            | (exfalso; simp_all; done)
        · rw [take_step hd, carN_app, ← hn, carN, carN]
          cases hp : wayB db d <;> first
            | (simp; done)
            | (exfalso; simp_all; done)
    · skip
      refine aExit rfl ?_
      refine aSeq ?_
      refine aReg ?_
      refine sp pM ?_
      refine sp pM ?_
      refine sp pMa ?_
      refine sp pMa ?_
      refine oNil ?_
      refine aRet ?_
      refine finIs rfl ?_
      rw [take_all (by omega)] at hs hn
      rw [hs, hn]
      rfl
/- waymarkref26.Hops -/
set_option maxRecDepth 100000 in
set_option maxHeartbeats 2000000 in
theorem ref26_HopsO {db : List Lsa} {v td : Int} {k : Nat} (hv : lsdbB 0 db = true) (hr : 1 ≤ v ∧ v ≤ 64 ∧ 1 ≤ td ∧ td ≤ 64) (hw : isF (arcsDb db) v td = true → HWay (arcsDb db) td v (hopsF (arcsDb db) td k v)) (ih : ∀ x, 0 < k → isF (arcsDb db) x td = true → HWay (arcsDb db) td x (hopsF (arcsDb db) td (k - 1) x) → Triple Try.prog 210 [.sl 3 (db.map lsaC), .int x, .int td] [] (Is (.tup [.sl 1 ((hopsF (arcsDb db) td (k - 1) x).map intA), .v (.bool true)]) [])) : Triple Try.prog 210 [.sl 3 (db.map lsaC), .int v, .int td] [] (fun q h' => ∃ g c, q = .tup [.v (slV g (hopR (arcsDb db) td k v).length c), .v (.bool (isF (arcsDb db) v td))] ∧ h' = [.sl g c 3 1 ((hopR (arcsDb db) td k v).map intA)]) := by
  have h64 := lsdb_len64 hv
  have hrl := rtsDb_len db v
  have hok := arcs_ok (dbArcs_ok hv)
  refine triple_of Try.func210 rfl (by kernel_rfl) rfl (by simp) ?_
  refine aSeq ?_
  refine aReg ?_
  refine sp pMa ?_
  refine sp pMa ?_
  refine oNil ?_
  refine aSeq ?_
  refine aSeq ?_
  refine aReg ?_
  refine sp pM ?_
  refine sp pM ?_
  refine sp pB ?_
  refine oNil ?_
  refine aCondEq rfl (fun c13 => ?_) (fun c13 => ?_)
  · skip
    refine aSeq ?_
    refine aReg ?_
    refine sp pM ?_
    refine sq ?_
    refine qLit (l := [_]) rfl rfl (by decide) us_25 ty_3 ze_3 rfl (by decide) (by decide) rfl rfl rfl (fun b15 => ?_)
    refine sp pMa ?_
    refine sp pMa ?_
    refine oNil ?_
    have e : v = td := by assumption
    have hyes := (dF_root hok hr.2.2.1 hr.2.2.2).1
    have hR : (hopR (arcsDb db) td k v) = [v] := by unfold hopR; rw [e, hyes, if_pos rfl, hops_at]
    rw [hR, show isF (arcsDb db) v td = true by rw [e]; exact hyes]
    refine aRet ?_
    refine ⟨_, _, _, rfl, (by repeat constructor), _, _, rfl, rfl⟩
  · skip
    refine aSkip ?_
    refine aSeq ?_
    have hne : v ≠ td := by assumption
    have hfg := find_hop hv hne
    refine aReg ?_
    refine sp pM ?_
    refine sp pM ?_
    refine sq ?_
    refine ci rfl rfl rfl (ref26_Of_s (db := db) (me := v) hv) ?_
    refine sp pM ?_
    refine sq ?_
    refine ci rfl rfl rfl (ref26_Find (rs := rtsDb db v) (n := td) (by omega)) ?_
    refine sq ?_
    refine qAlloc rfl rfl (by decide) ze_49 rfl (fun b8 => ?_)
    refine sa ?_
    refine oStW rfl rfl rfl rfl (by repeat constructor) ty_49 ?_
    refine oNil ?_
    refine aSeq ?_
    refine aSeq ?_
    refine aReg ?_
    refine sp (pFb fd_49_0) ?_
    refine sr (rB1 ty_3) ?_
    refine sp pB ?_
    refine oNil ?_
    refine aCondEq rfl (fun c23 => ?_) (fun c23 => ?_)
    · skip
      refine aSeq ?_
      have hno : isF (arcsDb db) v td = false := by
        cases h : isF (arcsDb db) v td with
        | false => rfl
        | true =>
          exfalso
          have hc : (findG (rtsDb db v) td).nd = 0 := by assumption
          rw [hfg, h, if_pos rfl] at hc
          simp only at hc
          omega
      have hR : (hopR (arcsDb db) td k v) = [] := by unfold hopR; rw [hno]; rfl
      refine aWeak (weak_nil 3 1) ?_
      refine aReg ?_
      refine sp pMa ?_
      refine sp pMa ?_
      refine oNil ?_
      rw [hR, hno]
      refine aRet ?_
      refine ⟨_, _, _, rfl, (by repeat constructor), none, 0, rfl, rfl⟩
    · skip
      refine aSkip ?_
      refine aSeq ?_
      have hyes : isF (arcsDb db) v td = true := by
        cases h : isF (arcsDb db) v td with
        | true => rfl
        | false =>
          exfalso
          have hc : ¬ (findG (rtsDb db v) td).nd = 0 := by assumption
          rw [hfg, h] at hc
          exact hc rfl
      rw [if_pos hyes] at hfg
      have htl := hops_tail hne (hw hyes)
      have hvi := via_isF hv hr.2.2 htl.2.2
      have hwl := (hw hyes).len hok hr.2.2
      have hR : (hopR (arcsDb db) td k v) = v :: hopsF (arcsDb db) td (k - 1) (viaM (arcsDb db) v td) := by unfold hopR; rw [if_pos hyes]; exact htl.2.1
      have hRl : (hopsF (arcsDb db) td (k - 1) (viaM (arcsDb db) v td)).length ≤ 64 := by rw [htl.2.1] at hwl; simp at hwl; omega
      refine aReg ?_
      refine sp pM ?_
      refine sp (pFb fd_49_1) ?_
      refine sr (rB1 ty_3) ?_
      rw [hfg]
      refine sp pM ?_
      refine sq ?_
      refine ci rfl rfl rfl (ih _ htl.1 hvi htl.2.2) ?_
      refine sp pM ?_
      refine sp pX ?_
      refine sp pX ?_
      refine sp pMa ?_
      refine sp pMa ?_
      refine oNil ?_
      refine aSeq ?_
      refine aReg ?_
      refine sp pM ?_
      refine sq ?_
      refine qLit (l := [_]) rfl rfl (by decide) us_25 ty_3 ze_3 rfl (by decide) (by decide) rfl rfl rfl (fun b33 => ?_)
      refine sp pM ?_
      refine sa ?_
      refine oAppT (out := [v]) _ rfl rfl (by repeat constructor) (.inl rfl) el_25 sl_25 (fun g35 k35 => ?_)
      refine sp pM ?_
      refine sp pMa ?_
      refine sp pMa ?_
      refine oNil ?_
      rw [hR, hyes]
      refine aRet ?_
      refine ⟨_, _, _, rfl, (by repeat constructor), _, _, rfl, rfl⟩
theorem ref26_HopsN {db : List Lsa} {td : Int} (hv : lsdbB 0 db = true) (ht : 1 ≤ td ∧ td ≤ 64) : ∀ (k : Nat) (v : Int), 1 ≤ v ∧ v ≤ 64 → (isF (arcsDb db) v td = true → HWay (arcsDb db) td v (hopsF (arcsDb db) td k v)) → Triple Try.prog 210 [.sl 3 (db.map lsaC), .int v, .int td] [] (Is (.tup [.sl 1 ((hopR (arcsDb db) td k v).map intA), .v (.bool (isF (arcsDb db) v td))]) []) := fun k => by
  induction k with
  | zero => exact fun v hr hw => (ref26_HopsO (k := 0) hv ⟨hr.1, hr.2, ht⟩ hw (fun x hk => by omega)).deep fun q h' ⟨g, c, hq, hh⟩ => ⟨_, [.sl g c 3 1 ((hopR (arcsDb db) td 0 v).map intA)], [], by subst hh; exact .cons .hd .nil, by subst hq; exact .tup (.sl List.mem_cons_self (by rw [List.length_map]) Deep.refl (.same (.row .nil))) (.row .nil), rfl, rfl⟩
  | succ k ih =>
    refine fun v hr hw => (ref26_HopsO (k := k + 1) hv ⟨hr.1, hr.2, ht⟩ hw (fun x _ hx hxw => ?_)).deep fun q h' ⟨g, c, hq, hh⟩ => ⟨_, [.sl g c 3 1 ((hopR (arcsDb db) td (k + 1) v).map intA)], [], by subst hh; exact .cons .hd .nil, by subst hq; exact .tup (.sl List.mem_cons_self (by rw [List.length_map]) Deep.refl (.same (.row .nil))) (.row .nil), rfl, rfl⟩
    have h := ih x ⟨(isF_range (arcs_ok (dbArcs_ok hv)) hx).1, (isF_range (arcs_ok (dbArcs_ok hv)) hx).2.1⟩ (fun _ => hxw)
    unfold hopR at h
    rw [hx] at h
    exact h
theorem ref26_Hops {db : List Lsa} {v td : Int} (hv : lsdbB 0 db = true) (hr : 1 ≤ v ∧ v ≤ 64 ∧ 1 ≤ td ∧ td ≤ 64) : Triple Try.prog 210 [.sl 3 (db.map lsaC), .int v, .int td] [] (Is (.tup [.sl 1 ((hopR (arcsDb db) td 64 v).map intA), .v (.bool (isF (arcsDb db) v td))]) []) :=
  ref26_HopsN hv hr.2.2 64 v ⟨hr.1, hr.2.1⟩ (fun h => hops_way (arcs_ok (dbArcs_ok hv)) (arcsB_sorted (dbArcs_ok hv)) h)
theorem hopR_len {db : List Lsa} (hv : lsdbB 0 db = true) (v td : Int) : (hopR (arcsDb db) td 64 v).length ≤ 64 := by
  unfold hopR
  split
  · rename_i h
    have := isF_range (arcs_ok (dbArcs_ok hv)) h
    exact (hops_way (arcs_ok (dbArcs_ok hv)) (arcsB_sorted (dbArcs_ok hv)) h).len (arcs_ok (dbArcs_ok hv)) ⟨this.2.2.1, this.2.2.2⟩
  · simp
/- waymarkref52.Way -/
set_option maxRecDepth 100000 in
set_option maxHeartbeats 400000 in
theorem ref52_Way {db : List Lsa} {d : Dm} (hv : lsdbB 0 db = true) : Triple Try.prog 113 [.sl 3 (db.map lsaC), .agg (demC d)] [] (Is (.sl 1 ((wayL db d).map intA)) []) := by
  have h64 := lsdb_len64 hv
  have hhl := hopR_len hv d.f d.t
  refine triple_of Try.func113 rfl (by kernel_rfl) rfl (by simp) ?_
  refine aSeq ?_
  refine aReg ?_
  refine sq ?_
  refine qBox rfl rfl (by decide) rfl rfl (fun b3 => ?_)
  refine sp pMa ?_
  refine oNil ?_
  refine aSeq ?_
  refine aSeq ?_
  refine aReg ?_
  refine sp (pFb fd_136_0) ?_
  refine sr (rB1 ty_3) ?_
  refine sp pB ?_
  refine sp pM ?_
  refine oSplitDec 10 rfl (fun c10 => ?_) (fun c10 => ?_)
  · skip
    refine gf ?_
    refine gf ?_
    refine gf ?_
    refine sp pK ?_
    refine sp pM ?_
    refine gf ?_
    refine gf ?_
    refine gf ?_
    refine sp pK ?_
    refine sp pM ?_
    refine gf ?_
    refine gf ?_
    refine gf ?_
    refine sp pK ?_
    refine sp pM ?_
    refine gf ?_
    refine gf ?_
    refine gf ?_
    refine sp pK ?_
    refine sp pM ?_
    refine gf ?_
    refine gf ?_
    refine gf ?_
    refine sp pK ?_
    refine oNil ?_
    refine aCondT rfl ?_
    refine aSeq ?_
    have hno : wayL db d = [] := way_bad (by omega)
    refine aWeak (weak_nil 3 1) ?_
    refine aReg ?_
    refine sp pMa ?_
    refine oNil ?_
    refine aWeak (weak_settle (k := 4) rfl .hd rfl) ?_
    refine aRet ?_
    refine finIs rfl ?_
    rw [hno]
    rfl
  · skip
    refine gp (pFb fd_136_0) ?_
    refine gr (rB1 ty_3) ?_
    refine gp pB ?_
    refine sp pK ?_
    refine sp pM ?_
    refine oSplitDec 15 rfl (fun c15 => ?_) (fun c15 => ?_)
    · skip
      refine gf ?_
      refine gf ?_
      refine gf ?_
      refine sp pK ?_
      refine sp pM ?_
      refine gf ?_
      refine gf ?_
      refine gf ?_
      refine sp pK ?_
      refine sp pM ?_
      refine gf ?_
      refine gf ?_
      refine gf ?_
      refine sp pK ?_
      refine sp pM ?_
      refine gf ?_
      refine gf ?_
      refine gf ?_
      refine sp pK ?_
      refine oNil ?_
      refine aCondT rfl ?_
      refine aSeq ?_
      have hno : wayL db d = [] := way_bad (by omega)
      refine aWeak (weak_nil 3 1) ?_
      refine aReg ?_
      refine sp pMa ?_
      refine oNil ?_
      refine aWeak (weak_settle (k := 4) rfl .hd rfl) ?_
      refine aRet ?_
      refine finIs rfl ?_
      rw [hno]
      rfl
    · skip
      refine gp (pFb fd_136_1) ?_
      refine gr (rB1 ty_3) ?_
      refine gp pB ?_
      refine sp pK ?_
      refine sp pM ?_
      refine oSplitDec 20 rfl (fun c20 => ?_) (fun c20 => ?_)
      · skip
        refine gf ?_
        refine gf ?_
        refine gf ?_
        refine sp pK ?_
        refine sp pM ?_
        refine gf ?_
        refine gf ?_
        refine gf ?_
        refine sp pK ?_
        refine sp pM ?_
        refine gf ?_
        refine gf ?_
        refine gf ?_
        refine sp pK ?_
        refine oNil ?_
        refine aCondT rfl ?_
        refine aSeq ?_
        have hno : wayL db d = [] := way_bad (by omega)
        refine aWeak (weak_nil 3 1) ?_
        refine aReg ?_
        refine sp pMa ?_
        refine oNil ?_
        refine aWeak (weak_settle (k := 4) rfl .hd rfl) ?_
        refine aRet ?_
        refine finIs rfl ?_
        rw [hno]
        rfl
      · skip
        refine gp (pFb fd_136_1) ?_
        refine gr (rB1 ty_3) ?_
        refine gp pB ?_
        refine sp pK ?_
        refine sp pM ?_
        refine oSplitDec 25 rfl (fun c25 => ?_) (fun c25 => ?_)
        · skip
          refine gf ?_
          refine gf ?_
          refine gf ?_
          refine sp pK ?_
          refine sp pM ?_
          refine gf ?_
          refine gf ?_
          refine gf ?_
          refine sp pK ?_
          refine oNil ?_
          refine aCondT rfl ?_
          refine aSeq ?_
          have hno : wayL db d = [] := way_bad (by omega)
          refine aWeak (weak_nil 3 1) ?_
          refine aReg ?_
          refine sp pMa ?_
          refine oNil ?_
          refine aWeak (weak_settle (k := 4) rfl .hd rfl) ?_
          refine aRet ?_
          refine finIs rfl ?_
          rw [hno]
          rfl
        · skip
          refine gp (pFb fd_136_2) ?_
          refine gr (rB1 ty_3) ?_
          refine gp pB ?_
          refine sp pK ?_
          refine sp pM ?_
          refine oSplitDec 30 rfl (fun c30 => ?_) (fun c30 => ?_)
          · skip
            refine gf ?_
            refine gf ?_
            refine gf ?_
            refine sp pK ?_
            refine oNil ?_
            refine aCondT rfl ?_
            refine aSeq ?_
            have hno : wayL db d = [] := way_bad (by omega)
            refine aWeak (weak_nil 3 1) ?_
            refine aReg ?_
            refine sp pMa ?_
            refine oNil ?_
            refine aWeak (weak_settle (k := 4) rfl .hd rfl) ?_
            refine aRet ?_
            refine finIs rfl ?_
            rw [hno]
            rfl
          · skip
            refine gp (pFb fd_136_2) ?_
            refine gr (rB1 ty_3) ?_
            refine gp pB ?_
            refine sp pK ?_
            refine oNil ?_
            refine aCondDec rfl (fun c34 => ?_) (fun c34 => ?_)
            · skip
              refine aSeq ?_
              have hno : wayL db d = [] := way_bad (by omega)
              refine aWeak (weak_nil 3 1) ?_
              refine aReg ?_
              refine sp pMa ?_
              refine oNil ?_
              refine aWeak (weak_settle (k := 4) rfl .hd rfl) ?_
              refine aRet ?_
              refine finIs rfl ?_
              rw [hno]
              rfl
            · skip
              refine aSkip ?_
              refine aSeq ?_
              have hg := way_good hv (d := d) (by omega)
              refine aReg ?_
              refine sp pM ?_
              refine sp (pFb fd_136_0) ?_
              refine sr (rB1 ty_3) ?_
              refine sp (pFb fd_136_1) ?_
              refine sr (rB1 ty_3) ?_
              refine sq ?_
              refine ci rfl rfl rfl (ref26_Hops (db := db) (v := d.f) (td := d.t) hv (by omega)) ?_
              refine sp pM ?_
              refine sp pX ?_
              refine sp pX ?_
              refine sp pMa ?_
              refine sp pMa ?_
              refine oNil ?_
              refine aSeq ?_
              refine aSeq ?_
              refine aReg ?_
              refine sp pM ?_
              refine sp pNo ?_
              refine oNil ?_
              refine aCondNot rfl (fun c45 => ?_) (fun c45 => ?_)
              · skip
                refine aSeq ?_
                have hno : wayL db d = [] := by
                  rw [hg]
                  unfold hopR
                  rw [if_neg (by simp_all)]
                refine aWeak (weak_nil 3 1) ?_
                refine aReg ?_
                refine sp pMa ?_
                refine oNil ?_
                refine aWeak (weak_settle (k := 4) rfl .hd rfl) ?_
                refine aRet ?_
                refine finIs rfl ?_
                rw [hno]
                rfl
              · skip
                refine aSkip ?_
                refine aSeq ?_
                refine aReg ?_
                refine sp pM ?_
                refine sp pMa ?_
                refine oNil ?_
                refine aRet ?_
                refine finIs rfl ?_
                rw [hg]
                rfl
end A
end Go.Proofs.Ytmcannmjielalaa
set_option linter.unusedVariables false
set_option linter.unusedSimpArgs false
namespace Go.Proofs.Ytmcannmjielalaa
namespace A
theorem ar_132 : arrOf Try.prog 132 = some (65, 1) := by kernel_rfl
theorem st_136 : structPlaces Try.prog 136 = some [(0, 1), (1, 1), (2, 1)] := by kernel_rfl
theorem st_138 : structPlaces Try.prog 138 = some [(0, 1), (1, 1)] := by kernel_rfl
theorem ty_132 : tyOf Try.prog 132 = some (65, true) := by kernel_rfl
theorem ua_132 : Try.prog.underlying 132 = some (.array 65 3) := by kernel_rfl
theorem us_130 : Try.prog.underlying 130 = some (.slice 136) := by kernel_rfl
theorem us_139 : Try.prog.underlying 139 = some (.slice 138) := by kernel_rfl
theorem us_55 : Try.prog.underlying 55 = some (.slice 141) := by kernel_rfl
theorem ze_132 : zeroOf Try.prog 132 = some (.agg #[.int .i64 0, .int .i64 0, .int .i64 0, .int .i64 0, .int .i64 0, .int .i64 0, .int .i64 0, .int .i64 0, .int .i64 0, .int .i64 0, .int .i64 0, .int .i64 0, .int .i64 0, .int .i64 0, .int .i64 0, .int .i64 0, .int .i64 0, .int .i64 0, .int .i64 0, .int .i64 0, .int .i64 0, .int .i64 0, .int .i64 0, .int .i64 0, .int .i64 0, .int .i64 0, .int .i64 0, .int .i64 0, .int .i64 0, .int .i64 0, .int .i64 0, .int .i64 0, .int .i64 0, .int .i64 0, .int .i64 0, .int .i64 0, .int .i64 0, .int .i64 0, .int .i64 0, .int .i64 0, .int .i64 0, .int .i64 0, .int .i64 0, .int .i64 0, .int .i64 0, .int .i64 0, .int .i64 0, .int .i64 0, .int .i64 0, .int .i64 0, .int .i64 0, .int .i64 0, .int .i64 0, .int .i64 0, .int .i64 0, .int .i64 0, .int .i64 0, .int .i64 0, .int .i64 0, .int .i64 0, .int .i64 0, .int .i64 0, .int .i64 0, .int .i64 0, .int .i64 0]) := by kernel_rfl
def rowD : List Lsa := [⟨1, 1, [⟨2, 1⟩]⟩, ⟨2, 1, [⟨1, 1⟩, ⟨3, 1⟩]⟩, ⟨3, 1, [⟨2, 1⟩]⟩]
def dms1 : List Dm := [⟨1, 3, 5⟩]
def dms2 : List Dm := [⟨1, 3, 5⟩, ⟨1, 4, 1⟩]
def arc2 : List Arc := [⟨1, 2, 5⟩, ⟨2, 3, 5⟩]
theorem rowD_v : lsdbB 0 rowD = true := by decide +kernel
theorem rowD_o : onA rowD dms1 = arc2 := by decide +kernel
theorem rowD_s : carS rowD dms2 = 5 := by decide +kernel
theorem rowD_n : carN rowD dms2 = 1 := by decide +kernel
theorem rowD_is {ts : List Arc} (h : if lsdbB 0 rowD = true then LoadR rowD dms1 ts else ts = []) : ts = arc2 := by
  rw [if_pos rowD_v] at h
  refine h.is ?_ (fun a => by rw [rowD_o])
  unfold arc2 ltA
  simp
theorem upd_flw (f : Int → Int) (x y c n : Int) : updF (updF f x (f x - c)) y (updF f x (f x - c) y + c) n = f n + flw x y n c := by
  unfold updF flw
  by_cases h1 : y = n <;> by_cases h2 : x = n <;> by_cases h3 : y = x <;> simp_all [eq_comm] <;> omega
theorem upd_flw2 (f : Int → Int) (x y c n : Int) : updF (updF f x (f x + c)) y (updF f x (f x + c) y - c) n = f n - flw x y n c := by
  unfold updF flw
  by_cases h1 : y = n <;> by_cases h2 : x = n <;> by_cases h3 : y = x <;> simp_all [eq_comm] <;> omega
theorem potA_one (n : Int) (a : Arc) : potA n [a] = flw a.f a.t n a.c := by simp [potA]
theorem potD_one (db : List Lsa) (n : Int) (d : Dm) : potD db n [d] = if 0 < (wayL db d).length then flw d.f d.t n d.n else 0 := by simp [potD]
def fewD (db : List Lsa) (l : List Dm) : Bool := (decide (db.length ≤ 7) && lightB db) && decide (l.length ≤ 12)
theorem fewD_len {db : List Lsa} {l : List Dm} (h : fewD db l = true) : db.length ≤ 7 ∧ (∀ x ∈ db, x.ls.length ≤ 40) ∧ l.length ≤ 12 := by
  unfold fewD at h
  simp only [Bool.and_eq_true, decide_eq_true_eq] at h
  exact ⟨h.1.1, fun x hx => light_mem h.1.2 hx, h.2⟩
/- waymarklaw52.row -/
set_option maxRecDepth 100000 in
set_option maxHeartbeats 400000 in
theorem law52_row  : Triple Try.prog 206 [] [] (Is (.sl 3 (rowD.map lsaC)) []) := by
  refine triple_of Try.func206 rfl (by kernel_rfl) rfl (by simp) ?_
  refine aSeq ?_
  refine aReg ?_
  refine sp pMa ?_
  refine oNil ?_
  refine aSeq ?_
  refine aReg ?_
  refine sp (pBuild rfl st_138 ze_138 rfl rfl rfl rfl) ?_
  refine sq ?_
  refine qLit (l := [_]) rfl rfl (by decide) us_139 ty_138 ze_138 rfl (by decide) (by decide) rfl rfl rfl (fun b2 => ?_)
  refine sp (pBuild rfl st_141 ze_141 rfl rfl rfl rfl) ?_
  refine sp (pBuild rfl st_138 ze_138 rfl rfl rfl rfl) ?_
  refine sp (pBuild rfl st_138 ze_138 rfl rfl rfl rfl) ?_
  refine sq ?_
  refine qLit (l := [_, _]) rfl rfl (by decide) us_139 ty_138 ze_138 rfl (by decide) (by decide) rfl rfl rfl (fun b6 => ?_)
  refine sp (pBuild rfl st_141 ze_141 rfl rfl rfl rfl) ?_
  refine sp (pBuild rfl st_138 ze_138 rfl rfl rfl rfl) ?_
  refine sq ?_
  refine qLit (l := [_]) rfl rfl (by decide) us_139 ty_138 ze_138 rfl (by decide) (by decide) rfl rfl rfl (fun b9 => ?_)
  refine sp (pBuild rfl st_141 ze_141 rfl rfl rfl rfl) ?_
  refine sq ?_
  refine qLit (l := [_, _, _]) rfl rfl (by decide) us_55 ty_141 ze_141 rfl (by decide) (by decide) rfl rfl rfl (fun b11 => ?_)
  refine sp pMa ?_
  refine oNil ?_
  refine aWeak (weak_deep (k := 0) (b := .sl 3 (rowD.map lsaC)) rfl (.cons .hd (.cons .hd (.cons .hd (.cons .hd .nil)))) (by repeat constructor)) ?_
  refine aRet ?_
  refine finIs rfl rfl
/- waymarklaw52.awake -/
set_option maxRecDepth 100000 in
set_option maxHeartbeats 400000 in
theorem law52_awake  : Triple Try.prog 111 [] [] (Is (.v (.bool true)) []) := by
  refine triple_of Try.func111 rfl (by kernel_rfl) rfl (by simp) ?_
  refine aSeq ?_
  refine aReg ?_
  refine sp pMa ?_
  refine oNil ?_
  refine aSeq ?_
  refine aReg ?_
  refine sq ?_
  refine ci rfl rfl rfl law52_row ?_
  refine sp (pBuild rfl st_136 ze_136 rfl rfl rfl rfl) ?_
  refine sq ?_
  refine qLit (l := [_]) rfl rfl (by decide) us_130 ty_136 ze_136 rfl (by decide) (by decide) rfl rfl rfl (fun b6 => ?_)
  refine oWeak (weak_settle (k := 6) rfl .hd rfl) ?_
  refine sa ?_
  refine ca rfl rfl rfl (load_Of (db := rowD) (l := dms1) (by decide) (by decide)) ?_
  rintro _ _ ⟨g7, c7, ts, hts, rfl, rfl⟩
  obtain rfl := rowD_is hts
  refine sp pMa ?_
  refine oNil ?_
  refine aSeq ?_
  refine aWeak (weak_settle (k := 1) rfl (by repeat constructor) (by first | rfl | (simp; done) | (simp; omega) | (simp_all; done))) ?_
  refine aReg ?_
  refine sq ?_
  refine ci rfl rfl rfl law52_row ?_
  refine sp (pBuild rfl st_136 ze_136 rfl rfl rfl rfl) ?_
  refine sp (pBuild rfl st_136 ze_136 rfl rfl rfl rfl) ?_
  refine sq ?_
  refine qLit (l := [_, _]) rfl rfl (by decide) us_130 ty_136 ze_136 rfl (by decide) (by decide) rfl rfl rfl (fun b12 => ?_)
  refine oWeak (weak_settle (k := 12) rfl .hd rfl) ?_
  refine sq ?_
  refine ci rfl rfl rfl (load_Carried (db := rowD) (l := dms2) (by decide) (by decide)) ?_
  rw [rowD_s, rowD_n]
  refine sp pM ?_
  refine sp pX ?_
  refine sp pX ?_
  refine sp pMa ?_
  refine sp pMa ?_
  refine oNil ?_
  refine aSeq ?_
  refine aReg ?_
  refine sp pM ?_
  refine sp (by first | exact pLm sl_22 | exact pLs sl_22) ?_
  refine sp pB ?_
  refine sp pM ?_
  refine gp pM ?_
  have hx1 : arc2[(1 : Int).toNat]? = some ⟨2, 3, 5⟩ := rfl
  have hal : arc2.length = 2 := rfl
  first | refine gp (pIx es_22) ?_ | refine gp (pIo es_22) ?_
  refine gr (by first | exact rSW ty_36 rfl | exact rSA ty_36) ?_
  refine gp (pBuild rfl st_36 ze_36 rfl rfl rfl rfl) ?_
  refine gp (pBl (by exact pEqAe eq_36) (show _ = true from by decide)) ?_
  refine sp pK ?_
  refine sp pM ?_
  refine gp pM ?_
  refine gp pB ?_
  refine sp pK ?_
  refine sp pM ?_
  refine gp pM ?_
  refine gp pB ?_
  refine sp pK ?_
  refine sp pMa ?_
  refine oNil ?_
  refine aRet ?_
  refine finIs rfl ?_
  rfl
/- waymarklaw52.few -/
set_option maxRecDepth 100000 in
set_option maxHeartbeats 400000 in
theorem law52_few {db : List Lsa} {l : List Dm} : Triple Try.prog 110 [.sl 3 (db.map lsaC), .sl 3 (l.map demC)] [] (Is (.v (.bool (fewD db l))) []) := by
  refine triple_of Try.func110 rfl (by kernel_rfl) rfl (by simp) ?_
  refine aSeq ?_
  refine aReg ?_
  refine sp pMa ?_
  refine oNil ?_
  refine aSeq ?_
  refine aReg ?_
  refine sp pM ?_
  refine sp (by first | exact pLm sl_55 | exact pLs sl_55) ?_
  refine sp pB ?_
  refine sp pM ?_
  refine oSplitDec 8 rfl (fun c8 => ?_) (fun c8 => ?_)
  · skip
    refine gp pM ?_
    refine ga ?_
    refine (cv rfl rfl rfl (lents_refl _) (law19_Light_v (db := db)) ?_).op
    refine sp pK ?_
    refine sp pM ?_
    refine oSplit 12 rfl (fun c12 => ?_) (fun c12 => ?_)
    · skip
      refine gp pM ?_
      refine gp (by first | exact pLm sl_130 | exact pLs sl_130) ?_
      refine gp pB ?_
      refine sp pK ?_
      refine sp pMa ?_
      refine oNil ?_
      refine aRet ?_
      refine finIs rfl ?_
      unfold fewD
      show AV.v _ = AV.v _
      congr 2
      cases hL : lightB db <;> by_cases h7 : db.length ≤ 7 <;> by_cases h12 : l.length ≤ 12 <;> simp_all <;> omega
    · skip
      refine gf ?_
      refine gf ?_
      refine gf ?_
      refine sp pK ?_
      refine sp pMa ?_
      refine oNil ?_
      refine aRet ?_
      refine finIs rfl ?_
      unfold fewD
      show AV.v _ = AV.v _
      congr 2
      cases hL : lightB db <;> by_cases h7 : db.length ≤ 7 <;> by_cases h12 : l.length ≤ 12 <;> simp_all <;> omega
  · skip
    refine gf ?_
    refine gf ?_
    refine sp pK ?_
    refine sp pM ?_
    refine gf ?_
    refine gf ?_
    refine gf ?_
    refine sp pK ?_
    refine sp pMa ?_
    refine oNil ?_
    refine aRet ?_
    refine finIs rfl ?_
    unfold fewD
    show AV.v _ = AV.v _
    congr 2
    cases hL : lightB db <;> by_cases h7 : db.length ≤ 7 <;> by_cases h12 : l.length ≤ 12 <;> simp_all <;> omega
/- waymarklaw52.LoadKeeps -/
def law52_LoadKeeps_r10_T : Bool × List (List Nat × List Nat) := (true, [([], []), ([], []), ([0, 1], [0, 1]), ([2], [2]), ([3], [3]), ([], []), ([], []), ([5, 6], [5, 6]), ([7], [7]), ([8], [8]), ([9], [9]), ([10], [10]), ([], []), ([], []), ([12, 13], [12, 13]), ([14], [14]), ([15], [15]), ([11, 16], [11, 16]), ([4, 0, 1, 2, 3, 4, 5, 6, 7, 8, 9, 10, 11, 12, 13, 14, 15, 16, 17], [4]), ([18, 17, 0, 1, 2, 3, 4, 5, 6, 7, 8, 9, 10, 11, 12, 13, 14, 15, 16, 17], [17, 18])])
def law52_LoadKeeps_r10_B : List Nat := [0, 0, 3, 7, 15, 0, 0, 96, 224, 480, 992, 2016, 0, 0, 12288, 28672, 61440, 131040, 262143, 524287]
theorem law52_LoadKeeps_r10_t : Go.Proofs.YtmcannmjielalaaW.PrintLast.rtab .any (Go.Proofs.YtmcannmjielalaaW.PrintLast.opsOf Try.f25 10) = law52_LoadKeeps_r10_T := by kernel_rfl
theorem law52_LoadKeeps_r10_b : Go.Proofs.YtmcannmjielalaaW.PrintLast.waitsOk law52_LoadKeeps_r10_T.2 law52_LoadKeeps_r10_B = true := by kernel_rfl
def law52_LoadKeeps_r11_T : Bool × List (List Nat × List Nat) := (true, [([], []), ([], []), ([0, 1], [0, 1]), ([2], [2]), ([3], [3]), ([], []), ([], []), ([5, 6], [5, 6]), ([7], [7]), ([8], [8]), ([9], [9]), ([10], [10]), ([], []), ([], []), ([12, 13], [12, 13]), ([14], [14]), ([15], [15]), ([11, 16], [11, 16]), ([4, 0, 1, 2, 3, 4, 5, 6, 7, 8, 9, 10, 11, 12, 13, 14, 15, 16, 17], [4]), ([18, 17, 0, 1, 2, 3, 4, 5, 6, 7, 8, 9, 10, 11, 12, 13, 14, 15, 16, 17], [17, 18])])
def law52_LoadKeeps_r11_B : List Nat := [0, 0, 3, 7, 15, 0, 0, 96, 224, 480, 992, 2016, 0, 0, 12288, 28672, 61440, 131040, 262143, 524287]
theorem law52_LoadKeeps_r11_t : Go.Proofs.YtmcannmjielalaaW.PrintLast.rtab .any (Go.Proofs.YtmcannmjielalaaW.PrintLast.opsOf Try.f25 11) = law52_LoadKeeps_r11_T := by kernel_rfl
theorem law52_LoadKeeps_r11_b : Go.Proofs.YtmcannmjielalaaW.PrintLast.waitsOk law52_LoadKeeps_r11_T.2 law52_LoadKeeps_r11_B = true := by kernel_rfl
def law52_LoadKeeps_r16_T : Bool × List (List Nat × List Nat) := (true, [([], []), ([], []), ([0, 1], [0, 1]), ([2], [2]), ([3], [3]), ([], []), ([], []), ([5, 6], [5, 6]), ([7], [7]), ([8], [8]), ([9], [9]), ([10], [10]), ([], []), ([], []), ([12, 13], [12, 13]), ([14], [14]), ([15], [15]), ([11, 16], [11, 16]), ([4, 0, 1, 2, 3, 4, 5, 6, 7, 8, 9, 10, 11, 12, 13, 14, 15, 16, 17], [4]), ([18, 17, 0, 1, 2, 3, 4, 5, 6, 7, 8, 9, 10, 11, 12, 13, 14, 15, 16, 17], [17, 18])])
def law52_LoadKeeps_r16_B : List Nat := [0, 0, 3, 7, 15, 0, 0, 96, 224, 480, 992, 2016, 0, 0, 12288, 28672, 61440, 131040, 262143, 524287]
theorem law52_LoadKeeps_r16_t : Go.Proofs.YtmcannmjielalaaW.PrintLast.rtab .any (Go.Proofs.YtmcannmjielalaaW.PrintLast.opsOf Try.f25 16) = law52_LoadKeeps_r16_T := by kernel_rfl
theorem law52_LoadKeeps_r16_b : Go.Proofs.YtmcannmjielalaaW.PrintLast.waitsOk law52_LoadKeeps_r16_T.2 law52_LoadKeeps_r16_B = true := by kernel_rfl
def law52_LoadKeeps_r17_T : Bool × List (List Nat × List Nat) := (true, [([], []), ([], []), ([0, 1], [0, 1]), ([2], [2]), ([3], [3]), ([], []), ([], []), ([5, 6], [5, 6]), ([7], [7]), ([8], [8]), ([9], [9]), ([10], [10]), ([], []), ([], []), ([12, 13], [12, 13]), ([14], [14]), ([15], [15]), ([11, 16], [11, 16]), ([4, 0, 1, 2, 3, 4, 5, 6, 7, 8, 9, 10, 11, 12, 13, 14, 15, 16, 17], [4]), ([18, 17, 0, 1, 2, 3, 4, 5, 6, 7, 8, 9, 10, 11, 12, 13, 14, 15, 16, 17], [17, 18])])
def law52_LoadKeeps_r17_B : List Nat := [0, 0, 3, 7, 15, 0, 0, 96, 224, 480, 992, 2016, 0, 0, 12288, 28672, 61440, 131040, 262143, 524287]
theorem law52_LoadKeeps_r17_t : Go.Proofs.YtmcannmjielalaaW.PrintLast.rtab .any (Go.Proofs.YtmcannmjielalaaW.PrintLast.opsOf Try.f25 17) = law52_LoadKeeps_r17_T := by kernel_rfl
theorem law52_LoadKeeps_r17_b : Go.Proofs.YtmcannmjielalaaW.PrintLast.waitsOk law52_LoadKeeps_r17_T.2 law52_LoadKeeps_r17_B = true := by kernel_rfl
set_option maxRecDepth 100000 in
set_option maxHeartbeats 4000000 in
theorem law52_LoadKeeps {db : List Lsa} {l : List Dm} (hdl : db.length ≤ 9223372036854775807) (hll : l.length ≤ 9223372036854775807) : Triple Try.prog 25 [.sl 3 (db.map lsaC), .sl 3 (l.map demC)] [] (Is (.v (.bool true)) []) := by
  refine triple_of Try.func25 rfl (by kernel_rfl) rfl (by simp) ?_
  refine aSeq ?_
  refine aReg ?_
  refine sp pMa ?_
  refine oNil ?_
  refine aSeq ?_
  refine aSeq ?_
  refine aReg ?_
  refine sp pM ?_
  refine sp pM ?_
  refine sq ?_
  refine cv rfl rfl rfl (lents_refl _) law52_few ?_
  refine sp pNo ?_
  refine sp pM ?_
  refine oSplitNot 14 rfl (fun c14 => ?_) (fun c14 => ?_)
  · skip
    refine gf ?_
    refine gf ?_
    refine gf ?_
    refine sp pK ?_
    refine oNil ?_
    refine aCondT rfl ?_
    refine aSeq ?_
    refine aReg ?_
    refine sq ?_
    refine cv rfl rfl rfl (lents_refl _) law52_awake ?_
    refine sp pMa ?_
    refine oNil ?_
    refine aRet ?_
    refine finIs rfl ?_
    rfl
  · skip
    have hfew := fewD_len (db := db) (l := l) (by simp_all)
    refine gp pM ?_
    refine ga ?_
    refine (cv rfl rfl rfl (lents_refl _) (ref19_May_v (db := db) (by omega) (fun x hx => by have := hfew.2.1 x hx; omega)) ?_).op
    refine gp pNo ?_
    refine sp pK ?_
    refine oNil ?_
    refine aCondNot rfl (fun c18 => ?_) (fun c18 => ?_)
    · skip
      refine aSeq ?_
      refine aReg ?_
      refine sq ?_
      refine cv rfl rfl rfl (lents_refl _) law52_awake ?_
      refine sp pMa ?_
      refine oNil ?_
      refine aRet ?_
      refine finIs rfl ?_
      rfl
    · skip
      refine aSkip ?_
      refine aSeq ?_
      have hfew := fewD_len (db := db) (l := l) (by simp_all)
      have hyes : lsdbB 0 db = true := by simp_all
      refine aReg ?_
      refine sp (pBuildA0 rfl ua_132 ty_3 ze_132 rfl) ?_
      refine sq ?_
      refine qAlloc rfl rfl (by decide) ze_132 rfl (fun b5 => ?_)
      refine sa ?_
      refine oStW rfl rfl rfl rfl (by repeat constructor) ty_132 ?_
      refine oNil ?_
      refine aSeq ?_
      refine aWeak (weak_box (b := b5) (cs' := arrF 65 (fun x => [inA x]) (fun _ => 0)) (by repeat constructor) (by kernel_rfl)) ?_
      refine aReg ?_
      refine sp pM ?_
      refine sp pM ?_
      refine sa ?_
      refine ca rfl rfl rfl (load_Of (db := db) (l := l) (by omega) (by omega)) ?_
      rintro _ _ ⟨g23, c23, ts, hts, rfl, rfl⟩
      rw [if_pos hyes] at hts
      have htsl := hts.len
      refine sp pMa ?_
      refine oNil ?_
      refine aSeq ?_
      refine aSeq ?_
      refine aWeak (weak_settle (k := 6) rfl (by repeat constructor) (by first | rfl | (simp; done) | (simp; omega) | (simp_all; done))) ?_
      refine aReg ?_
      refine sp pMa ?_
      refine oNil ?_
      refine aBlock ?_
      refine loopF (α := Nat × (Int → Int)) (kept := [(0, _), (1, _), (5, _), (6, _)]) (fun (i, f) => i ≤ ts.length ∧ ∀ n, f n = potA n (ts.take i)) (fun (i, f) => [(7, .int i)]) (fun (i, f) => [.box b5 (arrF 65 (fun x => [inA x]) f)]) (fun (i, f) => ts.length - i) (0, fun _ => 0) ?_ ⟨gInt rfl (by first | rfl | omega | simp), rfl, rfl, rfl, rfl, trivial⟩ (by repeat constructor) ?_
      · skip
        exact ⟨by omega, fun n => by simp [potA]⟩
      · rintro ⟨i, f⟩ ⟨hi, hf⟩
        refine aSeq ?_
        refine aSeq ?_
        refine aReg ?_
        refine sp pM ?_
        refine sp pM ?_
        refine sp (by first | exact pLm sl_22 | exact pLs sl_22) ?_
        refine sp pB ?_
        refine oNil ?_
        refine aCondDec rfl (fun c27 => ?_) (fun c27 => ?_)
        · skip
          refine aSkip ?_
          refine aSeq ?_
          refine aBlock ?_
          refine aSeq ?_
          refine aSeq ?_
          obtain ⟨x, hx⟩ : ∃ z, ts[i]? = some z := ⟨_, List.getElem?_eq_getElem (by omega)⟩
          have hxr := hts.rng x (List.mem_of_getElem? hx)
          refine aReg ?_
          refine sp pM ?_
          refine sp pM ?_
          first | refine sp (pIx es_22) ?_ | (refine obtSN 30 31 rfl rfl (by omega) (fun x32 hx32 => ?_); refine sp (pIs es_22 hx32) ?_) | (refine obtS 30 31 rfl rfl (by omega) (by omega) (fun x32 hx32 => ?_); refine sp (pIs es_22 hx32) ?_) | refine sp (pIo es_22) ?_
          refine sp (pFs fd_36_0) ?_
          refine sr (rS1 ty_3) ?_
          refine sp pB ?_
          refine sp pM ?_
          refine oSplitDec 36 rfl (fun c36 => ?_) (fun c36 => ?_)
          · skip
            refine gf ?_
            refine gf ?_
            refine gf ?_
            refine gf ?_
            refine gf ?_
            refine gf ?_
            refine sp pK ?_
            refine sp pM ?_
            refine gf ?_
            refine gf ?_
            refine gf ?_
            refine gf ?_
            refine gf ?_
            refine gf ?_
            refine sp pK ?_
            refine sp pM ?_
            refine gf ?_
            refine gf ?_
            refine gf ?_
            refine gf ?_
            refine gf ?_
            refine gf ?_
            refine sp pK ?_
            refine oNil ?_
            refine aCondT rfl ?_
            refine aSeq ?_
            refine aReg ?_
            refine sp pMa ?_
            refine oNil ?_
            refine aRet ?_
            exfalso
            omega
          · skip
            refine gp pM ?_
            refine gp pM ?_
            first | refine gp (pIx es_22) ?_ | (refine obtSN 37 38 rfl rfl (by omega) (fun x39 hx39 => ?_); refine gp (pIs es_22 hx39) ?_) | (refine obtS 37 38 rfl rfl (by omega) (by omega) (fun x39 hx39 => ?_); refine gp (pIs es_22 hx39) ?_) | refine gp (pIo es_22) ?_
            refine gp (pFs fd_36_0) ?_
            refine gr (rS1 ty_3) ?_
            refine gp pB ?_
            refine sp pK ?_
            refine sp pM ?_
            refine oSplitDec 44 rfl (fun c44 => ?_) (fun c44 => ?_)
            · skip
              refine gf ?_
              refine gf ?_
              refine gf ?_
              refine gf ?_
              refine gf ?_
              refine gf ?_
              refine sp pK ?_
              refine sp pM ?_
              refine gf ?_
              refine gf ?_
              refine gf ?_
              refine gf ?_
              refine gf ?_
              refine gf ?_
              refine sp pK ?_
              refine oNil ?_
              refine aCondT rfl ?_
              refine aSeq ?_
              refine aReg ?_
              refine sp pMa ?_
              refine oNil ?_
              refine aRet ?_
              exfalso
              omega
            · skip
              refine gp pM ?_
              refine gp pM ?_
              first | refine gp (pIx es_22) ?_ | (refine obtSN 45 46 rfl rfl (by omega) (fun x47 hx47 => ?_); refine gp (pIs es_22 hx47) ?_) | (refine obtS 45 46 rfl rfl (by omega) (by omega) (fun x47 hx47 => ?_); refine gp (pIs es_22 hx47) ?_) | refine gp (pIo es_22) ?_
              refine gp (pFs fd_36_1) ?_
              refine gr (rS1 ty_3) ?_
              refine gp pB ?_
              refine sp pK ?_
              refine sp pM ?_
              refine oSplitDec 52 rfl (fun c52 => ?_) (fun c52 => ?_)
              · skip
                refine gf ?_
                refine gf ?_
                refine gf ?_
                refine gf ?_
                refine gf ?_
                refine gf ?_
                refine sp pK ?_
                refine oNil ?_
                refine aCondT rfl ?_
                refine aSeq ?_
                refine aReg ?_
                refine sp pMa ?_
                refine oNil ?_
                refine aRet ?_
                exfalso
                omega
              · skip
                refine gp pM ?_
                refine gp pM ?_
                first | refine gp (pIx es_22) ?_ | (refine obtSN 53 54 rfl rfl (by omega) (fun x55 hx55 => ?_); refine gp (pIs es_22 hx55) ?_) | (refine obtS 53 54 rfl rfl (by omega) (by omega) (fun x55 hx55 => ?_); refine gp (pIs es_22 hx55) ?_) | refine gp (pIo es_22) ?_
                refine gp (pFs fd_36_1) ?_
                refine gr (rS1 ty_3) ?_
                refine gp pB ?_
                refine sp pK ?_
                refine oNil ?_
                refine aCondDec rfl (fun c59 => ?_) (fun c59 => ?_)
                · skip
                  refine aSeq ?_
                  refine aReg ?_
                  refine sp pMa ?_
                  refine oNil ?_
                  refine aRet ?_
                  exfalso
                  omega
                · skip
                  refine aSkip ?_
                  refine aSeq ?_
                  have hpb := potA_range (n := x.f) (B := 824633720832) (by omega) (l := ts.take i) (fun a ha => by have := hts.rng a (List.mem_of_mem_take ha); omega)
                  have hpc := potA_range (n := x.t) (B := 824633720832) (by omega) (l := ts.take i) (fun a ha => by have := hts.rng a (List.mem_of_mem_take ha); omega)
                  have htl := List.length_take_le' i ts
                  rw [← hf x.f] at hpb
                  rw [← hf x.t] at hpc
                  refine aDrawT law52_LoadKeeps_r10_t law52_LoadKeeps_r10_b [19] 20 #[false, false, false, false, false, false, false, false, false, false, false, false, false, false, false, false, false, false, false, false] (by kernel_rfl) rfl rfl (fun HT => ?_)
                  refine dp HT 0 rfl pM ?_
                  refine dp HT 1 rfl pM ?_
                  first | refine dp HT 2 rfl (pIx es_22) ?_ | (refine obtDN 60 61 rfl rfl (by omega) (fun x62 hx62 => ?_); refine dp HT 2 rfl (pIs es_22 hx62) ?_) | (refine obtD 60 61 rfl rfl (by omega) (by omega) (fun x62 hx62 => ?_); refine dp HT 2 rfl (pIs es_22 hx62) ?_) | refine dp HT 2 rfl (pIo es_22) ?_
                  refine dp HT 3 rfl (pFs fd_36_0) ?_
                  refine dr HT 4 rfl (rS1 ty_3) ?_
                  refine dp HT 5 rfl pM ?_
                  refine dp HT 6 rfl pM ?_
                  first | refine dp HT 7 rfl (pIx es_22) ?_ | (refine obtDN 65 66 rfl rfl (by omega) (fun x67 hx67 => ?_); refine dp HT 7 rfl (pIs es_22 hx67) ?_) | (refine obtD 65 66 rfl rfl (by omega) (by omega) (fun x67 hx67 => ?_); refine dp HT 7 rfl (pIs es_22 hx67) ?_) | refine dp HT 7 rfl (pIo es_22) ?_
                  refine dp HT 8 rfl (pFs fd_36_0) ?_
                  refine dr HT 9 rfl (rS1 ty_3) ?_
                  refine dp HT 10 rfl (pIa ar_132) ?_
                  refine dr HT 11 rfl (by first | exact rAr ty_3 | exact rArL ty_3 | exact rArR2 ty_3 | exact rB1 ty_3) ?_
                  refine dp HT 12 rfl pM ?_
                  refine dp HT 13 rfl pM ?_
                  first | refine dp HT 14 rfl (pIx es_22) ?_ | (refine obtDN 72 73 rfl rfl (by omega) (fun x74 hx74 => ?_); refine dp HT 14 rfl (pIs es_22 hx74) ?_) | (refine obtD 72 73 rfl rfl (by omega) (by omega) (fun x74 hx74 => ?_); refine dp HT 14 rfl (pIs es_22 hx74) ?_) | refine dp HT 14 rfl (pIo es_22) ?_
                  refine dp HT 15 rfl (pFs fd_36_2) ?_
                  refine dr HT 16 rfl (rS1 ty_3) ?_
                  refine dp HT 17 rfl pSu ?_
                  refine dp HT 18 rfl (pIa ar_132) ?_
                  refine dGo ?_
                  refine eLast ?_
                  refine f1 HT 19 rfl ?_
                  first | refine oAr rfl rfl rfl (by repeat constructor) ty_3 ?_ | refine oArL rfl rfl rfl (by repeat constructor) ty_3 ?_ | refine oArR rfl rfl rfl (by repeat constructor) (by first | rfl | exact arrF_len one_len) ty_3 ?_ | refine oStB rfl rfl rfl rfl (by repeat constructor) ty_3 rfl (Nat.le_of_ble_eq_true rfl) rfl ?_
                  refine fE HT ?_
                  clear HT
                  have hub : -1152921504606846976 ≤ (updF f x.f (f x.f - x.c) x.t) ∧ (updF f x.f (f x.f - x.c) x.t) ≤ 1152921504606846976 := by
                    unfold updF
                    split <;> omega
                  refine aDrawT law52_LoadKeeps_r11_t law52_LoadKeeps_r11_b [19] 20 #[false, false, false, false, false, false, false, false, false, false, false, false, false, false, false, false, false, false, false, false] (by kernel_rfl) rfl rfl (fun HT => ?_)
                  refine dp HT 0 rfl pM ?_
                  refine dp HT 1 rfl pM ?_
                  first | refine dp HT 2 rfl (pIx es_22) ?_ | (refine obtDN 79 80 rfl rfl (by omega) (fun x81 hx81 => ?_); refine dp HT 2 rfl (pIs es_22 hx81) ?_) | (refine obtD 79 80 rfl rfl (by omega) (by omega) (fun x81 hx81 => ?_); refine dp HT 2 rfl (pIs es_22 hx81) ?_) | refine dp HT 2 rfl (pIo es_22) ?_
                  refine dp HT 3 rfl (pFs fd_36_1) ?_
                  refine dr HT 4 rfl (rS1 ty_3) ?_
                  refine dp HT 5 rfl pM ?_
                  refine dp HT 6 rfl pM ?_
                  first | refine dp HT 7 rfl (pIx es_22) ?_ | (refine obtDN 84 85 rfl rfl (by omega) (fun x86 hx86 => ?_); refine dp HT 7 rfl (pIs es_22 hx86) ?_) | (refine obtD 84 85 rfl rfl (by omega) (by omega) (fun x86 hx86 => ?_); refine dp HT 7 rfl (pIs es_22 hx86) ?_) | refine dp HT 7 rfl (pIo es_22) ?_
                  refine dp HT 8 rfl (pFs fd_36_1) ?_
                  refine dr HT 9 rfl (rS1 ty_3) ?_
                  refine dp HT 10 rfl (pIa ar_132) ?_
                  refine dr HT 11 rfl (by first | exact rAr ty_3 | exact rArL ty_3 | exact rArR2 ty_3 | exact rB1 ty_3) ?_
                  refine dp HT 12 rfl pM ?_
                  refine dp HT 13 rfl pM ?_
                  first | refine dp HT 14 rfl (pIx es_22) ?_ | (refine obtDN 91 92 rfl rfl (by omega) (fun x93 hx93 => ?_); refine dp HT 14 rfl (pIs es_22 hx93) ?_) | (refine obtD 91 92 rfl rfl (by omega) (by omega) (fun x93 hx93 => ?_); refine dp HT 14 rfl (pIs es_22 hx93) ?_) | refine dp HT 14 rfl (pIo es_22) ?_
                  refine dp HT 15 rfl (pFs fd_36_2) ?_
                  refine dr HT 16 rfl (rS1 ty_3) ?_
                  refine dp HT 17 rfl pAd ?_
                  refine dp HT 18 rfl (pIa ar_132) ?_
                  refine dGo ?_
                  refine eLast ?_
                  refine f1 HT 19 rfl ?_
                  first | refine oAr rfl rfl rfl (by repeat constructor) ty_3 ?_ | refine oArL rfl rfl rfl (by repeat constructor) ty_3 ?_ | refine oArR rfl rfl rfl (by repeat constructor) (by first | rfl | exact arrF_len one_len) ty_3 ?_ | refine oStB rfl rfl rfl rfl (by repeat constructor) ty_3 rfl (Nat.le_of_ble_eq_true rfl) rfl ?_
                  refine fE HT ?_
                  clear HT
                  refine aReg ?_
                  refine sp pM ?_
                  refine sp pAd ?_
                  refine sp pMa ?_
                  refine oNil ?_
                  refine ⟨(i + 1, _), ?_, by (try dsimp only); omega, ⟨gInt rfl (by first | rfl | omega | simp), rfl, rfl, rfl, rfl, trivial⟩, _, (by repeat constructor)⟩
                  refine ⟨by omega, fun n => ?_⟩
                  rw [take_step hx, potA_app, ← hf n, potA_one]
                  exact upd_flw f x.f x.t x.c n
        · skip
          refine aExit rfl ?_
          refine aSeq ?_
          refine aSeq ?_
          rw [take_all (by omega)] at hf
          refine aReg ?_
          refine sp pMa ?_
          refine oNil ?_
          refine aBlock ?_
          refine loopF (α := Nat × (Int → Int)) (kept := [(0, _), (1, _), (5, _)]) (fun (k, f2) => k ≤ l.length ∧ ∀ n, f2 n = potA n ts - potD db n (l.take k)) (fun (k, f2) => [(8, .int k)]) (fun (k, f2) => [.box b5 (arrF 65 (fun x => [inA x]) f2)]) (fun (k, f2) => l.length - k) (0, f) ?_ ⟨gInt rfl (by first | rfl | omega | simp), rfl, rfl, rfl, trivial⟩ (by repeat constructor) ?_
          · skip
            exact ⟨by omega, fun n => by rw [hf n]; simp [potD]⟩
          · rintro ⟨k, f2⟩ ⟨hk, hf2⟩
            refine aSeq ?_
            refine aSeq ?_
            refine aReg ?_
            refine sp pM ?_
            refine sp pM ?_
            refine sp (by first | exact pLm sl_130 | exact pLs sl_130) ?_
            refine sp pB ?_
            refine oNil ?_
            refine aCondDec rfl (fun c101 => ?_) (fun c101 => ?_)
            · skip
              refine aSkip ?_
              refine aSeq ?_
              refine aBlock ?_
              refine aSeq ?_
              obtain ⟨d, hd⟩ : ∃ z, l[k]? = some z := ⟨_, List.getElem?_eq_getElem (by omega)⟩
              refine aReg ?_
              refine sp pM ?_
              refine sp pM ?_
              refine sp pM ?_
              first | refine sp (pIx es_130) ?_ | (refine obtSN 105 106 rfl rfl (by omega) (fun x107 hx107 => ?_); refine sp (pIs es_130 hx107) ?_) | (refine obtS 105 106 rfl rfl (by omega) (by omega) (fun x107 hx107 => ?_); refine sp (pIs es_130 hx107) ?_) | refine sp (pIo es_130) ?_
              refine sr (by first | exact rSW ty_136 rfl | exact rSA ty_136) ?_
              refine sq ?_
              refine ci rfl rfl rfl (ref52_Way (db := db) (d := d) hyes) ?_
              refine sp (by first | exact pLm sl_25 | exact pLs sl_25 | exact pLv sl_25) ?_
              refine sp pB ?_
              refine oNil ?_
              refine aCondDec rfl (fun c111 => ?_) (fun c111 => ?_)
              · skip
                refine aSeq ?_
                have hwr := way_rng (db := db) (d := d) (by omega)
                have hpb := fun n => potA_range (n := n) (B := 824633720832) (by omega) (l := ts) (fun a ha => by have := hts.rng a ha; omega)
                have hpd := fun n => potD_range (db := db) (n := n) (l := l.take k)
                have htl := List.length_take_le' k l
                have hq1 := hpb d.f
                have hq2 := hpb d.t
                have hq3 := hpd d.f
                have hq4 := hpd d.t
                have hq5 := hf2 d.f
                have hq6 := hf2 d.t
                refine aDrawT law52_LoadKeeps_r16_t law52_LoadKeeps_r16_b [19] 20 #[false, false, false, false, false, false, false, false, false, false, false, false, false, false, false, false, false, false, false, false] (by kernel_rfl) rfl rfl (fun HT => ?_)
                refine dp HT 0 rfl pM ?_
                refine dp HT 1 rfl pM ?_
                first | refine dp HT 2 rfl (pIx es_130) ?_ | (refine obtDN 112 113 rfl rfl (by omega) (fun x114 hx114 => ?_); refine dp HT 2 rfl (pIs es_130 hx114) ?_) | (refine obtD 112 113 rfl rfl (by omega) (by omega) (fun x114 hx114 => ?_); refine dp HT 2 rfl (pIs es_130 hx114) ?_) | refine dp HT 2 rfl (pIo es_130) ?_
                refine dp HT 3 rfl (pFs fd_136_0) ?_
                refine dr HT 4 rfl (rS1 ty_3) ?_
                refine dp HT 5 rfl pM ?_
                refine dp HT 6 rfl pM ?_
                first | refine dp HT 7 rfl (pIx es_130) ?_ | (refine obtDN 117 118 rfl rfl (by omega) (fun x119 hx119 => ?_); refine dp HT 7 rfl (pIs es_130 hx119) ?_) | (refine obtD 117 118 rfl rfl (by omega) (by omega) (fun x119 hx119 => ?_); refine dp HT 7 rfl (pIs es_130 hx119) ?_) | refine dp HT 7 rfl (pIo es_130) ?_
                refine dp HT 8 rfl (pFs fd_136_0) ?_
                refine dr HT 9 rfl (rS1 ty_3) ?_
                refine dp HT 10 rfl (pIa ar_132) ?_
                refine dr HT 11 rfl (by first | exact rAr ty_3 | exact rArL ty_3 | exact rArR2 ty_3 | exact rB1 ty_3) ?_
                refine dp HT 12 rfl pM ?_
                refine dp HT 13 rfl pM ?_
                first | refine dp HT 14 rfl (pIx es_130) ?_ | (refine obtDN 124 125 rfl rfl (by omega) (fun x126 hx126 => ?_); refine dp HT 14 rfl (pIs es_130 hx126) ?_) | (refine obtD 124 125 rfl rfl (by omega) (by omega) (fun x126 hx126 => ?_); refine dp HT 14 rfl (pIs es_130 hx126) ?_) | refine dp HT 14 rfl (pIo es_130) ?_
                refine dp HT 15 rfl (pFs fd_136_2) ?_
                refine dr HT 16 rfl (rS1 ty_3) ?_
                refine dp HT 17 rfl pAd ?_
                refine dp HT 18 rfl (pIa ar_132) ?_
                refine dGo ?_
                refine eLast ?_
                refine f1 HT 19 rfl ?_
                first | refine oAr rfl rfl rfl (by repeat constructor) ty_3 ?_ | refine oArL rfl rfl rfl (by repeat constructor) ty_3 ?_ | refine oArR rfl rfl rfl (by repeat constructor) (by first | rfl | exact arrF_len one_len) ty_3 ?_ | refine oStB rfl rfl rfl rfl (by repeat constructor) ty_3 rfl (Nat.le_of_ble_eq_true rfl) rfl ?_
                refine fE HT ?_
                clear HT
                have hub : -1152921504606846976 ≤ (updF f2 d.f (f2 d.f + d.n) d.t) ∧ (updF f2 d.f (f2 d.f + d.n) d.t) ≤ 1152921504606846976 := by
                  unfold updF
                  split <;> omega
                refine aDrawT law52_LoadKeeps_r17_t law52_LoadKeeps_r17_b [19] 20 #[false, false, false, false, false, false, false, false, false, false, false, false, false, false, false, false, false, false, false, false] (by kernel_rfl) rfl rfl (fun HT => ?_)
                refine dp HT 0 rfl pM ?_
                refine dp HT 1 rfl pM ?_
                first | refine dp HT 2 rfl (pIx es_130) ?_ | (refine obtDN 131 132 rfl rfl (by omega) (fun x133 hx133 => ?_); refine dp HT 2 rfl (pIs es_130 hx133) ?_) | (refine obtD 131 132 rfl rfl (by omega) (by omega) (fun x133 hx133 => ?_); refine dp HT 2 rfl (pIs es_130 hx133) ?_) | refine dp HT 2 rfl (pIo es_130) ?_
                refine dp HT 3 rfl (pFs fd_136_1) ?_
                refine dr HT 4 rfl (rS1 ty_3) ?_
                refine dp HT 5 rfl pM ?_
                refine dp HT 6 rfl pM ?_
                first | refine dp HT 7 rfl (pIx es_130) ?_ | (refine obtDN 136 137 rfl rfl (by omega) (fun x138 hx138 => ?_); refine dp HT 7 rfl (pIs es_130 hx138) ?_) | (refine obtD 136 137 rfl rfl (by omega) (by omega) (fun x138 hx138 => ?_); refine dp HT 7 rfl (pIs es_130 hx138) ?_) | refine dp HT 7 rfl (pIo es_130) ?_
                refine dp HT 8 rfl (pFs fd_136_1) ?_
                refine dr HT 9 rfl (rS1 ty_3) ?_
                refine dp HT 10 rfl (pIa ar_132) ?_
                refine dr HT 11 rfl (by first | exact rAr ty_3 | exact rArL ty_3 | exact rArR2 ty_3 | exact rB1 ty_3) ?_
                refine dp HT 12 rfl pM ?_
                refine dp HT 13 rfl pM ?_
                first | refine dp HT 14 rfl (pIx es_130) ?_ | (refine obtDN 143 144 rfl rfl (by omega) (fun x145 hx145 => ?_); refine dp HT 14 rfl (pIs es_130 hx145) ?_) | (refine obtD 143 144 rfl rfl (by omega) (by omega) (fun x145 hx145 => ?_); refine dp HT 14 rfl (pIs es_130 hx145) ?_) | refine dp HT 14 rfl (pIo es_130) ?_
                refine dp HT 15 rfl (pFs fd_136_2) ?_
                refine dr HT 16 rfl (rS1 ty_3) ?_
                refine dp HT 17 rfl pSu ?_
                refine dp HT 18 rfl (pIa ar_132) ?_
                refine dGo ?_
                refine eLast ?_
                refine f1 HT 19 rfl ?_
                first | refine oAr rfl rfl rfl (by repeat constructor) ty_3 ?_ | refine oArL rfl rfl rfl (by repeat constructor) ty_3 ?_ | refine oArR rfl rfl rfl (by repeat constructor) (by first | rfl | exact arrF_len one_len) ty_3 ?_ | refine oStB rfl rfl rfl rfl (by repeat constructor) ty_3 rfl (Nat.le_of_ble_eq_true rfl) rfl ?_
                refine fE HT ?_
                clear HT
                refine aReg ?_
                refine sp pM ?_
                refine sp pAd ?_
                refine sp pMa ?_
                refine oNil ?_
                refine ⟨(k + 1, _), ?_, by (try dsimp only); omega, ⟨gInt rfl (by first | rfl | omega | simp), rfl, rfl, rfl, trivial⟩, _, (by repeat constructor)⟩
                refine ⟨by omega, fun n => ?_⟩
                rw [take_step hd, potD_app, potD_one]
                have hn := hf2 n
                first
                  | (rw [if_neg (by omega)]; omega)
                  | (rw [if_pos (by omega)]
                     have hu := upd_flw2 f2 d.f d.t d.n n
                     omega)
              · skip
                refine aSkip ?_
                refine aReg ?_
                refine sp pM ?_
                refine sp pAd ?_
                refine sp pMa ?_
                refine oNil ?_
                refine ⟨(k + 1, _), ?_, by (try dsimp only); omega, ⟨gInt rfl (by first | rfl | omega | simp), rfl, rfl, rfl, trivial⟩, _, (by repeat constructor)⟩
                refine ⟨by omega, fun n => ?_⟩
                rw [take_step hd, potD_app, potD_one]
                have hn := hf2 n
                first
                  | (rw [if_neg (by omega)]; omega)
                  | (rw [if_pos (by omega)]
                     have hu := upd_flw2 f2 d.f d.t d.n n
                     omega)
            · skip
              refine aExit rfl ?_
              refine aSeq ?_
              refine aSeq ?_
              rw [take_all (by omega)] at hf2
              refine aReg ?_
              refine sp pMa ?_
              refine oNil ?_
              refine aBlock ?_
              refine loopF (α := Nat) (kept := [(5, _)]) (fun n => n ≤ 64) (fun n => [(9, .int ((n + 1 : Nat) : Int))]) (fun n => []) (fun n => 64 - n) 0 ?_ ⟨gInt rfl (by first | rfl | omega | simp), rfl, trivial⟩ (by repeat constructor) ?_
              · skip
                omega
              · rintro n hn
                refine aSeq ?_
                refine aSeq ?_
                refine aReg ?_
                refine sp pM ?_
                refine sp pB ?_
                refine oNil ?_
                refine aCondDec rfl (fun c151 => ?_) (fun c151 => ?_)
                · skip
                  refine aSkip ?_
                  refine aSeq ?_
                  refine aBlock ?_
                  refine aSeq ?_
                  have hz : f2 ((n + 1 : Nat) : Int) = 0 := by rw [hf2, hts.pot]; omega
                  refine aReg ?_
                  refine sp pM ?_
                  refine sp (pIa ar_132) ?_
                  refine sr (by first | exact rAr ty_3 | exact rArL ty_3 | exact rArR2 ty_3 | exact rB1 ty_3) ?_
                  refine sp pB ?_
                  refine oNil ?_
                  refine aCondNe rfl (fun c157 => ?_) (fun c157 => ?_)
                  · skip
                    refine aSeq ?_
                    refine aReg ?_
                    refine sp pMa ?_
                    refine oNil ?_
                    refine aRet ?_
                    exfalso
                    simp_all
                  · skip
                    refine aSkip ?_
                    refine aReg ?_
                    refine sp pM ?_
                    refine sp pAd ?_
                    refine sp pMa ?_
                    refine oNil ?_
                    refine ⟨n + 1, ?_, by (try dsimp only); omega, ⟨gInt rfl (by first | rfl | omega | simp), rfl, trivial⟩, _, (by repeat constructor)⟩
                    omega
                · skip
                  refine aExit rfl ?_
                  refine aSeq ?_
                  refine aReg ?_
                  refine sq ?_
                  refine cv rfl rfl rfl (lents_refl _) law52_awake ?_
                  refine sp pMa ?_
                  refine oNil ?_
                  refine aRet ?_
                  refine finIs rfl ?_
                  rfl
end A
end Go.Proofs.Ytmcannmjielalaa
namespace Go.Proofs.Ytmcannmjielalaa.loadKeeps
open Go.ChangeShapes Go.WideShapes Go.ChangeAt Go.RowKit Go.Proofs.Ytmcannmjielalaa.A
open Go.ChangeMaps (open_string shut_string)
set_option linter.unusedVariables false
theorem own : ownKnob Try.prog.godebug = none := by kernel_rfl
theorem laidOut : laidOutB Try.prog = true := A.laidAll
theorem fInPlace : (Rows.loadKeepsRow.inPlace == Try.prog.inPlace 25) = true := by kernel_rfl
theorem fUnfollowed : (Rows.loadKeepsRow.unfollowed == Try.prog.unfollowed 25) = true := by kernel_rfl
theorem fRecurses : (Rows.loadKeepsRow.recurses == Try.prog.recurses 25) = true := by kernel_rfl
theorem fNamed : (Rows.loadKeepsRow.named == Try.prog.varsNamed 25) = true := by kernel_rfl
theorem closed : joinedFacts Try.prog 25 Try.f25 Rows.loadKeepsSpec Rows.loadKeepsRow = true := by
  unfold joinedFacts
  simp only [Bool.and_eq_true]
  refine ⟨⟨⟨⟨⟨⟨⟨⟨⟨⟨⟨⟨⟨⟨⟨⟨⟨⟨⟨⟨⟨⟨⟨⟨⟨⟨⟨⟨⟨⟨⟨?_, A.laidAll⟩, A.mapsAll⟩, ?_⟩, ?_⟩, ?_⟩, ?_⟩, ?_⟩, ?_⟩, fInPlace⟩, fUnfollowed⟩, fRecurses⟩, fNamed⟩, ?_⟩, ?_⟩, ?_⟩, ?_⟩, ?_⟩, ?_⟩, ?_⟩, ?_⟩, ?_⟩, ?_⟩, ?_⟩, A.stopsAll⟩, A.mayE⟩, by rw [A.lifF]; kernel_rfl⟩, by rw [A.mkC]; kernel_rfl⟩, ?_⟩, ?_⟩, ?_⟩, ?_⟩
  all_goals kernel_rfl
set_option maxRecDepth 100000 in
theorem lifted (os : Os) (started : os.Started) (H : Type) (enc : TypeId × Value → H) :
    ReturnsInHanded {} Try.checked os 25 .any (Rows.loadKeepsSpec.pre6 enc Try.prog Try.f25 Rows.loadKeepsRow.domain false) (Rows.loadKeepsSpec.post enc Try.prog Try.f25 false true false false) := by
  refine returnsInHanded_of_change_sized (C := Try.checked) own started (by kernel_rfl) Try.func25
    (ChangeSpec.witness6 (enc := enc) (C := Try.checked) false ⟨#[], #[.slice none 0 0, .slice none 0 0], []⟩ 8 (by kernel_rfl) (by kernel_rfl) (by kernel_rfl) (by kernel_rfl)) ?_
  intro W base args ds gs before hval0 hW hcnd hsz0 _
  have hval : ∀ (j : Nat) t v, Try.f25.params[j]? = some t → args[j]? = some v → Value.okWide Try.prog W .any base t v := hval0
  have hW' := hW
  obtain ⟨p, q, hA0, hV, rfl, hfz, hnd⟩ := hW
  have hA : DataW.TrodAll enc Try.prog W 0 (fun _ => true) true Try.f25.params.toList args.toList ds p := hA0
  rw [Try.params25] at hA hval
  obtain ⟨v0, vs0, d0, ds0, p0, q0, hargs, rfl, rfl, h0, r0⟩ := trodAll_cons hA
  obtain ⟨v1, vs1, d1, ds1, p1, q1, rfl, rfl, rfl, h1, r1⟩ := trodAll_cons r0
  obtain ⟨rfl, rfl, rfl⟩ := trodAll_nil r1
  obtain rfl : args = #[v0, v1] := by cases args; simp_all
  obtain ⟨rfl, rfl⟩ := trodVars_none hV
  have k0 := h0
  have lt0 : ∀ x ∈ p0, x.block < W.heap.size := by obtain ⟨m, hm⟩ := k0; exact DataW.trod_lt m _ _ _ hm
  have one0 : v0.oneCell' = true := by obtain ⟨_, _, _, rfl⟩ := okWide_slice Try.underlying55 (hval 0 55 v0 rfl rfl); rfl
  obtain ⟨a0, w0, rep0⟩ := argOne (opSlice Try.underlying55 (by kernel_rfl) (by decide) op_Lsa) one0 h0
  have k1 := h1
  have lt1 : ∀ x ∈ p1, x.block < W.heap.size := by obtain ⟨m, hm⟩ := k1; exact DataW.trod_lt m _ _ _ hm
  have one1 : v1.oneCell' = true := by obtain ⟨_, _, _, rfl⟩ := okWide_slice Try.underlying130 (hval 1 130 v1 rfl rfl); rfl
  obtain ⟨a1, w1, rep1⟩ := argOne (opSlice Try.underlying130 (by kernel_rfl) (by decide) op_Demand) one1 h1
  refine (law_calls (law52_LoadKeeps (db := a0) (l := a1) w0.2 w1.2) (reps_cons rep0 (reps_cons rep1 reps_nil))).mono fun e W' ⟨he, bel⟩ => ?_
  subst he
  exact ⟨_, rfl, _, _, _, [], _, [], hW', trodAll_mk1 (shut_bool Try.underlying4 _), (trodAll_cons_mk (Below.trod laidOut (by kernel_rfl) (of_decide_eq_true (by kernel_rfl)) k0 bel lt0) (trodAll_cons_mk (Below.trod laidOut (by kernel_rfl) (of_decide_eq_true (by kernel_rfl)) k1 bel lt1) trodAll_mk0)), rfl, bel.frame _, fun h => by cases h⟩
theorem over : Rows.loadKeepsRow.holds Try.pinned (OpenSpec.ofChange Rows.loadKeepsSpec) :=
  OpenClaim.holds_of_wide 25 Try.f25 rfl rfl rfl rfl rfl rfl rfl ⟨rfl, rfl, rfl, rfl, rfl⟩ rfl rfl rfl rfl rfl (by kernel_rfl) Try.func25 closed
    (of_decide_eq_true (by kernel_rfl)) (by unfold Func.isWrapper; first | (rw [if_pos (by decide +kernel)]; kernel_rfl) | (rw [if_neg (by decide +kernel)]; exact ⟨rfl, rfl⟩))
    (fun os started H enc _ => lifted os started H enc)
theorem proved : Rows.LoadKeepsSaid := over
#print axioms proved
end Go.Proofs.Ytmcannmjielalaa.loadKeeps
