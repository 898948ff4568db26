/- Texts that BridgeFinds's proof rests on, part 14. -/
import Derived.Shelf.SlSortCmp.NoneTotal
import Derived.Shelf.SlSortCmp.WholeK
import Derived.Test.YtnabkchagjjjnaaS12BridgeFinds
set_option linter.unusedVariables false
set_option linter.unusedSimpArgs false
namespace Go.Proofs.Ytnabkchagjjjnaa
namespace A
open Go.Sort Go.Shelf Go.Lib Go.RowKit
theorem run_enter {P : Program} {g : FuncId} (hb : HasBody P g) (args : Array Value) (w : World) : (callFunc g args).run P w = .ok (.enter g args) w := by
  obtain ⟨fn, h1, h2, h3⟩ := hb
  have hn' : ¬ fn.name = "runtime.NumGoroutine" := by simpa using h2
  have hb' : ¬ fn.body = none := fun h => by rw [h] at h3; cases h3
  simp [callFunc, h1, hn', hb']
theorem rep_v {F : Nat → Prop} {w : World} {x y : Value} (h : Rep F w (.v x) y) : y = x := by cases h; rfl
theorem heap_sortedK {w : World} {b n : Nat} {os : Array Obj} {cur D : Array Value} {e : TypeId} (hb : w.heap[b]? = some (.cells cur e (0, 0))) :
    (grow (putRow id (Sort.ahead w n) b 0 D) os).heap[b]? = some (.cells (putCells id 0 D cur) e (0, 0)) := by
  have hg : b < w.heap.size := (Array.getElem?_eq_some_iff.1 hb).1
  rw [heap_grow_old _ _ (by simpa using hg)]
  simp [putRow, mapBlock, Sort.ahead, Array.getElem?_modify, hb, onCells]
theorem grownBy_sortedK {w : World} {b n : Nat} {os : Array Obj} (D : Array Value) : w.grownBy (grow (putRow id (Sort.ahead w n) b 0 D) os) (some b) := by
  refine ⟨rfl, rfl, rfl, by simp, fun k hk hne => ?_⟩
  rw [heap_grow_old _ _ (by simpa using hk)]
  have : b ≠ k := fun e => hne (by rw [e])
  simp [putRow, mapBlock, Sort.ahead, Array.getElem?_modify, this]
theorem take_putCellsK (cur D : Array Value) (h : D.size ≤ cur.size) : (putCells id 0 D cur).toList.take D.size = D.toList := by
  apply List.ext_getElem?
  intro j
  by_cases hj : j < D.size
  · rw [List.getElem?_take_of_lt hj, Array.getElem?_toList]
    simp [putCells, hj, show j < cur.size by omega]
  · rw [List.getElem?_take_eq_none (by omega), List.getElem?_eq_none (by simp; omega)]
theorem cmp_lays {α : Type} [Inhabited α] {P : Program} {g : FuncId} {fC : α → List AV} {enc : α → List Value} {k : Nat} {cf : α → α → Int} {b size : Nat} {w : World} (hfe : ∀ x, fC x = (enc x).map .v) (h1 : ∀ x, ∀ v ∈ enc x, v.oneCell' = true)
    (hT : ∀ x y, Triple P g [.agg (fC x), .agg (fC y)] [] (Is (.int (cf x y)) [])) : CmpLays P g #[] enc k cf b 0 size w := by
  intro m os dk hs x y
  have hagg : ∀ z, Rep (fun _ => False) (sortWorldK enc k w b 0 m dk os) (.agg (fC z)) (.agg (enc z).toArray) := fun z => by
    refine .agg _ _ (by rw [hfe]; simp) (fun v hv => h1 z v (by simpa using hv)) (fun j av v hj hv => ?_)
    rw [hfe, List.getElem?_map, Option.map_eq_some_iff] at hj
    obtain ⟨u, hu, rfl⟩ := hj
    have : (enc z)[j]? = some v := by simpa using hv
    rw [hu] at this
    cases this
    exact .v _
  refine ((hT x y).2 (fun _ => False) (sortWorldK enc k w b 0 m dk os) #[.agg (enc x).toArray, .agg (enc y).toArray] ⟨fun x hx => by simp at hx, by simp, fun b hb => by simp at hb, fun b hb => hb.elim⟩ ?_).mono ?_
  · exact reps_cons (vs := [.agg (enc y).toArray]) (hagg x) (reps_cons (vs := []) (hagg y) reps_nil)
  · rintro ex w' ⟨r, v, h', F', rfl, ⟨rfl, rfl⟩, hr, hR, hE⟩
    have := rep_v hr
    subst this
    generalize hW : sortWorldK enc k w b 0 m dk os = W at hE
    refine ⟨rfl, w'.drawn - W.drawn, w'.heap.extract W.heap.size w'.heap.size, ?_⟩
    have hd := hE.dr
    have hh : w'.heap = W.heap ++ w'.heap.extract W.heap.size w'.heap.size := by
      apply Array.ext_getElem?
      intro j
      by_cases hj : j < W.heap.size
      · rw [Array.getElem?_append_left hj]
        exact hE.keep j hj (by simp)
      · rw [Array.getElem?_append_right (by omega), Array.getElem?_extract]
        by_cases hj2 : j < w'.heap.size
        · rw [if_pos (by omega)]
          congr 1
          omega
        · rw [if_neg (by omega), Array.getElem?_eq_none (by omega)]
    obtain ⟨hp, tp, dr, ww, ou⟩ := w'
    obtain ⟨hp0, tp0, dr0, ww0, ou0⟩ := W
    have e1 := hE.os
    have e2 := hE.output
    have e3 := hE.tape
    simp only at e1 e2 e3 hd hh
    subst e1
    subst e2
    subst e3
    simp only [grow, World.drewN, World.mk.injEq, true_and, and_true]
    exact ⟨hh, by omega⟩
theorem mul_add_div {i j k : Nat} (h : j < k) : (i * k + j) / k = i := by
  rw [Nat.mul_comm, Nat.mul_add_div (by omega), Nat.div_eq_of_lt h, Nat.add_zero]
theorem mul_add_mod {i j k : Nat} (h : j < k) : (i * k + j) % k = j := by
  rw [Nat.mul_comm, Nat.mul_add_mod, Nat.mod_eq_of_lt h]
theorem triple_sortFunc {α : Type} [Inhabited α] {P : Program} {ρ : Ren} {f g : FuncId} (L : SlLaysF0.n6 P ρ) (hf : ρ.f 6 = f) (hb : HasBody P f) {k t : Nat} (ht : ρ.t 24 = t) (hty : tyOf P t = some (k, true)) (h0 : 0 < k) {fC : α → List AV} (enc : α → List Value) (hfe : ∀ x, fC x = (enc x).map .v) (hk : ∀ x, (enc x).length = k) (h1 : ∀ x, ∀ v ∈ enc x, v.oneCell' = true)
    (cf : α → α → Int) (hO : SWO (ltOf cf)) (hT : ∀ x y, Triple P g [.agg (fC x), .agg (fC y)] [] (Is (.int (cf x y)) [])) (hg : HasBody P g) (gg : Option Nat) (c e : Nat) (ws : List α) (hz : ws.length < 4611686018427387904) :
    Triple P f [.v (slV gg ws.length c), .fn (.func g) []] [.sl gg c e k (ws.map fC)] (fun r h' => ∃ ts : List α, ts.Perm ws ∧ ts.Pairwise (fun x y => ltOf cf y x = false) ∧ r = .tup [] ∧ h' = [.sl gg c e k (ts.map fC)]) := by
  subst hf
  subst ht
  refine ⟨hb, fun F w vs hR hreps => ?_⟩
  obtain ⟨hv1, hv2⟩ := hreps
  obtain ⟨x, y, rfl⟩ : ∃ x y, vs = #[x, y] := by
    match vs, hv1 with
    | ⟨[x, y]⟩, _ => exact ⟨x, y, rfl⟩
  have hx := hv2 0 _ x rfl rfl
  have hy := hv2 1 _ y rfl rfl
  have hx := rep_v hx
  subst hx
  obtain rfl : y = .func (.func g) #[] #[] := by
    cases hy with
    | fn _ _ cx hcl _ =>
      obtain rfl : cx = #[] := Array.eq_empty_of_size_eq_zero (by simpa using hcl)
      rfl
  have hha := hR.rep _ (List.mem_singleton.2 rfl)
  have hlen : (ws.map fC).length = ws.length := List.length_map _
  have aE : ∀ w, (isAgg (ρ.t 24)).run P w = .ok true w := fun w => run_isAgg hty w
  have zE : ∀ w, (Go.sizeOf (ρ.t 24)).run P w = .ok k w := fun w => run_sizeOf hty w
  match gg with
  | none =>
    have hn : ws = [] := by
      obtain ⟨xs, ho, _⟩ := hha
      rcases ho.2 with ⟨_, h⟩ | ⟨b, _, _, h, _⟩
      · exact List.eq_nil_of_length_eq_zero (by simpa using h)
      · simp [slV] at h
    subst hn
    refine (AnyF.slices_SortFunc_none L none c (.func (.func g) #[] #[]) w).mono ?_
    rintro ex w' ⟨rfl, rfl⟩
    exact ⟨.tup [], .tuple #[], _, F, rfl, ⟨[], .nil, .nil, rfl, rfl⟩, .tup _ _ rfl (fun j av x hj => by simp at hj), hR, .refl _ _ _⟩
  | some b =>
    obtain ⟨cur, hg0, hnc, hcm, hcs, hyz, hrest⟩ := row_of hha
    obtain ⟨xs, hxl, _, hx1, hxc, hxr⟩ := own_cells hha
    rw [hlen] at hxl hnc
    have hflat : ∀ j, j < ws.length * k → xs[j]? = some ((flatK enc k ws.toArray)[j]!) := fun j hj => by
      have hjx : j < xs.length := by omega
      have hi : j / k < ws.length := by rw [Nat.div_lt_iff_lt_mul h0]; exact hj
      have hm : j % k < k := Nat.mod_lt _ h0
      have e1 : (ws.map fC)[j / k]? = some (fC ws[j / k]) := by simp [hi]
      have e2 : (fC ws[j / k])[j % k]? = some (.v ((enc ws[j / k])[j % k]'(by rw [hk]; exact hm))) := by rw [hfe]; simp [hk, hm]
      have e3 : xs[j / k * k + j % k]? = some xs[j] := by rw [Nat.div_add_mod']; exact List.getElem?_eq_getElem hjx
      have := rep_v (hxr _ _ _ _ _ e1 e2 e3)
      rw [List.getElem?_eq_getElem hjx, this, get_flatK _ _ _ _ (by simpa using hj)]
      simp [hi, hk, hm]
    have hH : HoldsK enc k w b 0 ws.toArray := by
      intro j hj
      have hj' : j < ws.length * k := by simpa using hj
      refine ⟨?_, by simp [World.frozen?, hg0]⟩
      rw [Nat.zero_add]
      exact hxc j _ (hflat j hj')
    have hlt : b < w.heap.size := hR.lt b (by simp [HA.own])
    refine (AnyQ.slices_SortFunc L k aE zE enc hk h1 cf hO g #[] b 0 c ws.toArray w (run_enter hg) (cmp_lays hfe h1 hT) hH hlt (by simpa using hz)).mono ?_
    rintro ex w' ⟨rfl, d', n, os, hp, hs, rfl⟩
    have hsz : d'.size = ws.length := by simpa using hp.1
    have hperm : d'.toList.Perm ws := by
      have := hp.2.2
      simp only [List.size_toArray] at this
      simp only [Array.toList_extract, List.drop_zero, List.extract_eq_take_drop, Nat.sub_zero] at this
      rw [List.take_of_length_le (by simp [hsz]), List.take_of_length_le (by simp)] at this
      exact this
    have hpair : d'.toList.Pairwise (fun x y => ltOf cf y x = false) := by
      rw [List.pairwise_iff_getElem]
      intro i j hi hj hij
      have hj' : j < d'.size := by simpa using hj
      have := hs i j (Nat.zero_le _) hij (by simpa [hsz] using hj')
      rw [getElem!_pos d' j hj', getElem!_pos d' i (by omega)] at this
      simpa using this
    have hgr := grownBy_sortedK (n := n) (os := os) (b := b) (w := w) (flatK enc k d')
    have hset : ∀ k', F k' → (grow (putRow id (Sort.ahead w n) b 0 (flatK enc k d')) os).heap[k']? = w.heap[k']? := fun k' hk' => hgr.block k' (hR.sep k' hk').1 (fun e => (hR.sep k' hk').2 (by simp at e; simp [HA.own, e]))
    have hfs : (flatK enc k d').size = ws.length * k := by simp [hsz]
    have hcap : (flatK enc k d').size ≤ cur.size := by rw [hfs, hcs]; exact Nat.mul_le_mul_right _ hnc
    refine ⟨.tup [], .tuple #[], _, F, rfl, ⟨d'.toList, hperm, hpair, rfl, rfl⟩, .tup _ _ rfl (fun j av x hj => by simp at hj), ⟨fun y hy => ?_, by simp [HA.own], fun k' hk' => ?_, fun k' hk' => ⟨Nat.lt_of_lt_of_le (hR.sep k' hk').1 hgr.size, fun hm => (hR.sep k' hk').2 (by simpa [HA.own] using hm)⟩⟩, ⟨hgr.os, hgr.output, hgr.tape, hgr.size, fun k' hk' hn => hgr.block k' hk' (fun e => hn (by simp at e; simp [HA.own, e])), fun k' hk' => .inl (by simpa [HA.own] using hk'), fun _ h => h, fun _ h => .inl h, by show w.drawn ≤ w.drawn + n; omega⟩⟩
    · rw [List.mem_singleton] at hy
      subst hy
      have e1 : (d'.toList.map fC).length = ws.length := by simp [hsz]
      have hget : ∀ i j v, i < ws.length → j < k → (flatK enc k d').toList[i * k + j]? = some v → ∃ u, d'[i]? = some u ∧ (enc u)[j]? = some v := fun i j v hi hj hv => by
        have hlt2 : i * k + j < d'.size * k := by rw [hsz]; exact idx_lt hi hj
        rw [Array.getElem?_toList, Array.getElem?_eq_getElem (by simpa using hlt2)] at hv
        have hv := Option.some.inj hv
        rw [← getElem!_pos (flatK enc k d') (i * k + j) (by simpa using hlt2), get_flatK _ _ _ _ hlt2, mul_add_div hj, mul_add_mod hj] at hv
        refine ⟨d'[i]!, by rw [getElem!_pos d' i (by omega)]; exact Array.getElem?_eq_getElem (by omega), ?_⟩
        rw [← hv, getElem!_pos (enc d'[i]!) j (by rw [hk]; exact hj)]
        exact List.getElem?_eq_getElem _
      refine ⟨(flatK enc k d').toList, ⟨by rw [Array.length_toList, hfs, e1], .inr ⟨b, c, _, by rw [e1]; rfl, Nat.zero_le _, heap_sortedK hg0, by rw [e1]; exact hnc, hcm, by simp [putCells, hcs], ?_⟩⟩, fun y hy => ?_, fun x hx => ?_, ?_⟩
      · rw [e1, ← hfs]; exact take_putCellsK cur _ hcap
      · obtain ⟨z, _, rfl⟩ := List.mem_map.1 hy; rw [hfe]; simp [hk]
      · obtain ⟨j, hj⟩ := List.mem_iff_getElem?.1 hx
        have hj2 : j < ws.length * k := by have := (List.getElem?_eq_some_iff.1 hj).1; simpa [hsz] using this
        have hm : j % k < k := Nat.mod_lt _ h0
        have := hget (j / k) (j % k) x (by rw [Nat.div_lt_iff_lt_mul h0]; exact hj2) hm (by rw [Nat.div_add_mod']; exact hj)
        obtain ⟨u, _, hu⟩ := this
        exact h1 u x (List.mem_of_getElem? hu)
      · intro i j y av x hi hj hx
        rw [List.getElem?_map, Option.map_eq_some_iff] at hi
        obtain ⟨z, hz, rfl⟩ := hi
        have hil : i < ws.length := by have := (List.getElem?_eq_some_iff.1 hz).1; simpa [hsz] using this
        rw [hfe, List.getElem?_map, Option.map_eq_some_iff] at hj
        obtain ⟨u, hu, rfl⟩ := hj
        have hjk : j < k := by have := (List.getElem?_eq_some_iff.1 hu).1; rwa [hk] at this
        obtain ⟨z', hz', hx'⟩ := hget i j x hil hjk hx
        have : z' = z := by
          rw [Array.getElem?_toList] at hz
          rw [hz] at hz'
          exact (Option.some.inj hz').symm
        subst this
        rw [hu] at hx'
        cases hx'
        exact .v _
    · have : k' = b := by simpa [HA.own] using hk'
      subst this
      exact Nat.lt_of_lt_of_le hlt hgr.size
end A
end Go.Proofs.Ytnabkchagjjjnaa
set_option linter.unusedVariables false
set_option linter.unusedSimpArgs false
set_option linter.unusedSectionVars false
namespace Go.Proofs.Ytnabkchagjjjnaa
namespace A
variable {P : Program} {N : Nat} {env : Env} {h : List HA} {K : Cont} {X : List (Nat × Cont)} {Rt : Cont}
abbrev FamL := List (Option Nat × Nat × List (List AV))
theorem own_slG (g : Option Nat) (c : Nat) (e : TypeId) (sz : Nat) (es : List (List AV)) : (HA.sl g c e sz es).own = gOwn g := by cases g <;> rfl
theorem own_fam (e : TypeId) (sz : Nat) (L : FamL) : (HA.fam e sz L).own = L.flatMap fun p => gOwn p.1 := rfl
theorem own_famC (e : TypeId) (sz : Nat) (p : Option Nat × Nat × List (List AV)) (L : FamL) : (HA.fam e sz (p :: L)).own = gOwn p.1 ++ (HA.fam e sz L).own := by rw [own_fam, own_fam, List.flatMap_cons]
theorem own_famP {e : TypeId} {sz : Nat} {L L' : FamL} (hp : L.Perm L') : ((HA.fam e sz L).own).Perm (HA.fam e sz L').own := hp.flatMap_right _
/-- The heap read otherwise: what is owned is the same, and all stands for what it says. -/
theorem weak_same {h' : List HA} (ho : (owns h).Perm (owns h')) (hx : ∀ F w, (∀ x ∈ h, HARep F w x) → ∀ x ∈ h', HARep F w x) : Weak N env h env h' := fun F a w s =>
  ⟨F, ⟨s.r.same (ho.nodup_iff.1 s.r.nd) (fun b hb => ho.mem_iff.2 hb) (hx F w s.r.rep), s.size, s.env⟩, .same (fun b hb => ho.mem_iff.2 hb)⟩
theorem weak_famNew (e : TypeId) (sz : Nat) : Weak N env h env (.fam e sz [] :: h) :=
  weak_same (.refl _) (fun F w hh x hx => by
    rcases List.mem_cons.1 hx with rfl | hx
    · exact fun p hp => by simp at hp
    · exact hh x hx)
theorem famTake_same {e : TypeId} {sz : Nat} {L L' : FamL} {g : Option Nat} {c : Nat} {es : List (List AV)} {h' : List HA} (hs : Spl h (.fam e sz L) h') (hp : L.Perm ((g, c, es) :: L')) : (owns h).Perm (owns (.sl g c e sz es :: .fam e sz L' :: h')) ∧ ∀ F w, (∀ x ∈ h, HARep F w x) → ∀ x ∈ (HA.sl g c e sz es :: .fam e sz L' :: h'), HARep F w x := by
  refine ⟨?_, fun F w hh x hx => ?_⟩
  · refine (owns_perm hs.perm).trans ?_
    rw [owns_cons, owns_cons, owns_cons, own_slG, ← List.append_assoc, ← own_famC e sz (g, c, es) L']
    exact (own_famP hp).append_right _
  · have hf : HARep F w (.fam e sz L) := hh _ (spl_mem hs)
    rcases List.mem_cons.1 hx with rfl | hx
    · exact hf (g, c, es) (hp.mem_iff.2 (by simp))
    · rcases List.mem_cons.1 hx with rfl | hx
      · exact fun p hp' => hf p (hp.mem_iff.2 (List.mem_cons_of_mem _ hp'))
      · exact hh x (hs.perm.mem_iff.2 (List.mem_cons_of_mem _ hx))
theorem weak_famTake {e : TypeId} {sz : Nat} {L L' : FamL} {g : Option Nat} {c : Nat} {es : List (List AV)} {h' : List HA} (hs : Spl h (.fam e sz L) h') (hp : L.Perm ((g, c, es) :: L')) : Weak N env h env (.sl g c e sz es :: .fam e sz L' :: h') :=
  weak_same (famTake_same hs hp).1 (famTake_same hs hp).2
theorem weak_famPut {e : TypeId} {sz : Nat} {L L' : FamL} {g : Option Nat} {c : Nat} {es : List (List AV)} {h' : List HA} (hs : Tk h [.sl g c e sz es, .fam e sz L] h') (hp : ((g, c, es) :: L).Perm L') : Weak N env h env (.fam e sz L' :: h') := by
  refine weak_same ?_ (fun F w hh x hx => ?_)
  · refine (owns_perm hs.perm).trans ?_
    rw [owns_append, owns_cons, owns_cons, owns_nil, List.append_nil, owns_cons, own_slG, ← own_famC e sz (g, c, es) L]
    exact (own_famP hp).append_right _
  · have hm : ∀ x, x ∈ ([.sl g c e sz es, .fam e sz L] : List HA) ++ h' → x ∈ h := fun x hx => hs.perm.mem_iff.2 hx
    have h1 : HARep F w (.sl g c e sz es) := hh _ (hm _ (by simp))
    have h2 : HARep F w (.fam e sz L) := hh _ (hm _ (by simp))
    rcases List.mem_cons.1 hx with rfl | hx
    · intro p hp'
      rcases List.mem_cons.1 (hp.mem_iff.2 hp') with rfl | hp'
      · exact h1
      · exact h2 p hp'
    · exact hh x (hm x (List.mem_append_right _ hx))
section
variable {α : Type} {e : TypeId} {sz : Nat} {f : α → List AV}
def famL (f : α → List AV) (m : List (Int × SlE α)) : FamL := m.map fun p => (p.2.g, p.2.c, p.2.l.map f)
/-- The slice at a key, nil where there is none, is taken out. -/
theorem weak_famAt {m : List (Int × SlE α)} {h' : List HA} (n : Int) (hs : Spl h (.fam e sz (famL f m)) h' := by repeat constructor) : Weak N env h env (.sl (slAt m n).g (slAt m n).c e sz ((slAt m n).l.map f) :: .fam e sz (famL f (mDel m n)) :: h') := by
  unfold slAt
  cases hm : mGet m n with
  | none =>
    rw [mDel_none hm]
    exact (weak_perm hs.perm).trans (weak_nil e sz)
  | some s => exact weak_famTake hs ((mDel_perm hm).map (fun p : Int × SlE α => (p.2.g, p.2.c, p.2.l.map f)))
/-- Another one is put at its key. -/
theorem weak_famSet {m : List (Int × SlE α)} {h' : List HA} {g : Option Nat} {c : Nat} {l : List α} (n : Int) (hs : Tk h [.sl g c e sz (l.map f), .fam e sz (famL f (mDel m n))] h' := by repeat constructor) : Weak N env h env (.fam e sz (famL f (mPut m n ⟨g, c, l⟩)) :: h') :=
  weak_famPut hs ((mPut_perm (n := n) (v := (⟨g, c, l⟩ : SlE α)) (m := m)).map (fun p : Int × SlE α => (p.2.g, p.2.c, p.2.l.map f))).symm
end
end A
end Go.Proofs.Ytnabkchagjjjnaa
set_option linter.unusedVariables false
set_option linter.unusedSimpArgs false
set_option linter.unusedSectionVars false
namespace Go.Proofs.Ytnabkchagjjjnaa
namespace A
open Go.Lib Go.RowKit
variable {P : Program} {N : Nat} {env : Env} {h : List HA} {K : Cont} {X : List (Nat × Cont)} {Rt : Cont}
section
variable {α : Type} {e : TypeId} {sz : Nat} {f : α → List AV}
theorem weak_settleMSh {b : Nat} {m : List (Int × SlE α)} {h' : List HA} : Weak N env (.map b (kvM slE m) :: (msH e sz f m ++ h')) env (.map b (kvM (slS sz f) (msL m)) :: h') := by
  have key : ∀ (pre : List (Int × AV)) (m : List (Int × SlE α)), Weak N env (.map b (pre ++ kvM slE m) :: (msH e sz f m ++ h')) env (.map b (pre ++ kvM (slS sz f) (msL m)) :: h') := fun pre m => by
    induction m generalizing pre with
    | nil => exact weak_refl
    | cons p t ih =>
      obtain ⟨k, s⟩ := p
      have h1 : (pre ++ kvM slE ((k, s) :: t))[pre.length]? = some (k, .v (slV s.g s.l.length s.c)) := by
        rw [List.getElem?_append_right (Nat.le_refl _), Nat.sub_self]; rfl
      refine (weak_settleE (b := b) (e := e) (sz := sz) (es := s.l.map f) (h' := msH e sz f t ++ h') (.refl _) h1 (by rw [List.length_map])).trans ?_
      have h2 : (pre ++ kvM slE ((k, s) :: t)).set pre.length (k, .sl sz (s.l.map f)) = (pre ++ [(k, slS sz f s.l)]) ++ kvM slE t := by
        rw [List.set_append_right _ _ (Nat.le_refl _), Nat.sub_self, List.append_assoc]
        rfl
      rw [h2]
      have h3 : pre ++ kvM (slS sz f) (msL ((k, s) :: t)) = (pre ++ [(k, slS sz f s.l)]) ++ kvM (slS sz f) (msL t) := by
        rw [List.append_assoc]; rfl
      rw [h3]
      exact ih _
  have := key [] m
  simpa using this
theorem weak_famSettle {b : Nat} {m : List (Int × SlE α)} {h' : List HA} (hs : Tk h [.map b (kvM slE m), .fam e sz (famL f m)] h') : Weak N env h env (.map b (kvM (slS sz f) (msL m)) :: h') := by
  refine Weak.trans (weak_same (h' := .map b (kvM slE m) :: (msH e sz f m ++ h')) ?_ (fun F w hh x hx => ?_)) weak_settleMSh
  · refine (owns_perm hs.perm).trans ?_
    refine List.Perm.of_eq ?_
    rw [owns_append, owns_cons, owns_cons, owns_cons, owns_append, owns_nil, List.append_nil, List.append_assoc]
    congr 2
    rw [own_fam]
    unfold famL msH slH owns
    rw [List.flatMap_map, List.flatMap_map]
    clear hs
    induction m with
    | nil => rfl
    | cons p t ih =>
      rw [List.flatMap_cons, List.flatMap_cons, ih]
      congr 1
      cases hg : p.2.g <;> simp [gOwn, HA.own, hg]
  · have hm : ∀ x, x ∈ ([.map b (kvM slE m), .fam e sz (famL f m)] : List HA) ++ h' → x ∈ h := fun x hx => hs.perm.mem_iff.2 hx
    rcases List.mem_cons.1 hx with rfl | hx
    · exact hh _ (hm _ (by simp))
    · rcases List.mem_append.1 hx with hx | hx
      · obtain ⟨p, hp, rfl⟩ := List.mem_map.1 hx
        have hf : HARep F w (.fam e sz (famL f m)) := hh _ (hm _ (by simp))
        exact hf (p.2.g, p.2.c, p.2.l.map f) (List.mem_map.2 ⟨p, hp, rfl⟩)
      · exact hh x (hm x (List.mem_append_right _ hx))
end
theorem rLm {o : Oper} {t kt et : TypeId} {xo : Operand} {b : Nat} {β : Type} {c : β → AV} {m : List (Int × β)} {h' : List HA} (hm : mapOf P t = some (kt, et)) (ho : o.op = .call ⟨.builtin .len, #[xo], #[t]⟩ := by rfl) (hx : ev env xo = some (.v (.map (some b))) := by rfl) (hs : Spl h (.map b (kvM c m)) h' := by repeat constructor) : ARead P N o env h (.int m.length) := by
  have := rLenM (P := P) (N := N) ho hx hs hm
  rwa [kvM_len] at this
end A
end Go.Proofs.Ytnabkchagjjjnaa
set_option linter.unusedVariables false
set_option linter.unusedSimpArgs false
namespace Go.Proofs.Ytnabkchagjjjnaa
namespace A
theorem fd_99_0 : fieldOf Try.prog 99 0 = some (0, 1, false) := by kernel_rfl
theorem mo_95 : mapOf Try.prog 95 = some (3, 56) := by kernel_rfl
theorem st_99 : structPlaces Try.prog 99 = some [(0, 1), (1, 1), (2, 1), (3, 1), (4, 1)] := by kernel_rfl
theorem ze_56 : zeroOf Try.prog 56 = some (.slice none 0 0) := by kernel_rfl
theorem ze_99 : zeroOf Try.prog 99 = some (.agg #[.map none, .map none, .map none, .slice none 0 0, .map none]) := by kernel_rfl
def incF (w : List Ed) (n : Int) : List Ed := w.filter fun e => e.a == n || e.b == n
theorem incF_step {w : List Ed} {i : Nat} {e : Ed} (h : w[i]? = some e) (hne : e.a ≠ e.b) (n : Int) : incF (w.take (i + 1)) n = if n = e.b then (if n = e.a then incF (w.take i) n ++ [e] else incF (w.take i) n) ++ [e] else if n = e.a then incF (w.take i) n ++ [e] else incF (w.take i) n := by
  unfold incF
  rw [take_step h, List.filter_append, List.filter_cons, List.filter_nil]
  by_cases h1 : n = e.b
  · rw [if_pos h1, if_neg (show ¬ n = e.a by omega), if_pos (by simp [h1])]
  · rw [if_neg h1]
    by_cases h2 : n = e.a
    · rw [if_pos h2, if_pos (by simp [h2])]
    · rw [if_neg h2, if_neg (by simp; omega), List.append_nil]
theorem incF_len (w : List Ed) (n : Int) (i : Nat) : (incF (w.take i) n).length ≤ i := by
  unfold incF
  refine Nat.le_trans (List.length_filter_le _ _) ?_
  rw [List.length_take]
  omega
abbrev BX (sb eb fb lb jb : Nat) (g : Option Nat) (n c : Nat) : HA := .box sb [.v (.map (some eb)), .v (.map (some fb)), .v (.map (some lb)), .v (slV g n c), .v (.map (some jb))]
/- bridge.begin -/
def br_begin_r5_T : Bool × List (List Nat × List Nat) := (true, [([], []), ([0], [0]), ([1], [1]), ([2], [2]), ([], []), ([4], [4]), ([], []), ([6], [6]), ([7], [7]), ([8], [8]), ([], []), ([10], [10]), ([9, 11], [9, 11]), ([], []), ([13], [13]), ([12, 14], [12, 14]), ([3, 5, 15, 15, 0, 1, 2, 3, 4, 5, 6, 7, 8, 9, 10, 11, 12, 13, 14, 15], [3, 5, 15])])
def br_begin_r5_B : List Nat := [0, 1, 3, 7, 0, 16, 0, 64, 192, 448, 0, 1024, 4032, 0, 8192, 32704, 65535]
theorem br_begin_r5_t : Go.Proofs.YtnabkchagjjjnaaW.PrintLast.rtab .any (Go.Proofs.YtnabkchagjjjnaaW.PrintLast.opsOf Try.f57 5) = br_begin_r5_T := by kernel_rfl
theorem br_begin_r5_b : Go.Proofs.YtnabkchagjjjnaaW.PrintLast.waitsOk br_begin_r5_T.2 br_begin_r5_B = true := by kernel_rfl
def br_begin_r6_T : Bool × List (List Nat × List Nat) := (true, [([], []), ([0], [0]), ([1], [1]), ([2], [2]), ([], []), ([4], [4]), ([], []), ([6], [6]), ([7], [7]), ([8], [8]), ([], []), ([10], [10]), ([9, 11], [9, 11]), ([], []), ([13], [13]), ([12, 14], [12, 14]), ([3, 5, 15, 15, 0, 1, 2, 3, 4, 5, 6, 7, 8, 9, 10, 11, 12, 13, 14, 15], [3, 5, 15])])
def br_begin_r6_B : List Nat := [0, 1, 3, 7, 0, 16, 0, 64, 192, 448, 0, 1024, 4032, 0, 8192, 32704, 65535]
theorem br_begin_r6_t : Go.Proofs.YtnabkchagjjjnaaW.PrintLast.rtab .any (Go.Proofs.YtnabkchagjjjnaaW.PrintLast.opsOf Try.f57 6) = br_begin_r6_T := by kernel_rfl
theorem br_begin_r6_b : Go.Proofs.YtnabkchagjjjnaaW.PrintLast.waitsOk br_begin_r6_T.2 br_begin_r6_B = true := by kernel_rfl
set_option maxRecDepth 100000 in
set_option maxHeartbeats 4000000 in
theorem br_begin {w : List Ed} (hw : w.length ≤ 1000000) (hne : ∀ e ∈ w, e.a ≠ e.b) : Triple Try.prog 57 [.sl 3 (w.map edC)] [] (fun q h' => ∃ (sb eb fb lb jb : Nat) (em : List (Int × List Ed)), q = .v (.pointer (some ⟨sb, 0, none⟩)) ∧ h' = [BX sb eb fb lb jb none 0 0, .map eb (kvM (slS 3 edC) em), .map fb (kvM inA []), .map lb (kvM inA []), .map jb (kvM boA []), .sl none 0 86 3 (([] : List Ed).map edC)] ∧ (∀ n, (mGet em n).getD [] = incF w n) ∧ (mKeys em).Nodup ∧ ∀ n, n ∈ mKeys em ↔ ∃ e ∈ w, e.a = n ∨ e.b = n) := by
  refine triple_of Try.func57 rfl (by kernel_rfl) rfl (by simp) ?_
  refine aSeq ?_
  refine aReg ?_
  refine sp pMa ?_
  refine oNil ?_
  refine aSeq ?_
  refine aReg ?_
  refine sq ?_
  refine qMM ((slE (α := Ed))) rfl (fun b6 => ?_)
  refine sq ?_
  refine qMM inA rfl (fun b7 => ?_)
  refine sq ?_
  refine qMM inA rfl (fun b8 => ?_)
  refine sq ?_
  refine qMM boA rfl (fun b9 => ?_)
  refine sp (pBuild rfl st_99 ze_99 rfl rfl rfl rfl) ?_
  refine sq ?_
  refine qBox rfl rfl (by decide) rfl rfl (fun b11 => ?_)
  refine sp pMa ?_
  refine oNil ?_
  refine aSeq ?_
  refine aSeq ?_
  refine aWeak (weak_famNew 86 3) ?_
  refine aWeak (weak_nil 86 3) ?_
  refine aReg ?_
  refine sp pM ?_
  refine sp (by first | exact pLm sl_56 | exact pLs sl_56) ?_
  refine sp pM ?_
  refine oNil ?_
  refine aBlock ?_
  refine loopF (α := Nat × List (Int × SlE Ed)) (kept := [(3, _), (12, _), (13, _)]) (fun (i, m) => i ≤ w.length ∧ (mKeys m).Nodup ∧ (∀ n, (slAt m n).l = incF (w.take i) n) ∧ ∀ n, n ∈ mKeys m ↔ ∃ e ∈ w.take i, e.a = n ∨ e.b = n) (fun (i, m) => [(14, .int i)]) (fun (i, m) => [.map b6 (kvM slE m), .fam 86 3 (famL edC m)]) (fun (i, m) => w.length - i) (0, []) ?_ ⟨gInt rfl (by first | rfl | omega | simp), rfl, rfl, rfl, trivial⟩ (by repeat constructor) ?_
  · skip
    exact ⟨by omega, .nil, fun n => by simp [slAt, mGet, sl0, incF], fun n => by simp [mKeys]⟩
  · rintro ⟨i, m⟩ ⟨hi, hmn, hM⟩
    refine aSeq ?_
    refine aReg ?_
    refine sp pB ?_
    refine oNil ?_
    refine aSeq ?_
    refine aCondDec rfl (fun c15 => ?_) (fun c15 => ?_)
    · skip
      refine aSkip ?_
      refine aSeq ?_
      refine aBlock ?_
      refine aSeq ?_
      obtain ⟨e, he⟩ : ∃ z, w[i]? = some z := ⟨_, List.getElem?_eq_getElem (by omega)⟩
      have hem := List.mem_of_getElem? he
      have hen := hne e hem
      refine aReg ?_
      first | refine sp (pIx es_56) ?_ | (refine obtSN 12 14 rfl rfl (by omega) (fun x16 hx16 => ?_); refine sp (pIs es_56 hx16) ?_) | (refine obtS 12 14 rfl rfl (by omega) (by omega) (fun x16 hx16 => ?_); refine sp (pIs es_56 hx16) ?_) | refine sp (pIo es_56) ?_
      refine sr (by first | exact rSW ty_86 rfl | exact rSA ty_86) ?_
      refine sq ?_
      refine qAlloc rfl rfl (by decide) ze_86 rfl (fun b5 => ?_)
      refine sa ?_
      refine oStW rfl rfl rfl rfl (by repeat constructor) ty_86 ?_
      refine oNil ?_
      refine aSeq ?_
      have hl1 := incF_len w e.a i
      rw [← hM.1] at hl1
      refine aWeak (weak_famAt e.a) ?_
      refine aDrawS (h1 := [.box b5 _, .box b11 _, .map b6 _]) br_begin_r5_t br_begin_r5_b [16] 17 #[false, false, false, false, false, false, false, false, false, false, false, false, false, false, false, false, false] (by kernel_rfl) rfl rfl (.cons (by repeat constructor) (.cons (by repeat constructor) (.cons (by repeat constructor) .nil))) (fun HT => ?_)
      refine ep HT 0 rfl pM ?_
      refine ep HT 1 rfl pNv ?_
      refine ep HT 2 rfl (pFb fd_99_0) ?_
      refine er HT 3 rfl (rB1 ty_95) ?_
      refine ep HT 4 rfl (pFb fd_86_0) ?_
      refine er HT 5 rfl (rB1 ty_3) ?_
      refine ep HT 6 rfl pM ?_
      refine ep HT 7 rfl pNv ?_
      refine ep HT 8 rfl (pFb fd_99_0) ?_
      refine er HT 9 rfl (rB1 ty_95) ?_
      refine ep HT 10 rfl (pFb fd_86_0) ?_
      refine er HT 11 rfl (rB1 ty_3) ?_
      refine er HT 12 rfl (rMG mo_95 ze_56 (sl0 : SlE Ed) .refl) ?_
      refine er HT 13 rfl (by first | exact rBWa ty_86 | exact rBW ty_86 | exact rBA ty_86) ?_
      refine e1 HT 14 rfl ?_
      refine qLit (l := [_]) rfl rfl (by decide) us_56 ty_86 ze_86 rfl (by decide) (by decide) rfl rfl rfl (fun b32 => ?_)
      refine eOneS (i := 15) #[true, true, true, true, true, true, true, true, true, true, true, true, true, true, true, true, false] rfl (HT.one (by kernel_rfl)) (by decide) ?_
      · skip
        refine stA (hx := [.sl (slAt m e.a).g _ _ _ _, .sl (some b32) _ _ _ _]) (wantN rfl) (fun t ht => by cases ht <;> decide) (.cons (by repeat constructor) (.cons (by repeat constructor) .nil)) (by repeat constructor) ?_
        refine (oAppT (out := (slAt m e.a).l) ([e] : List Ed) rfl rfl (by repeat constructor) (srcOwn rfl (by repeat constructor) rfl) el_56 sl_56 (fun g33 k33 => ?_))
        refine undel (d := 33) rfl ?_
        dsimp only [List.cons_append, List.nil_append]
        refine eLast ?_
        refine f1 HT 16 rfl ?_
        refine oMP (c := slE) (v := (⟨g33, k33, (slAt m e.a).l ++ [e]⟩ : SlE Ed)) rfl rfl rfl rfl mo_95 ?_
        refine fE HT ?_
        clear HT
        refine aWeak (weak_famSet e.a) ?_
        have hl2 : (slAt (mPut m e.a (⟨g33, k33, (slAt m e.a).l ++ [e]⟩ : SlE Ed)) e.b).l.length ≤ i := by
          rw [slAt_put, if_neg (by omega), hM.1]
          exact incF_len w e.b i
        refine aWeak (weak_famAt e.b) ?_
        refine aDrawS (h1 := [.box b5 _, .box b11 _, .map b6 _]) br_begin_r6_t br_begin_r6_b [16] 17 #[false, false, false, false, false, false, false, false, false, false, false, false, false, false, false, false, false] (by kernel_rfl) rfl rfl (.cons (by repeat constructor) (.cons (by repeat constructor) (.cons (by repeat constructor) .nil))) (fun HT => ?_)
        refine ep HT 0 rfl pM ?_
        refine ep HT 1 rfl pNv ?_
        refine ep HT 2 rfl (pFb fd_99_0) ?_
        refine er HT 3 rfl (rB1 ty_95) ?_
        refine ep HT 4 rfl (pFb fd_86_1) ?_
        refine er HT 5 rfl (rB1 ty_3) ?_
        refine ep HT 6 rfl pM ?_
        refine ep HT 7 rfl pNv ?_
        refine ep HT 8 rfl (pFb fd_99_0) ?_
        refine er HT 9 rfl (rB1 ty_95) ?_
        refine ep HT 10 rfl (pFb fd_86_1) ?_
        refine er HT 11 rfl (rB1 ty_3) ?_
        refine er HT 12 rfl (rMG mo_95 ze_56 (sl0 : SlE Ed) .refl) ?_
        refine er HT 13 rfl (by first | exact rBWa ty_86 | exact rBW ty_86 | exact rBA ty_86) ?_
        refine e1 HT 14 rfl ?_
        refine qLit (l := [_]) rfl rfl (by decide) us_56 ty_86 ze_86 rfl (by decide) (by decide) rfl rfl rfl (fun b48 => ?_)
        refine eOneS (i := 15) #[true, true, true, true, true, true, true, true, true, true, true, true, true, true, true, true, false] rfl (HT.one (by kernel_rfl)) (by decide) ?_
        · skip
          refine stA (hx := [.sl (slAt (mPut m e.a (⟨g33, k33, (slAt m e.a).l ++ [e]⟩ : SlE Ed)) e.b).g _ _ _ _, .sl (some b48) _ _ _ _]) (wantN rfl) (fun t ht => by cases ht <;> decide) (.cons (by repeat constructor) (.cons (by repeat constructor) .nil)) (by repeat constructor) ?_
          refine (oAppT (out := (slAt (mPut m e.a (⟨g33, k33, (slAt m e.a).l ++ [e]⟩ : SlE Ed)) e.b).l) ([e] : List Ed) rfl rfl (by repeat constructor) (srcOwn rfl (by repeat constructor) rfl) el_56 sl_56 (fun g49 k49 => ?_))
          refine undel (d := 49) rfl ?_
          dsimp only [List.cons_append, List.nil_append]
          refine eLast ?_
          refine f1 HT 16 rfl ?_
          refine oMP (c := slE) (v := (⟨g49, k49, (slAt (mPut m e.a (⟨g33, k33, (slAt m e.a).l ++ [e]⟩ : SlE Ed)) e.b).l ++ [e]⟩ : SlE Ed)) rfl rfl rfl rfl mo_95 ?_
          refine fE HT ?_
          clear HT
          refine aWeak (weak_famSet e.b) ?_
          refine aReg ?_
          refine sp pAd ?_
          refine sp pM ?_
          refine oNil ?_
          refine ⟨(i + 1, mPut (mPut m e.a (⟨g33, k33, (slAt m e.a).l ++ [e]⟩ : SlE Ed)) e.b (⟨g49, k49, (slAt (mPut m e.a (⟨g33, k33, (slAt m e.a).l ++ [e]⟩ : SlE Ed)) e.b).l ++ [e]⟩ : SlE Ed)), ?_, by (try dsimp only); omega, ⟨gInt rfl (by first | rfl | omega | simp), rfl, rfl, rfl, trivial⟩, _, (by repeat constructor)⟩
          refine ⟨by omega, mPut_nodup (mPut_nodup hmn), fun n => ?_, fun n => ?_⟩
          · rw [slAt_put, slAt_put, incF_step he hen, slAt_put, if_neg (show ¬ e.b = e.a from fun h => hen h.symm), hM.1 e.b, hM.1 e.a]
            by_cases h1 : n = e.b
            · rw [if_pos h1, if_pos h1, if_neg (show ¬ n = e.a by omega), h1]
            · rw [if_neg h1, if_neg h1]
              by_cases h2 : n = e.a
              · rw [if_pos h2, if_pos h2, h2]
              · rw [if_neg h2, if_neg h2, hM.1]
          · rw [mPut_keys, mPut_keys, hM.2, take_step he]
            simp only [List.mem_append, List.mem_singleton]
            constructor
            · rintro (rfl | rfl | ⟨x, hx, hxn⟩)
              · exact ⟨e, .inr rfl, .inr rfl⟩
              · exact ⟨e, .inr rfl, .inl rfl⟩
              · exact ⟨x, .inl hx, hxn⟩
            · rintro ⟨x, hx | rfl, hxn⟩
              · exact .inr (.inr ⟨x, hx, hxn⟩)
              · rcases hxn with h | h
                · exact .inr (.inl h.symm)
                · exact .inl h.symm
    · skip
      refine aExit rfl ?_
      refine aSeq ?_
      refine aWeak (weak_famSettle (b := b6) (m := m) (.cons (by repeat constructor) (.cons (by repeat constructor) .nil))) ?_
      refine aReg ?_
      refine sp pM ?_
      refine sp pMa ?_
      refine oNil ?_
      refine aRet ?_
      obtain rfl : i = w.length := by omega
      rw [List.take_length] at hM
      exact ⟨_, [BX b11 b6 b7 b8 b9 none 0 0, .map b6 (kvM (slS 3 edC) (msL m)), .map b7 (kvM inA []), .map b8 (kvM inA []), .map b9 (kvM boA []), .sl none 0 86 3 (([] : List Ed).map edC)], _, rfl, (.cons (by repeat constructor) (.cons (by repeat constructor) (.cons (by repeat constructor) (.cons (by repeat constructor) (.cons (by repeat constructor) (.cons (by repeat constructor) .nil)))))), b11, b6, b7, b8, b9, msL m, rfl, rfl, fun n => by rw [← hM.1, msL_get, slAt]; cases mGet m n <;> rfl, by rw [msL_keys]; exact hmn, fun n => by rw [msL_keys]; exact hM.2 n⟩
end A
end Go.Proofs.Ytnabkchagjjjnaa
set_option linter.unusedVariables false
set_option linter.unusedSimpArgs false
namespace Go.Proofs.Ytnabkchagjjjnaa
namespace A
theorem fd_99_1 : fieldOf Try.prog 99 1 = some (1, 1, false) := by kernel_rfl
theorem fd_99_2 : fieldOf Try.prog 99 2 = some (2, 1, false) := by kernel_rfl
theorem fd_99_3 : fieldOf Try.prog 99 3 = some (3, 1, false) := by kernel_rfl
theorem fd_99_4 : fieldOf Try.prog 99 4 = some (4, 1, false) := by kernel_rfl
theorem mo_96 : mapOf Try.prog 96 = some (3, 3) := by kernel_rfl
theorem mo_97 : mapOf Try.prog 97 = some (3, 4) := by kernel_rfl
theorem ty_56 : tyOf Try.prog 56 = some (1, false) := by kernel_rfl
abbrev lF (m : List (Int × Int)) (x : Int) : Int := (mGet m x).getD 0
def jF (m : List (Int × Bool)) (v : Int) : Prop := v ∈ mKeys m
structure BOk (w : List Ed) (S : List Int) (B : List Ed) : Prop where
  nd : B.Nodup
  sub : ∀ e ∈ B, e ∈ w ∧ e.a ∈ S
theorem BOk.len {w : List Ed} {S : List Int} {B : List Ed} (h : BOk w S B) : B.length ≤ w.length := List.Nodup.length_le_of_subset h.nd (fun e he => (h.sub e he).1)
theorem BOk.add {w : List Ed} {S T : List Int} {B add : List Ed} (h : BOk w S B) (hn : (S ++ T).Nodup) (h1 : ∀ e ∈ add, e ∈ w ∧ e.a ∈ T ∧ e.b ∈ T) (h2 : add.Nodup) : BOk w (S ++ T) (B ++ add) where
  nd := List.nodup_append.2 ⟨h.nd, h2, fun x hx y hy e => by subst e; exact mem_no hn (h.sub x hx).2 (h1 x hy).2.1⟩
  sub := fun e he => (List.mem_append.1 he).elim (fun he => ⟨(h.sub e he).1, List.mem_append_left _ (h.sub e he).2⟩) (fun he => ⟨(h1 e he).1, List.mem_append_right _ (h1 e he).2.1⟩)
theorem inc_adj {w : List Ed} {n : Int} {e : Ed} (h : e ∈ incF w n) : e ∈ w ∧ Adj e n (e.a + e.b - n) := by
  obtain ⟨h1, h2⟩ := List.mem_filter.1 h
  simp at h2
  rcases h2 with h2 | h2
  · exact ⟨h1, .inl ⟨h2, by omega⟩⟩
  · exact ⟨h1, .inr ⟨h2, by omega⟩⟩
theorem inc_all {w : List Ed} {n : Int} (e : Ed) (he : e ∈ w) (z : Int) (h : Adj e n z) : e ∈ incF w n := by
  refine List.mem_filter.2 ⟨he, ?_⟩
  rcases h with ⟨h1, h2⟩ | ⟨h1, h2⟩
  · simp [h1]
  · simp [h1]
theorem ed_eq (e f : Ed) : (e.a == f.a && (e.b == f.b && (e.c == f.c && true))) = decide (e = f) := by
  rw [Bool.eq_iff_iff]
  cases e; cases f
  simp
theorem ed_ne_t {e f : Ed} (h : (!(e.a == f.a && (e.b == f.b && (e.c == f.c && true)))) = true) : e ≠ f := fun h2 => by rw [ed_eq, h2] at h; simp at h
theorem ed_ne_f {e f : Ed} (h : (!(e.a == f.a && (e.b == f.b && (e.c == f.c && true)))) = false) : e = f := by
  rw [ed_eq] at h
  simpa using h
theorem ed_eq_t {e f : Ed} (h : (e.a == f.a && (e.b == f.b && (e.c == f.c && true))) = true) : e = f := by
  rw [ed_eq] at h
  simpa using h
theorem ed_eq_f {e f : Ed} (h : (e.a == f.a && (e.b == f.b && (e.c == f.c && true))) = false) : e ≠ f := by
  rw [ed_eq] at h
  simpa using h
theorem by_zero {w : List Ed} {S : List Int} {n : Int} {par : Par} (W : WOk w) (V : VPre w S n par) : byE par = edZ ↔ par = none := by
  cases hp : par with
  | none => simp [byE]
  | some q =>
    obtain ⟨p, e⟩ := q
    have h1 := (V.pr p e hp).1
    constructor
    · intro h
      have : e = edZ := h
      rw [this] at h1
      exact absurd h1 W.z
    · intro h; cases h
theorem VI.jsub {w : List Ed} {S : List Int} {n : Int} {par : Par} {lo0 lo : Int → Int} {j0 j : Int → Prop} {P : List Ed} {T : List Int} {add tr : List Ed} {un : Nat} (I : VI w S n par lo0 j0 P T lo add tr j un) (h0 : ∀ v, j0 v → v ∈ S) (v : Int) (hv : j v) : v ∈ S ++ T := by
  by_cases e : v = n
  · rw [e]; exact List.mem_append_right _ I.hm
  · rcases (I.j1 v e).1 hv with h | h
    · exact List.mem_append_left _ (h0 v h)
    · exact List.mem_append_right _ h.1
theorem VI.trng {w : List Ed} {S : List Int} {n : Int} {par : Par} {lo0 lo : Int → Int} {j0 j : Int → Prop} {P : List Ed} {T : List Int} {add tr : List Ed} {un : Nat} (W : WOk w) (I : VI w S n par lo0 j0 P T lo add tr j un) (hS : ∀ x ∈ S, 1 ≤ x ∧ x ≤ 64) (hn : 1 ≤ n ∧ n ≤ 64) : ∀ x ∈ S ++ T, 1 ≤ x ∧ x ≤ 64 := fun x hx => by
  rcases List.mem_append.1 hx with hx | hx
  · exact hS x hx
  · rcases (I.con x hx).range (fun e he => (W.ok e he.1).1) with rfl | h
    · exact hn
    · exact h
theorem set_len {S : List Int} (h : S.Nodup) (hr : ∀ x ∈ S, 1 ≤ x ∧ x ≤ 64) : S.length ≤ 65 := nodup_len h (n := 65) (fun x hx => by have := hr x hx; omega)
/- bridge.search).visit -/
def br_visitO_r1_T : Bool × List (List Nat × List Nat) := (true, [([], []), ([0], [0]), ([1], [1]), ([2], [2]), ([], []), ([], []), ([5], [5]), ([6], [6]), ([7], [7]), ([8], [8]), ([9], [9]), ([3, 4, 10, 9, 0, 1, 2, 3, 4, 5, 6, 7, 8, 9, 10], [3, 4, 10])])
def br_visitO_r1_B : List Nat := [0, 1, 3, 7, 0, 0, 32, 96, 224, 480, 992, 2047]
theorem br_visitO_r1_t : Go.Proofs.YtnabkchagjjjnaaW.PrintLast.rtab .any (Go.Proofs.YtnabkchagjjjnaaW.PrintLast.opsOf Try.f60 1) = br_visitO_r1_T := by kernel_rfl
theorem br_visitO_r1_b : Go.Proofs.YtnabkchagjjjnaaW.PrintLast.waitsOk br_visitO_r1_T.2 br_visitO_r1_B = true := by kernel_rfl
def br_visitO_r2_T : Bool × List (List Nat × List Nat) := (true, [([], []), ([0], [0]), ([1], [1]), ([2], [2]), ([], []), ([], []), ([5], [5]), ([6], [6]), ([7], [7]), ([], []), ([8, 9], [8, 9]), ([3, 4, 10, 0, 1, 2, 3, 4, 5, 6, 7, 8, 9, 10], [3, 4, 10])])
def br_visitO_r2_B : List Nat := [0, 1, 3, 7, 0, 0, 32, 96, 224, 0, 992, 2047]
theorem br_visitO_r2_t : Go.Proofs.YtnabkchagjjjnaaW.PrintLast.rtab .any (Go.Proofs.YtnabkchagjjjnaaW.PrintLast.opsOf Try.f60 2) = br_visitO_r2_T := by kernel_rfl
theorem br_visitO_r2_b : Go.Proofs.YtnabkchagjjjnaaW.PrintLast.waitsOk br_visitO_r2_T.2 br_visitO_r2_B = true := by kernel_rfl
def br_visitO_r11_T : Bool × List (List Nat × List Nat) := (true, [([], []), ([0], [0]), ([1], [1]), ([2], [2]), ([], []), ([], []), ([5], [5]), ([6], [6]), ([7], [7]), ([], []), ([8, 9], [8, 9]), ([], []), ([10, 11], [10, 11]), ([3, 4, 12, 0, 1, 2, 3, 4, 5, 6, 7, 8, 9, 10, 11, 12], [3, 4, 12])])
def br_visitO_r11_B : List Nat := [0, 1, 3, 7, 0, 0, 32, 96, 224, 0, 992, 0, 4064, 8191]
theorem br_visitO_r11_t : Go.Proofs.YtnabkchagjjjnaaW.PrintLast.rtab .any (Go.Proofs.YtnabkchagjjjnaaW.PrintLast.opsOf Try.f60 11) = br_visitO_r11_T := by kernel_rfl
theorem br_visitO_r11_b : Go.Proofs.YtnabkchagjjjnaaW.PrintLast.waitsOk br_visitO_r11_T.2 br_visitO_r11_B = true := by kernel_rfl
def br_visitO_r14_T : Bool × List (List Nat × List Nat) := (true, [([], []), ([0], [0]), ([1], [1]), ([2], [2]), ([], []), ([], []), ([5], [5]), ([6], [6]), ([7], [7]), ([], []), ([8, 9], [8, 9]), ([], []), ([11], [11]), ([12], [12]), ([13], [13]), ([], []), ([14, 15], [14, 15]), ([10, 16], [10, 16]), ([3, 4, 17, 0, 1, 2, 3, 4, 5, 6, 7, 8, 9, 10, 11, 12, 13, 14, 15, 16, 17], [3, 4, 17])])
def br_visitO_r14_B : List Nat := [0, 1, 3, 7, 0, 0, 32, 96, 224, 0, 992, 0, 2048, 6144, 14336, 0, 63488, 131040, 262143]
theorem br_visitO_r14_t : Go.Proofs.YtnabkchagjjjnaaW.PrintLast.rtab .any (Go.Proofs.YtnabkchagjjjnaaW.PrintLast.opsOf Try.f60 14) = br_visitO_r14_T := by kernel_rfl
theorem br_visitO_r14_b : Go.Proofs.YtnabkchagjjjnaaW.PrintLast.waitsOk br_visitO_r14_T.2 br_visitO_r14_B = true := by kernel_rfl
def br_visitO_r15_T : Bool × List (List Nat × List Nat) := (true, [([], []), ([0], [0]), ([1], [1]), ([2], [2]), ([], []), ([3, 4], [3, 4]), ([], []), ([6], [6]), ([7], [7]), ([8], [8]), ([], []), ([9, 10], [9, 10]), ([5, 11], [5, 11])])
def br_visitO_r15_B : List Nat := [0, 1, 3, 7, 0, 31, 0, 64, 192, 448, 0, 1984, 4095]
theorem br_visitO_r15_t : Go.Proofs.YtnabkchagjjjnaaW.PrintLast.rtab .any (Go.Proofs.YtnabkchagjjjnaaW.PrintLast.opsOf Try.f60 15) = br_visitO_r15_T := by kernel_rfl
theorem br_visitO_r15_b : Go.Proofs.YtnabkchagjjjnaaW.PrintLast.waitsOk br_visitO_r15_T.2 br_visitO_r15_B = true := by kernel_rfl
def br_visitO_r16_T : Bool × List (List Nat × List Nat) := (true, [([], []), ([], []), ([1], [1]), ([2], [2]), ([3], [3]), ([], []), ([5], [5]), ([4, 6], [4, 6]), ([0, 0, 1, 2, 3, 4, 5, 6, 7], [0]), ([8, 0, 1, 2, 3, 4, 5, 6, 7], [8]), ([9, 7, 7, 0, 1, 2, 3, 4, 5, 6, 7], [7, 9])])
def br_visitO_r16_B : List Nat := [0, 0, 2, 6, 14, 0, 32, 126, 255, 511, 1023]
theorem br_visitO_r16_t : Go.Proofs.YtnabkchagjjjnaaW.PrintLast.rtab .any (Go.Proofs.YtnabkchagjjjnaaW.PrintLast.opsOf Try.f60 16) = br_visitO_r16_T := by kernel_rfl
theorem br_visitO_r16_b : Go.Proofs.YtnabkchagjjjnaaW.PrintLast.waitsOk br_visitO_r16_T.2 br_visitO_r16_B = true := by kernel_rfl
def br_visitO_r17_T : Bool × List (List Nat × List Nat) := (true, [([], []), ([], []), ([0, 1], [0, 1]), ([2], [2]), ([3], [3]), ([4, 3], [3, 4]), ([5, 3], [3, 5]), ([6, 3], [3, 6]), ([3], [3]), ([7, 8, 3], [3, 7, 8]), ([3], [3]), ([10, 3], [3, 10]), ([11, 3], [3, 11]), ([12, 3], [3, 12]), ([3], [3]), ([13, 14, 3], [3, 13, 14]), ([9, 15, 3], [3, 9, 15]), ([3, 16], [3, 16])])
def br_visitO_r17_B : List Nat := [0, 0, 3, 7, 15, 31, 63, 127, 15, 511, 15, 1039, 3087, 7183, 15, 31759, 65535, 131071]
theorem br_visitO_r17_t : Go.Proofs.YtnabkchagjjjnaaW.PrintLast.rtab .any (Go.Proofs.YtnabkchagjjjnaaW.PrintLast.opsOf Try.f60 17) = br_visitO_r17_T := by kernel_rfl
theorem br_visitO_r17_b : Go.Proofs.YtnabkchagjjjnaaW.PrintLast.waitsOk br_visitO_r17_T.2 br_visitO_r17_B = true := by kernel_rfl
set_option maxRecDepth 100000 in
set_option maxHeartbeats 8000000 in
theorem br_visitO {w : List Ed} {em : List (Int × List Ed)} (sb eb fb lb jb : Nat) (W : WOk w) (hwl : w.length ≤ 1000000) (hem : ∀ n, (mGet em n).getD [] = incF w n) (k : Nat) (S : List Int) (n : Int) (par : Par) (lm0 : List (Int × Int)) (g0 : Option Nat) (c0 : Nat) (B0 : List Ed) (jm0 : List (Int × Bool)) (V : VPre w S n par) (hSr : ∀ x ∈ S, 1 ≤ x ∧ x ≤ 64) (hnr : 1 ≤ n ∧ n ≤ 64) (hB0 : BOk w S B0) (hj0 : ∀ v ∈ mKeys jm0, v ∈ S) (hn0 : (mKeys jm0).Nodup) (hk : 65 ≤ S.length + k) (ih : ∀ (S' : List Int) (n' : Int) (par' : Par) (lm' : List (Int × Int)) (g' : Option Nat) (c' : Nat) (B' : List Ed) (jm' : List (Int × Bool)), 0 < k → VPre w S' n' par' → (∀ x ∈ S', 1 ≤ x ∧ x ≤ 64) → (1 ≤ n' ∧ n' ≤ 64) → BOk w S' B' → (∀ v ∈ mKeys jm', v ∈ S') → (mKeys jm').Nodup → 65 ≤ S'.length + (k - 1) → Triple Try.prog 60 [(.v (.pointer (some ⟨sb, 0, none⟩))), .int n', .agg (edC (byE par'))] [BX sb eb fb lb jb g' (B').length c', .map eb (kvM (slS 3 edC) em), .map fb (kvM inA (fmF 0 (S'))), .map lb (kvM inA lm'), .map jb (kvM boA jm'), .sl g' c' 86 3 ((B').map edC)] (fun q h' => ∃ (S1 T : List Int) (lm : List (Int × Int)) (g : Option Nat) (c : Nat) (B add tr : List Ed) (jm : List (Int × Bool)), q = .tup [] ∧ h' = [BX sb eb fb lb jb g (B).length c, .map eb (kvM (slS 3 edC) em), .map fb (kvM inA (fmF 0 (S1))), .map lb (kvM inA lm), .map jb (kvM boA jm), .sl g c 86 3 ((B).map edC)] ∧ S1 = S' ++ T ∧ B = B' ++ add ∧ VPost w S' n' par' (lF lm') (jF jm') T (lF lm) add tr (jF jm) ∧ (mKeys jm).Nodup)) : Triple Try.prog 60 [(.v (.pointer (some ⟨sb, 0, none⟩))), .int n, .agg (edC (byE par))] [BX sb eb fb lb jb g0 (B0).length c0, .map eb (kvM (slS 3 edC) em), .map fb (kvM inA (fmF 0 (S))), .map lb (kvM inA lm0), .map jb (kvM boA jm0), .sl g0 c0 86 3 ((B0).map edC)] (fun q h' => ∃ (S1 T : List Int) (lm : List (Int × Int)) (g : Option Nat) (c : Nat) (B add tr : List Ed) (jm : List (Int × Bool)), q = .tup [] ∧ h' = [BX sb eb fb lb jb g (B).length c, .map eb (kvM (slS 3 edC) em), .map fb (kvM inA (fmF 0 (S1))), .map lb (kvM inA lm), .map jb (kvM boA jm), .sl g c 86 3 ((B).map edC)] ∧ S1 = S ++ T ∧ B = B0 ++ add ∧ VPost w S n par (lF lm0) (jF jm0) T (lF lm) add tr (jF jm) ∧ (mKeys jm).Nodup) := by
  have hSl : S.length ≤ 64 := by
    have := set_len (S := S ++ [n]) (List.nodup_append.2 ⟨V.nd, by simp, fun x hx y hy e => by rw [List.mem_singleton.1 hy] at e; subst e; exact V.new hx⟩) (fun x hx => by
      rcases List.mem_append.1 hx with hx | hx
      · exact hSr x hx
      · rw [List.mem_singleton.1 hx]; exact hnr)
    rw [List.length_append, List.length_singleton] at this
    omega
  have hk0 : 0 < k := by omega
  have hil := incF_len w n w.length
  rw [List.take_length] at hil
  have hbz := by_zero W V
  refine triple_of Try.func60 rfl (by kernel_rfl) rfl (by simp) ?_
  refine aSeq ?_
  refine aReg ?_
  refine sq ?_
  refine qBox rfl rfl (by decide) rfl rfl (fun b5 => ?_)
  refine oNil ?_
  refine aSeq ?_
  refine aDrawT br_visitO_r1_t br_visitO_r1_b [11] 12 #[false, false, false, false, false, false, false, false, false, false, false, false] (by kernel_rfl) rfl rfl (fun HT => ?_)
  refine dp HT 0 rfl pM ?_
  refine dp HT 1 rfl pNv ?_
  refine dp HT 2 rfl (pFb fd_99_1) ?_
  refine dr HT 3 rfl (rB1 ty_96) ?_
  refine dp HT 4 rfl pM ?_
  refine dp HT 5 rfl pM ?_
  refine dp HT 6 rfl pNv ?_
  refine dp HT 7 rfl (pFb fd_99_1) ?_
  refine dr HT 8 rfl (rB1 ty_96) ?_
  refine dr HT 9 rfl (rLm mo_96) ?_
  rw [fmF_len]
  refine dp HT 10 rfl pAd ?_
  refine dGo ?_
  refine eLast ?_
  refine f1 HT 11 rfl ?_
  first | refine oMP rfl rfl rfl rfl mo_96 ?_ | refine oMapSet rfl rfl rfl rfl rfl (by repeat constructor) mo_96 ?_
  rw [fm_put V.new]
  refine fE HT ?_
  clear HT
  refine aSeq ?_
  refine aDrawT br_visitO_r2_t br_visitO_r2_b [11] 12 #[false, false, false, false, false, false, false, false, false, false, false, false] (by kernel_rfl) rfl rfl (fun HT => ?_)
  refine dp HT 0 rfl pM ?_
  refine dp HT 1 rfl pNv ?_
  refine dp HT 2 rfl (pFb fd_99_2) ?_
  refine dr HT 3 rfl (rB1 ty_96) ?_
  refine dp HT 4 rfl pM ?_
  refine dp HT 5 rfl pM ?_
  refine dp HT 6 rfl pNv ?_
  refine dp HT 7 rfl (pFb fd_99_1) ?_
  refine dr HT 8 rfl (rB1 ty_96) ?_
  refine dp HT 9 rfl pM ?_
  refine dr HT 10 rfl (rMGi mo_96 ze_3) ?_
  rw [show (mGet (fmF 0 (S ++ [n])) n).getD 0 = (S.length : Int) + 1 from rk_hd V.new]
  refine dGo ?_
  refine eLast ?_
  refine f1 HT 11 rfl ?_
  first | refine oMP rfl rfl rfl rfl mo_96 ?_ | refine oMapSet rfl rfl rfl rfl rfl (by repeat constructor) mo_96 ?_
  refine fE HT ?_
  clear HT
  refine aSeq ?_
  refine aReg ?_
  refine sp pMa ?_
  refine oNil ?_
  refine aSeq ?_
  refine aSeq ?_
  refine aReg ?_
  refine sp pM ?_
  refine sp pNv ?_
  refine sp (pFb fd_99_0) ?_
  refine sr (rB1 ty_95) ?_
  refine sp pM ?_
  refine sr (rMG (c := slS 3 edC) mo_95 ze_56 ([] : List Ed) cast_nil) ?_
  rw [show slS 3 edC ((mGet em n).getD []) = .sl 3 ((incF w n).map edC) by rw [hem]; rfl]
  refine sp (by first | exact pLm sl_56 | exact pLs sl_56 | exact pLv sl_56) ?_
  refine sp pM ?_
  refine oNil ?_
  refine aBlock ?_
  refine loopF (α := Nat × List Int × List Int × List (Int × Int) × Option Nat × Nat × List Ed × List Ed × List Ed × List (Int × Bool) × Nat) (kept := [(0, _), (1, _), (5, _), (39, _), (40, _)]) (fun (i, S1, T, lm, g, c, B, add, tr, jm, un) => i ≤ (incF w n).length ∧ S1 = S ++ T ∧ B = B0 ++ add ∧ VI w S n par (lF lm0) (jF jm0) ((incF w n).take i) T (lF lm) add tr (jF jm) un ∧ un ≤ i ∧ (mKeys jm).Nodup) (fun (i, S1, T, lm, g, c, B, add, tr, jm, un) => [(41, .int i), (6, .int un)]) (fun (i, S1, T, lm, g, c, B, add, tr, jm, un) => [BX sb eb fb lb jb g (B).length c, .map fb (kvM inA (fmF 0 (S1))), .map lb (kvM inA lm), .map jb (kvM boA jm), .sl g c 86 3 ((B).map edC)]) (fun (i, S1, T, lm, g, c, B, add, tr, jm, un) => (incF w n).length - i) (0, S ++ [n], [n], _, g0, c0, B0, [], [], jm0, 0) ?_ ⟨gInt rfl (by first | rfl | omega | simp), gInt rfl (by first | rfl | omega | simp), rfl, rfl, rfl, rfl, rfl, trivial⟩ (by repeat constructor) ?_
  · skip
    exact ⟨by omega, rfl, by simp, .start W V (by show (mGet (mPut lm0 n _) n).getD 0 = _; rw [mGet_put, if_pos rfl]; rfl) (fun x hx => by show (mGet (mPut lm0 n _) x).getD 0 = _; rw [mGet_put, if_neg (fun h => V.new (by rw [← h]; exact hx))]) (fun h => V.new (hj0 n h)), by omega, hn0⟩
  · rintro ⟨i, S1, T, lm, g, c, B, add, tr, jm, un⟩ ⟨hi, hS1, hB, I, hun, hjn⟩
    refine aSeq ?_
    refine aReg ?_
    refine sp pB ?_
    refine oNil ?_
    refine aSeq ?_
    refine aCondDec rfl (fun c42 => ?_) (fun c42 => ?_)
    · skip
      refine aSkip ?_
      refine aSeq ?_
      refine aBlock ?_
      refine aSeq ?_
      obtain ⟨e, he⟩ : ∃ z, (incF w n)[i]? = some z := ⟨_, List.getElem?_eq_getElem (by omega)⟩
      subst hS1
      obtain ⟨hew, hae⟩ := inc_adj (List.mem_of_getElem? he)
      obtain ⟨y, hye⟩ : ∃ y, e.a + e.b - n = y := ⟨_, rfl⟩
      rw [hye] at hae
      have hek := (W.ok e hew).1
      unfold EOk at hek
      refine aReg ?_
      first | refine sp (pIx es_56) ?_ | (refine obtSN 39 41 rfl rfl (by omega) (fun x43 hx43 => ?_); refine sp (pIs es_56 hx43) ?_) | (refine obtS 39 41 rfl rfl (by omega) (by omega) (fun x43 hx43 => ?_); refine sp (pIs es_56 hx43) ?_) | refine sp (pIo es_56) ?_
      refine sr (by first | exact rSW ty_86 rfl | exact rSA ty_86 | exact rBWa ty_86 | exact rBW ty_86 | exact rBA ty_86 | exact rArA ty_86 (fun _ => rfl)) ?_
      refine sq ?_
      refine qAlloc rfl rfl (by decide) ze_86 rfl (fun b8 => ?_)
      refine sa ?_
      refine oStW rfl rfl rfl rfl (by repeat constructor) ty_86 ?_
      refine oNil ?_
      refine aSeq ?_
      refine aReg ?_
      refine sp (pFb fd_86_0) ?_
      refine sr (rB1 ty_3) ?_
      refine sp (pFb fd_86_1) ?_
      refine sr (rB1 ty_3) ?_
      refine sp pAd ?_
      refine sp pM ?_
      refine sp pSu ?_
      rw [hye]
      refine sp pMa ?_
      refine oNil ?_
      refine aSeq ?_
      refine aSeq ?_
      refine aReg ?_
      refine sp pM ?_
      refine sp pNv ?_
      refine sp (pFb fd_99_1) ?_
      refine sr (rB1 ty_96) ?_
      refine sp pM ?_
      refine sr (rMGio mo_96 ze_3) ?_
      refine sp pM ?_
      refine sp pX ?_
      refine sp pX ?_
      refine sp pMa ?_
      refine sp pMa ?_
      refine oNil ?_
      refine aSeq ?_
      refine aReg ?_
      refine sp pM ?_
      refine oNil ?_
      refine aCond rfl (fun c61 => ?_) (fun c61 => ?_)
      · skip
        refine aSeq ?_
        refine aSeq ?_
        have hyi : y ∈ S ++ T := by
          have := mGet_mem.1 (by assumption : (mGet (fmF 0 (S ++ T)) y).isSome = true)
          rwa [fmF_keys] at this
        refine aReg ?_
        refine sr (by first | exact rBWa ty_86 | exact rBW ty_86 | exact rBA ty_86) ?_
        refine sr (by first | exact rBWa ty_86 | exact rBW ty_86 | exact rBA ty_86) ?_
        refine sp (pEqAn eq_86) ?_
        refine oNil ?_
        refine aCond rfl (fun c64 => ?_) (fun c64 => ?_)
        · skip
          refine aDrawT br_visitO_r11_t br_visitO_r11_b [13] 14 #[false, false, false, false, false, false, false, false, false, false, false, false, false, false] (by kernel_rfl) rfl rfl (fun HT => ?_)
          refine dp HT 0 rfl pM ?_
          refine dp HT 1 rfl pNv ?_
          refine dp HT 2 rfl (pFb fd_99_2) ?_
          refine dr HT 3 rfl (rB1 ty_96) ?_
          refine dp HT 4 rfl pM ?_
          refine dp HT 5 rfl pM ?_
          refine dp HT 6 rfl pNv ?_
          refine dp HT 7 rfl (pFb fd_99_2) ?_
          refine dr HT 8 rfl (rB1 ty_96) ?_
          refine dp HT 9 rfl pM ?_
          refine dr HT 10 rfl (rMGi mo_96 ze_3) ?_
          refine dp HT 11 rfl pM ?_
          refine dp HT 12 rfl pMin ?_
          refine dGo ?_
          refine eLast ?_
          refine f1 HT 13 rfl ?_
          first | refine oMP rfl rfl rfl rfl mo_96 ?_ | refine oMapSet rfl rfl rfl rfl rfl (by repeat constructor) mo_96 ?_
          refine fE HT ?_
          clear HT
          refine aExit rfl ?_
          refine aReg ?_
          refine sp pAd ?_
          refine sp pM ?_
          refine oNil ?_
          first
            | (refine ⟨(i + 1, S ++ T, T, mPut lm n (min ((mGet lm n).getD 0) ((mGet (fmF 0 (S ++ T)) y).getD 0)), g, c, B, add, tr, jm, un), ?_, by (try dsimp only); omega, ⟨gInt rfl (by first | rfl | omega | simp), gInt rfl (by first | rfl | omega | simp), rfl, rfl, rfl, rfl, rfl, trivial⟩, _, (by repeat constructor)⟩
               have hnb : e ≠ byE par := ed_ne_t c64
               refine ⟨by omega, rfl, hB, ?_, by omega, hjn⟩
               rw [take_step he]
               exact I.seen W V hew hae hyi (by rw [if_pos hnb]; show (mGet (mPut lm n _) n).getD 0 = _; rw [mGet_put, if_pos rfl]; rfl) (fun x hx => by show (mGet (mPut lm n _) x).getD 0 = _; rw [mGet_put, if_neg hx]))
            | (refine ⟨(i + 1, S ++ T, T, lm, g, c, B, add, tr, jm, un), ?_, by (try dsimp only); omega, ⟨gInt rfl (by first | rfl | omega | simp), gInt rfl (by first | rfl | omega | simp), rfl, rfl, rfl, rfl, rfl, trivial⟩, _, (by repeat constructor)⟩
               have hnb : ¬ e ≠ byE par := fun h => h (ed_ne_f c64)
               refine ⟨by omega, rfl, hB, ?_, by omega, hjn⟩
               rw [take_step he]
               exact I.seen W V hew hae hyi (by rw [if_neg hnb]) (fun x hx => rfl))
            | (refine ⟨(i + 1, S2, T ++ Tc, mPut lm1 n (min ((mGet lm1 n).getD 0) ((mGet lm1 y).getD 0)), g122, k122, B1 ++ [e], (add ++ addc) ++ [e], tr ++ e :: trc, mPut jm1 n true, un + 1), ?_, by (try dsimp only); omega, ⟨gInt rfl (by first | rfl | omega | simp), gInt rfl (by first | rfl | omega | simp), rfl, rfl, rfl, rfl, rfl, trivial⟩, _, (by repeat constructor)⟩
               have hparY : par ≠ none := fun h => ed_ne_t (f := edZ) c128 (hbz.2 h)
               refine ⟨by omega, by rw [hS2, List.append_assoc], by rw [hB2, hB, List.append_assoc, List.append_assoc, List.append_assoc], ?_, by omega, by first | exact hjn1 | exact mPut_nodup hjn1⟩
               rw [take_step he]
               exact I.child W V hew hae hyn C (by rw [show lF (mPut lm1 n (min ((mGet lm1 n).getD 0) ((mGet lm1 y).getD 0))) n = (min ((mGet lm1 n).getD 0) ((mGet lm1 y).getD 0)) by simp [lF, mGet_put]]) (fun x hx => by show (mGet (mPut lm1 n _) x).getD 0 = _; rw [mGet_put, if_neg hx]) (by rw [if_pos (show lF lm1 y > S.length + 1 from c114)]) (fun v => by
                   unfold jF
                   rw [mPut_keys]
                   exact ⟨fun h => h.elim (fun h => .inr ⟨h, hparY, c142⟩) .inl, fun h => h.elim .inr (fun h => .inl h.1)⟩))
            | (refine ⟨(i + 1, S2, T ++ Tc, mPut lm1 n (min ((mGet lm1 n).getD 0) ((mGet lm1 y).getD 0)), g122, k122, B1 ++ [e], (add ++ addc) ++ [e], tr ++ e :: trc, jm1, un + 1), ?_, by (try dsimp only); omega, ⟨gInt rfl (by first | rfl | omega | simp), gInt rfl (by first | rfl | omega | simp), rfl, rfl, rfl, rfl, rfl, trivial⟩, _, (by repeat constructor)⟩
               have hparN : ¬ (par ≠ none ∧ lF lm1 y ≥ S.length + 1) := by
                 first
                   | exact fun h => h.1 (hbz.1 (ed_ne_f (f := edZ) c128))
                   | exact fun h => c142 h.2
               refine ⟨by omega, by rw [hS2, List.append_assoc], by rw [hB2, hB, List.append_assoc, List.append_assoc, List.append_assoc], ?_, by omega, by first | exact hjn1 | exact mPut_nodup hjn1⟩
               rw [take_step he]
               exact I.child W V hew hae hyn C (by rw [show lF (mPut lm1 n (min ((mGet lm1 n).getD 0) ((mGet lm1 y).getD 0))) n = (min ((mGet lm1 n).getD 0) ((mGet lm1 y).getD 0)) by simp [lF, mGet_put]]) (fun x hx => by show (mGet (mPut lm1 n _) x).getD 0 = _; rw [mGet_put, if_neg hx]) (by rw [if_pos (show lF lm1 y > S.length + 1 from c114)]) (fun v => ⟨.inl, fun h => h.elim id fun h => absurd h.2 hparN⟩))
            | (refine ⟨(i + 1, S2, T ++ Tc, mPut lm1 n (min ((mGet lm1 n).getD 0) ((mGet lm1 y).getD 0)), g1, c1, B1, add ++ addc, tr ++ e :: trc, mPut jm1 n true, un + 1), ?_, by (try dsimp only); omega, ⟨gInt rfl (by first | rfl | omega | simp), gInt rfl (by first | rfl | omega | simp), rfl, rfl, rfl, rfl, rfl, trivial⟩, _, (by repeat constructor)⟩
               have hparY : par ≠ none := fun h => ed_ne_t (f := edZ) c128 (hbz.2 h)
               refine ⟨by omega, by rw [hS2, List.append_assoc], by rw [hB2, hB, List.append_assoc], ?_, by omega, by first | exact hjn1 | exact mPut_nodup hjn1⟩
               rw [take_step he]
               exact I.child W V hew hae hyn C (by rw [show lF (mPut lm1 n (min ((mGet lm1 n).getD 0) ((mGet lm1 y).getD 0))) n = (min ((mGet lm1 n).getD 0) ((mGet lm1 y).getD 0)) by simp [lF, mGet_put]]) (fun x hx => by show (mGet (mPut lm1 n _) x).getD 0 = _; rw [mGet_put, if_neg hx]) (by rw [if_neg (show ¬ lF lm1 y > S.length + 1 from c114), List.append_nil]) (fun v => by
                   unfold jF
                   rw [mPut_keys]
                   exact ⟨fun h => h.elim (fun h => .inr ⟨h, hparY, c142⟩) .inl, fun h => h.elim .inr (fun h => .inl h.1)⟩))
            | (refine ⟨(i + 1, S2, T ++ Tc, mPut lm1 n (min ((mGet lm1 n).getD 0) ((mGet lm1 y).getD 0)), g1, c1, B1, add ++ addc, tr ++ e :: trc, jm1, un + 1), ?_, by (try dsimp only); omega, ⟨gInt rfl (by first | rfl | omega | simp), gInt rfl (by first | rfl | omega | simp), rfl, rfl, rfl, rfl, rfl, trivial⟩, _, (by repeat constructor)⟩
               have hparN : ¬ (par ≠ none ∧ lF lm1 y ≥ S.length + 1) := by
                 first
                   | exact fun h => h.1 (hbz.1 (ed_ne_f (f := edZ) c128))
                   | exact fun h => c142 h.2
               refine ⟨by omega, by rw [hS2, List.append_assoc], by rw [hB2, hB, List.append_assoc], ?_, by omega, by first | exact hjn1 | exact mPut_nodup hjn1⟩
               rw [take_step he]
               exact I.child W V hew hae hyn C (by rw [show lF (mPut lm1 n (min ((mGet lm1 n).getD 0) ((mGet lm1 y).getD 0))) n = (min ((mGet lm1 n).getD 0) ((mGet lm1 y).getD 0)) by simp [lF, mGet_put]]) (fun x hx => by show (mGet (mPut lm1 n _) x).getD 0 = _; rw [mGet_put, if_neg hx]) (by rw [if_neg (show ¬ lF lm1 y > S.length + 1 from c114), List.append_nil]) (fun v => ⟨.inl, fun h => h.elim id fun h => absurd h.2 hparN⟩))
        · skip
          refine aSkip ?_
          refine aExit rfl ?_
          refine aReg ?_
          refine sp pAd ?_
          refine sp pM ?_
          refine oNil ?_
          first
            | (refine ⟨(i + 1, S ++ T, T, mPut lm n (min ((mGet lm n).getD 0) ((mGet (fmF 0 (S ++ T)) y).getD 0)), g, c, B, add, tr, jm, un), ?_, by (try dsimp only); omega, ⟨gInt rfl (by first | rfl | omega | simp), gInt rfl (by first | rfl | omega | simp), rfl, rfl, rfl, rfl, rfl, trivial⟩, _, (by repeat constructor)⟩
               have hnb : e ≠ byE par := ed_ne_t c64
               refine ⟨by omega, rfl, hB, ?_, by omega, hjn⟩
               rw [take_step he]
               exact I.seen W V hew hae hyi (by rw [if_pos hnb]; show (mGet (mPut lm n _) n).getD 0 = _; rw [mGet_put, if_pos rfl]; rfl) (fun x hx => by show (mGet (mPut lm n _) x).getD 0 = _; rw [mGet_put, if_neg hx]))
            | (refine ⟨(i + 1, S ++ T, T, lm, g, c, B, add, tr, jm, un), ?_, by (try dsimp only); omega, ⟨gInt rfl (by first | rfl | omega | simp), gInt rfl (by first | rfl | omega | simp), rfl, rfl, rfl, rfl, rfl, trivial⟩, _, (by repeat constructor)⟩
               have hnb : ¬ e ≠ byE par := fun h => h (ed_ne_f c64)
               refine ⟨by omega, rfl, hB, ?_, by omega, hjn⟩
               rw [take_step he]
               exact I.seen W V hew hae hyi (by rw [if_neg hnb]) (fun x hx => rfl))
            | (refine ⟨(i + 1, S2, T ++ Tc, mPut lm1 n (min ((mGet lm1 n).getD 0) ((mGet lm1 y).getD 0)), g122, k122, B1 ++ [e], (add ++ addc) ++ [e], tr ++ e :: trc, mPut jm1 n true, un + 1), ?_, by (try dsimp only); omega, ⟨gInt rfl (by first | rfl | omega | simp), gInt rfl (by first | rfl | omega | simp), rfl, rfl, rfl, rfl, rfl, trivial⟩, _, (by repeat constructor)⟩
               have hparY : par ≠ none := fun h => ed_ne_t (f := edZ) c128 (hbz.2 h)
               refine ⟨by omega, by rw [hS2, List.append_assoc], by rw [hB2, hB, List.append_assoc, List.append_assoc, List.append_assoc], ?_, by omega, by first | exact hjn1 | exact mPut_nodup hjn1⟩
               rw [take_step he]
               exact I.child W V hew hae hyn C (by rw [show lF (mPut lm1 n (min ((mGet lm1 n).getD 0) ((mGet lm1 y).getD 0))) n = (min ((mGet lm1 n).getD 0) ((mGet lm1 y).getD 0)) by simp [lF, mGet_put]]) (fun x hx => by show (mGet (mPut lm1 n _) x).getD 0 = _; rw [mGet_put, if_neg hx]) (by rw [if_pos (show lF lm1 y > S.length + 1 from c114)]) (fun v => by
                   unfold jF
                   rw [mPut_keys]
                   exact ⟨fun h => h.elim (fun h => .inr ⟨h, hparY, c142⟩) .inl, fun h => h.elim .inr (fun h => .inl h.1)⟩))
            | (refine ⟨(i + 1, S2, T ++ Tc, mPut lm1 n (min ((mGet lm1 n).getD 0) ((mGet lm1 y).getD 0)), g122, k122, B1 ++ [e], (add ++ addc) ++ [e], tr ++ e :: trc, jm1, un + 1), ?_, by (try dsimp only); omega, ⟨gInt rfl (by first | rfl | omega | simp), gInt rfl (by first | rfl | omega | simp), rfl, rfl, rfl, rfl, rfl, trivial⟩, _, (by repeat constructor)⟩
               have hparN : ¬ (par ≠ none ∧ lF lm1 y ≥ S.length + 1) := by
                 first
                   | exact fun h => h.1 (hbz.1 (ed_ne_f (f := edZ) c128))
                   | exact fun h => c142 h.2
               refine ⟨by omega, by rw [hS2, List.append_assoc], by rw [hB2, hB, List.append_assoc, List.append_assoc, List.append_assoc], ?_, by omega, by first | exact hjn1 | exact mPut_nodup hjn1⟩
               rw [take_step he]
               exact I.child W V hew hae hyn C (by rw [show lF (mPut lm1 n (min ((mGet lm1 n).getD 0) ((mGet lm1 y).getD 0))) n = (min ((mGet lm1 n).getD 0) ((mGet lm1 y).getD 0)) by simp [lF, mGet_put]]) (fun x hx => by show (mGet (mPut lm1 n _) x).getD 0 = _; rw [mGet_put, if_neg hx]) (by rw [if_pos (show lF lm1 y > S.length + 1 from c114)]) (fun v => ⟨.inl, fun h => h.elim id fun h => absurd h.2 hparN⟩))
            | (refine ⟨(i + 1, S2, T ++ Tc, mPut lm1 n (min ((mGet lm1 n).getD 0) ((mGet lm1 y).getD 0)), g1, c1, B1, add ++ addc, tr ++ e :: trc, mPut jm1 n true, un + 1), ?_, by (try dsimp only); omega, ⟨gInt rfl (by first | rfl | omega | simp), gInt rfl (by first | rfl | omega | simp), rfl, rfl, rfl, rfl, rfl, trivial⟩, _, (by repeat constructor)⟩
               have hparY : par ≠ none := fun h => ed_ne_t (f := edZ) c128 (hbz.2 h)
               refine ⟨by omega, by rw [hS2, List.append_assoc], by rw [hB2, hB, List.append_assoc], ?_, by omega, by first | exact hjn1 | exact mPut_nodup hjn1⟩
               rw [take_step he]
               exact I.child W V hew hae hyn C (by rw [show lF (mPut lm1 n (min ((mGet lm1 n).getD 0) ((mGet lm1 y).getD 0))) n = (min ((mGet lm1 n).getD 0) ((mGet lm1 y).getD 0)) by simp [lF, mGet_put]]) (fun x hx => by show (mGet (mPut lm1 n _) x).getD 0 = _; rw [mGet_put, if_neg hx]) (by rw [if_neg (show ¬ lF lm1 y > S.length + 1 from c114), List.append_nil]) (fun v => by
                   unfold jF
                   rw [mPut_keys]
                   exact ⟨fun h => h.elim (fun h => .inr ⟨h, hparY, c142⟩) .inl, fun h => h.elim .inr (fun h => .inl h.1)⟩))
            | (refine ⟨(i + 1, S2, T ++ Tc, mPut lm1 n (min ((mGet lm1 n).getD 0) ((mGet lm1 y).getD 0)), g1, c1, B1, add ++ addc, tr ++ e :: trc, jm1, un + 1), ?_, by (try dsimp only); omega, ⟨gInt rfl (by first | rfl | omega | simp), gInt rfl (by first | rfl | omega | simp), rfl, rfl, rfl, rfl, rfl, trivial⟩, _, (by repeat constructor)⟩
               have hparN : ¬ (par ≠ none ∧ lF lm1 y ≥ S.length + 1) := by
                 first
                   | exact fun h => h.1 (hbz.1 (ed_ne_f (f := edZ) c128))
                   | exact fun h => c142 h.2
               refine ⟨by omega, by rw [hS2, List.append_assoc], by rw [hB2, hB, List.append_assoc], ?_, by omega, by first | exact hjn1 | exact mPut_nodup hjn1⟩
               rw [take_step he]
               exact I.child W V hew hae hyn C (by rw [show lF (mPut lm1 n (min ((mGet lm1 n).getD 0) ((mGet lm1 y).getD 0))) n = (min ((mGet lm1 n).getD 0) ((mGet lm1 y).getD 0)) by simp [lF, mGet_put]]) (fun x hx => by show (mGet (mPut lm1 n _) x).getD 0 = _; rw [mGet_put, if_neg hx]) (by rw [if_neg (show ¬ lF lm1 y > S.length + 1 from c114), List.append_nil]) (fun v => ⟨.inl, fun h => h.elim id fun h => absurd h.2 hparN⟩))
      · skip
        refine aSkip ?_
        refine aSeq ?_
        have hyn : y ∉ S ++ T := fun h => by
          rw [rk_some h] at *
          simp_all
        have hTr := I.trng W hSr hnr
        have hyr : 1 ≤ y ∧ y ≤ 64 := by rcases hae with ⟨h1, h2⟩ | ⟨h1, h2⟩ <;> omega
        have hB1 : BOk w (S ++ T) B := by rw [hB]; exact hB0.add I.nd I.b1 I.b2
        have hjs : ∀ v ∈ mKeys jm, v ∈ S ++ T := I.jsub hj0
        have hkk : 65 ≤ (S ++ T).length + (k - 1) := by
          obtain ⟨T', hT⟩ := I.hd
          rw [List.length_append, hT, List.length_cons]
          omega
        refine aReg ?_
        refine sp pM ?_
        refine sp pM ?_
        refine sr (by first | exact rBWa ty_86 | exact rBW ty_86 | exact rBA ty_86) ?_
        refine sa ?_
        refine ca rfl rfl rfl (ih (S ++ T) y (some (n, e)) lm g c B jm hk0 (I.pre V hew hae hyn) hTr hyr hB1 hjs hjn hkk) ?_
        rintro _ _ ⟨S2, Tc, lm1, g1, c1, B1, addc, trc, jm1, rfl, rfl, hS2, hB2, C, hjn1⟩
        have hrk2 : (mGet (fmF 0 S2) n).getD 0 = (S.length : Int) + 1 := by
          rw [hS2]
          exact (rk_old (List.mem_append_right _ I.hm)).trans I.rkn
        have hBl : B1.length ≤ 1000000 := by
          have := (hB1.add C.nd C.b1 C.b2).len
          rw [← hB2] at this
          omega
        have hly : (mGet (mPut lm1 n (min ((mGet lm1 n).getD 0) ((mGet lm1 y).getD 0))) y).getD 0 = (mGet lm1 y).getD 0 := by rw [mGet_put, if_neg (fun h => W.ne hew hae h.symm)]
        refine oNil ?_
        refine aSeq ?_
        refine aReg ?_
        refine sp pM ?_
        refine sp pAd ?_
        refine sp pMa ?_
        refine oNil ?_
        refine aSeq ?_
        refine aDrawT br_visitO_r14_t br_visitO_r14_b [18] 19 #[false, false, false, false, false, false, false, false, false, false, false, false, false, false, false, false, false, false, false] (by kernel_rfl) rfl rfl (fun HT => ?_)
        refine dp HT 0 rfl pM ?_
        refine dp HT 1 rfl pNv ?_
        refine dp HT 2 rfl (pFb fd_99_2) ?_
        refine dr HT 3 rfl (rB1 ty_96) ?_
        refine dp HT 4 rfl pM ?_
        refine dp HT 5 rfl pM ?_
        refine dp HT 6 rfl pNv ?_
        refine dp HT 7 rfl (pFb fd_99_2) ?_
        refine dr HT 8 rfl (rB1 ty_96) ?_
        refine dp HT 9 rfl pM ?_
        refine dr HT 10 rfl (rMGi mo_96 ze_3) ?_
        refine dp HT 11 rfl pM ?_
        refine dp HT 12 rfl pNv ?_
        refine dp HT 13 rfl (pFb fd_99_2) ?_
        refine dr HT 14 rfl (rB1 ty_96) ?_
        refine dp HT 15 rfl pM ?_
        refine dr HT 16 rfl (rMGi mo_96 ze_3) ?_
        refine dp HT 17 rfl pMin ?_
        refine dGo ?_
        refine eLast ?_
        refine f1 HT 18 rfl ?_
        first | refine oMP rfl rfl rfl rfl mo_96 ?_ | refine oMapSet rfl rfl rfl rfl rfl (by repeat constructor) mo_96 ?_
        refine fE HT ?_
        clear HT
        refine aSeq ?_
        refine aSeq ?_
        refine aDrawT br_visitO_r15_t br_visitO_r15_b [] 13 #[false, false, false, false, false, false, false, false, false, false, false, false, false] (by kernel_rfl) rfl rfl (fun HT => ?_)
        refine dp HT 0 rfl pM ?_
        refine dp HT 1 rfl pNv ?_
        refine dp HT 2 rfl (pFb fd_99_2) ?_
        refine dr HT 3 rfl (rB1 ty_96) ?_
        refine dp HT 4 rfl pM ?_
        refine dr HT 5 rfl (rMGi mo_96 ze_3) ?_
        rw [hly]
        refine dp HT 6 rfl pM ?_
        refine dp HT 7 rfl pNv ?_
        refine dp HT 8 rfl (pFb fd_99_1) ?_
        refine dr HT 9 rfl (rB1 ty_96) ?_
        refine dp HT 10 rfl pM ?_
        refine dr HT 11 rfl (rMGi mo_96 ze_3) ?_
        rw [hrk2]
        refine dp HT 12 rfl pB ?_
        refine dE HT ?_
        clear HT
        refine aCondDec rfl (fun c114 => ?_) (fun c114 => ?_)
        · skip
          refine aDrawT br_visitO_r16_t br_visitO_r16_b [7, 10] 11 #[false, false, false, false, false, false, false, false, false, false, false] (by kernel_rfl) rfl rfl (fun HT => ?_)
          refine dp HT 0 rfl pM ?_
          refine dp HT 1 rfl pM ?_
          refine dp HT 2 rfl pNv ?_
          refine dp HT 3 rfl (pFb fd_99_3) ?_
          refine dr HT 4 rfl (rB1 ty_56) ?_
          refine dr HT 5 rfl (by first | exact rBWa ty_86 | exact rBW ty_86 | exact rBA ty_86) ?_
          refine dGo ?_
          refine e1 HT 6 rfl ?_
          refine qLit (l := [_]) rfl rfl (by decide) us_56 ty_86 ze_86 rfl (by decide) (by decide) rfl rfl rfl (fun b121 => ?_)
          refine eLast ?_
          refine f1 HT 7 rfl ?_
          refine oAppT [_] rfl rfl (by repeat constructor) (srcOwn rfl (by repeat constructor) rfl) el_56 sl_56 (fun g122 k122 => ?_)
          refine fp HT 8 rfl pNv ?_
          refine fp HT 9 rfl (pFb fd_99_3) ?_
          refine f1 HT 10 rfl ?_
          refine oStB rfl rfl rfl rfl (by repeat constructor) ty_56 rfl (Nat.le_of_ble_eq_true rfl) rfl ?_
          refine fE HT ?_
          clear HT
          refine aSeq ?_
          refine aDrawT br_visitO_r17_t br_visitO_r17_b [] 18 #[false, false, false, false, false, false, false, false, false, false, false, false, false, false, false, false, false, false] (by kernel_rfl) rfl rfl (fun HT => ?_)
          refine dr HT 0 rfl (by first | exact rBWa ty_86 | exact rBW ty_86 | exact rBA ty_86) ?_
          refine dp HT 1 rfl (pBuild rfl st_86 ze_86 rfl rfl rfl rfl) ?_
          refine dp HT 2 rfl (pEqAn eq_86) ?_
          refine dp HT 3 rfl pM ?_
          refine dSplit 128 rfl (fun c128 => ?_) (fun c128 => ?_)
          · skip
            refine dpG HT 4 rfl pM ?_
            refine dpG HT 5 rfl pNv ?_
            refine dpG HT 6 rfl (pFb fd_99_2) ?_
            refine drG HT 7 rfl (rB1 ty_96) ?_
            refine dpG HT 8 rfl pM ?_
            refine drG HT 9 rfl (rMGi mo_96 ze_3) ?_
            rw [hly]
            refine dpG HT 10 rfl pM ?_
            refine dpG HT 11 rfl pNv ?_
            refine dpG HT 12 rfl (pFb fd_99_1) ?_
            refine drG HT 13 rfl (rB1 ty_96) ?_
            refine dpG HT 14 rfl pM ?_
            refine drG HT 15 rfl (rMGi mo_96 ze_3) ?_
            rw [hrk2]
            refine dpG HT 16 rfl pB ?_
            refine dp HT 17 rfl pK ?_
            refine dE HT ?_
            clear HT
            refine aCondDec rfl (fun c142 => ?_) (fun c142 => ?_)
            · skip
              refine aReg ?_
              refine sp pM ?_
              refine sp pNv ?_
              refine sp (pFb fd_99_4) ?_
              refine sr (rB1 ty_97) ?_
              refine sp pM ?_
              refine sa ?_
              first | refine oMP rfl rfl rfl rfl mo_97 ?_ | refine oMapSet rfl rfl rfl rfl rfl (by repeat constructor) mo_97 ?_
              refine oNil ?_
              refine aReg ?_
              refine sp pAd ?_
              refine sp pM ?_
              refine oNil ?_
              first
                | (refine ⟨(i + 1, S ++ T, T, mPut lm n (min ((mGet lm n).getD 0) ((mGet (fmF 0 (S ++ T)) y).getD 0)), g, c, B, add, tr, jm, un), ?_, by (try dsimp only); omega, ⟨gInt rfl (by first | rfl | omega | simp), gInt rfl (by first | rfl | omega | simp), rfl, rfl, rfl, rfl, rfl, trivial⟩, _, (by repeat constructor)⟩
                   have hnb : e ≠ byE par := ed_ne_t c64
                   refine ⟨by omega, rfl, hB, ?_, by omega, hjn⟩
                   rw [take_step he]
                   exact I.seen W V hew hae hyi (by rw [if_pos hnb]; show (mGet (mPut lm n _) n).getD 0 = _; rw [mGet_put, if_pos rfl]; rfl) (fun x hx => by show (mGet (mPut lm n _) x).getD 0 = _; rw [mGet_put, if_neg hx]))
                | (refine ⟨(i + 1, S ++ T, T, lm, g, c, B, add, tr, jm, un), ?_, by (try dsimp only); omega, ⟨gInt rfl (by first | rfl | omega | simp), gInt rfl (by first | rfl | omega | simp), rfl, rfl, rfl, rfl, rfl, trivial⟩, _, (by repeat constructor)⟩
                   have hnb : ¬ e ≠ byE par := fun h => h (ed_ne_f c64)
                   refine ⟨by omega, rfl, hB, ?_, by omega, hjn⟩
                   rw [take_step he]
                   exact I.seen W V hew hae hyi (by rw [if_neg hnb]) (fun x hx => rfl))
                | (refine ⟨(i + 1, S2, T ++ Tc, mPut lm1 n (min ((mGet lm1 n).getD 0) ((mGet lm1 y).getD 0)), g122, k122, B1 ++ [e], (add ++ addc) ++ [e], tr ++ e :: trc, mPut jm1 n true, un + 1), ?_, by (try dsimp only); omega, ⟨gInt rfl (by first | rfl | omega | simp), gInt rfl (by first | rfl | omega | simp), rfl, rfl, rfl, rfl, rfl, trivial⟩, _, (by repeat constructor)⟩
                   have hparY : par ≠ none := fun h => ed_ne_t (f := edZ) c128 (hbz.2 h)
                   refine ⟨by omega, by rw [hS2, List.append_assoc], by rw [hB2, hB, List.append_assoc, List.append_assoc, List.append_assoc], ?_, by omega, by first | exact hjn1 | exact mPut_nodup hjn1⟩
                   rw [take_step he]
                   exact I.child W V hew hae hyn C (by rw [show lF (mPut lm1 n (min ((mGet lm1 n).getD 0) ((mGet lm1 y).getD 0))) n = (min ((mGet lm1 n).getD 0) ((mGet lm1 y).getD 0)) by simp [lF, mGet_put]]) (fun x hx => by show (mGet (mPut lm1 n _) x).getD 0 = _; rw [mGet_put, if_neg hx]) (by rw [if_pos (show lF lm1 y > S.length + 1 from c114)]) (fun v => by
                       unfold jF
                       rw [mPut_keys]
                       exact ⟨fun h => h.elim (fun h => .inr ⟨h, hparY, c142⟩) .inl, fun h => h.elim .inr (fun h => .inl h.1)⟩))
                | (refine ⟨(i + 1, S2, T ++ Tc, mPut lm1 n (min ((mGet lm1 n).getD 0) ((mGet lm1 y).getD 0)), g122, k122, B1 ++ [e], (add ++ addc) ++ [e], tr ++ e :: trc, jm1, un + 1), ?_, by (try dsimp only); omega, ⟨gInt rfl (by first | rfl | omega | simp), gInt rfl (by first | rfl | omega | simp), rfl, rfl, rfl, rfl, rfl, trivial⟩, _, (by repeat constructor)⟩
                   have hparN : ¬ (par ≠ none ∧ lF lm1 y ≥ S.length + 1) := by
                     first
                       | exact fun h => h.1 (hbz.1 (ed_ne_f (f := edZ) c128))
                       | exact fun h => c142 h.2
                   refine ⟨by omega, by rw [hS2, List.append_assoc], by rw [hB2, hB, List.append_assoc, List.append_assoc, List.append_assoc], ?_, by omega, by first | exact hjn1 | exact mPut_nodup hjn1⟩
                   rw [take_step he]
                   exact I.child W V hew hae hyn C (by rw [show lF (mPut lm1 n (min ((mGet lm1 n).getD 0) ((mGet lm1 y).getD 0))) n = (min ((mGet lm1 n).getD 0) ((mGet lm1 y).getD 0)) by simp [lF, mGet_put]]) (fun x hx => by show (mGet (mPut lm1 n _) x).getD 0 = _; rw [mGet_put, if_neg hx]) (by rw [if_pos (show lF lm1 y > S.length + 1 from c114)]) (fun v => ⟨.inl, fun h => h.elim id fun h => absurd h.2 hparN⟩))
                | (refine ⟨(i + 1, S2, T ++ Tc, mPut lm1 n (min ((mGet lm1 n).getD 0) ((mGet lm1 y).getD 0)), g1, c1, B1, add ++ addc, tr ++ e :: trc, mPut jm1 n true, un + 1), ?_, by (try dsimp only); omega, ⟨gInt rfl (by first | rfl | omega | simp), gInt rfl (by first | rfl | omega | simp), rfl, rfl, rfl, rfl, rfl, trivial⟩, _, (by repeat constructor)⟩
                   have hparY : par ≠ none := fun h => ed_ne_t (f := edZ) c128 (hbz.2 h)
                   refine ⟨by omega, by rw [hS2, List.append_assoc], by rw [hB2, hB, List.append_assoc], ?_, by omega, by first | exact hjn1 | exact mPut_nodup hjn1⟩
                   rw [take_step he]
                   exact I.child W V hew hae hyn C (by rw [show lF (mPut lm1 n (min ((mGet lm1 n).getD 0) ((mGet lm1 y).getD 0))) n = (min ((mGet lm1 n).getD 0) ((mGet lm1 y).getD 0)) by simp [lF, mGet_put]]) (fun x hx => by show (mGet (mPut lm1 n _) x).getD 0 = _; rw [mGet_put, if_neg hx]) (by rw [if_neg (show ¬ lF lm1 y > S.length + 1 from c114), List.append_nil]) (fun v => by
                       unfold jF
                       rw [mPut_keys]
                       exact ⟨fun h => h.elim (fun h => .inr ⟨h, hparY, c142⟩) .inl, fun h => h.elim .inr (fun h => .inl h.1)⟩))
                | (refine ⟨(i + 1, S2, T ++ Tc, mPut lm1 n (min ((mGet lm1 n).getD 0) ((mGet lm1 y).getD 0)), g1, c1, B1, add ++ addc, tr ++ e :: trc, jm1, un + 1), ?_, by (try dsimp only); omega, ⟨gInt rfl (by first | rfl | omega | simp), gInt rfl (by first | rfl | omega | simp), rfl, rfl, rfl, rfl, rfl, trivial⟩, _, (by repeat constructor)⟩
                   have hparN : ¬ (par ≠ none ∧ lF lm1 y ≥ S.length + 1) := by
                     first
                       | exact fun h => h.1 (hbz.1 (ed_ne_f (f := edZ) c128))
                       | exact fun h => c142 h.2
                   refine ⟨by omega, by rw [hS2, List.append_assoc], by rw [hB2, hB, List.append_assoc], ?_, by omega, by first | exact hjn1 | exact mPut_nodup hjn1⟩
                   rw [take_step he]
                   exact I.child W V hew hae hyn C (by rw [show lF (mPut lm1 n (min ((mGet lm1 n).getD 0) ((mGet lm1 y).getD 0))) n = (min ((mGet lm1 n).getD 0) ((mGet lm1 y).getD 0)) by simp [lF, mGet_put]]) (fun x hx => by show (mGet (mPut lm1 n _) x).getD 0 = _; rw [mGet_put, if_neg hx]) (by rw [if_neg (show ¬ lF lm1 y > S.length + 1 from c114), List.append_nil]) (fun v => ⟨.inl, fun h => h.elim id fun h => absurd h.2 hparN⟩))
            · skip
              refine aSkip ?_
              refine aReg ?_
              refine sp pAd ?_
              refine sp pM ?_
              refine oNil ?_
              first
                | (refine ⟨(i + 1, S ++ T, T, mPut lm n (min ((mGet lm n).getD 0) ((mGet (fmF 0 (S ++ T)) y).getD 0)), g, c, B, add, tr, jm, un), ?_, by (try dsimp only); omega, ⟨gInt rfl (by first | rfl | omega | simp), gInt rfl (by first | rfl | omega | simp), rfl, rfl, rfl, rfl, rfl, trivial⟩, _, (by repeat constructor)⟩
                   have hnb : e ≠ byE par := ed_ne_t c64
                   refine ⟨by omega, rfl, hB, ?_, by omega, hjn⟩
                   rw [take_step he]
                   exact I.seen W V hew hae hyi (by rw [if_pos hnb]; show (mGet (mPut lm n _) n).getD 0 = _; rw [mGet_put, if_pos rfl]; rfl) (fun x hx => by show (mGet (mPut lm n _) x).getD 0 = _; rw [mGet_put, if_neg hx]))
                | (refine ⟨(i + 1, S ++ T, T, lm, g, c, B, add, tr, jm, un), ?_, by (try dsimp only); omega, ⟨gInt rfl (by first | rfl | omega | simp), gInt rfl (by first | rfl | omega | simp), rfl, rfl, rfl, rfl, rfl, trivial⟩, _, (by repeat constructor)⟩
                   have hnb : ¬ e ≠ byE par := fun h => h (ed_ne_f c64)
                   refine ⟨by omega, rfl, hB, ?_, by omega, hjn⟩
                   rw [take_step he]
                   exact I.seen W V hew hae hyi (by rw [if_neg hnb]) (fun x hx => rfl))
                | (refine ⟨(i + 1, S2, T ++ Tc, mPut lm1 n (min ((mGet lm1 n).getD 0) ((mGet lm1 y).getD 0)), g122, k122, B1 ++ [e], (add ++ addc) ++ [e], tr ++ e :: trc, mPut jm1 n true, un + 1), ?_, by (try dsimp only); omega, ⟨gInt rfl (by first | rfl | omega | simp), gInt rfl (by first | rfl | omega | simp), rfl, rfl, rfl, rfl, rfl, trivial⟩, _, (by repeat constructor)⟩
                   have hparY : par ≠ none := fun h => ed_ne_t (f := edZ) c128 (hbz.2 h)
                   refine ⟨by omega, by rw [hS2, List.append_assoc], by rw [hB2, hB, List.append_assoc, List.append_assoc, List.append_assoc], ?_, by omega, by first | exact hjn1 | exact mPut_nodup hjn1⟩
                   rw [take_step he]
                   exact I.child W V hew hae hyn C (by rw [show lF (mPut lm1 n (min ((mGet lm1 n).getD 0) ((mGet lm1 y).getD 0))) n = (min ((mGet lm1 n).getD 0) ((mGet lm1 y).getD 0)) by simp [lF, mGet_put]]) (fun x hx => by show (mGet (mPut lm1 n _) x).getD 0 = _; rw [mGet_put, if_neg hx]) (by rw [if_pos (show lF lm1 y > S.length + 1 from c114)]) (fun v => by
                       unfold jF
                       rw [mPut_keys]
                       exact ⟨fun h => h.elim (fun h => .inr ⟨h, hparY, c142⟩) .inl, fun h => h.elim .inr (fun h => .inl h.1)⟩))
                | (refine ⟨(i + 1, S2, T ++ Tc, mPut lm1 n (min ((mGet lm1 n).getD 0) ((mGet lm1 y).getD 0)), g122, k122, B1 ++ [e], (add ++ addc) ++ [e], tr ++ e :: trc, jm1, un + 1), ?_, by (try dsimp only); omega, ⟨gInt rfl (by first | rfl | omega | simp), gInt rfl (by first | rfl | omega | simp), rfl, rfl, rfl, rfl, rfl, trivial⟩, _, (by repeat constructor)⟩
                   have hparN : ¬ (par ≠ none ∧ lF lm1 y ≥ S.length + 1) := by
                     first
                       | exact fun h => h.1 (hbz.1 (ed_ne_f (f := edZ) c128))
                       | exact fun h => c142 h.2
                   refine ⟨by omega, by rw [hS2, List.append_assoc], by rw [hB2, hB, List.append_assoc, List.append_assoc, List.append_assoc], ?_, by omega, by first | exact hjn1 | exact mPut_nodup hjn1⟩
                   rw [take_step he]
                   exact I.child W V hew hae hyn C (by rw [show lF (mPut lm1 n (min ((mGet lm1 n).getD 0) ((mGet lm1 y).getD 0))) n = (min ((mGet lm1 n).getD 0) ((mGet lm1 y).getD 0)) by simp [lF, mGet_put]]) (fun x hx => by show (mGet (mPut lm1 n _) x).getD 0 = _; rw [mGet_put, if_neg hx]) (by rw [if_pos (show lF lm1 y > S.length + 1 from c114)]) (fun v => ⟨.inl, fun h => h.elim id fun h => absurd h.2 hparN⟩))
                | (refine ⟨(i + 1, S2, T ++ Tc, mPut lm1 n (min ((mGet lm1 n).getD 0) ((mGet lm1 y).getD 0)), g1, c1, B1, add ++ addc, tr ++ e :: trc, mPut jm1 n true, un + 1), ?_, by (try dsimp only); omega, ⟨gInt rfl (by first | rfl | omega | simp), gInt rfl (by first | rfl | omega | simp), rfl, rfl, rfl, rfl, rfl, trivial⟩, _, (by repeat constructor)⟩
                   have hparY : par ≠ none := fun h => ed_ne_t (f := edZ) c128 (hbz.2 h)
                   refine ⟨by omega, by rw [hS2, List.append_assoc], by rw [hB2, hB, List.append_assoc], ?_, by omega, by first | exact hjn1 | exact mPut_nodup hjn1⟩
                   rw [take_step he]
                   exact I.child W V hew hae hyn C (by rw [show lF (mPut lm1 n (min ((mGet lm1 n).getD 0) ((mGet lm1 y).getD 0))) n = (min ((mGet lm1 n).getD 0) ((mGet lm1 y).getD 0)) by simp [lF, mGet_put]]) (fun x hx => by show (mGet (mPut lm1 n _) x).getD 0 = _; rw [mGet_put, if_neg hx]) (by rw [if_neg (show ¬ lF lm1 y > S.length + 1 from c114), List.append_nil]) (fun v => by
                       unfold jF
                       rw [mPut_keys]
                       exact ⟨fun h => h.elim (fun h => .inr ⟨h, hparY, c142⟩) .inl, fun h => h.elim .inr (fun h => .inl h.1)⟩))
                | (refine ⟨(i + 1, S2, T ++ Tc, mPut lm1 n (min ((mGet lm1 n).getD 0) ((mGet lm1 y).getD 0)), g1, c1, B1, add ++ addc, tr ++ e :: trc, jm1, un + 1), ?_, by (try dsimp only); omega, ⟨gInt rfl (by first | rfl | omega | simp), gInt rfl (by first | rfl | omega | simp), rfl, rfl, rfl, rfl, rfl, trivial⟩, _, (by repeat constructor)⟩
                   have hparN : ¬ (par ≠ none ∧ lF lm1 y ≥ S.length + 1) := by
                     first
                       | exact fun h => h.1 (hbz.1 (ed_ne_f (f := edZ) c128))
                       | exact fun h => c142 h.2
                   refine ⟨by omega, by rw [hS2, List.append_assoc], by rw [hB2, hB, List.append_assoc], ?_, by omega, by first | exact hjn1 | exact mPut_nodup hjn1⟩
                   rw [take_step he]
                   exact I.child W V hew hae hyn C (by rw [show lF (mPut lm1 n (min ((mGet lm1 n).getD 0) ((mGet lm1 y).getD 0))) n = (min ((mGet lm1 n).getD 0) ((mGet lm1 y).getD 0)) by simp [lF, mGet_put]]) (fun x hx => by show (mGet (mPut lm1 n _) x).getD 0 = _; rw [mGet_put, if_neg hx]) (by rw [if_neg (show ¬ lF lm1 y > S.length + 1 from c114), List.append_nil]) (fun v => ⟨.inl, fun h => h.elim id fun h => absurd h.2 hparN⟩))
          · skip
            refine dS HT 4 rfl ?_
            refine dS HT 5 rfl ?_
            refine dS HT 6 rfl ?_
            refine dS HT 7 rfl ?_
            refine dS HT 8 rfl ?_
            refine dS HT 9 rfl ?_
            refine dS HT 10 rfl ?_
            refine dS HT 11 rfl ?_
            refine dS HT 12 rfl ?_
            refine dS HT 13 rfl ?_
            refine dS HT 14 rfl ?_
            refine dS HT 15 rfl ?_
            refine dS HT 16 rfl ?_
            refine dp HT 17 rfl pK ?_
            refine dE HT ?_
            clear HT
            refine aCondF rfl ?_
            refine aSkip ?_
            refine aReg ?_
            refine sp pAd ?_
            refine sp pM ?_
            refine oNil ?_
            first
              | (refine ⟨(i + 1, S ++ T, T, mPut lm n (min ((mGet lm n).getD 0) ((mGet (fmF 0 (S ++ T)) y).getD 0)), g, c, B, add, tr, jm, un), ?_, by (try dsimp only); omega, ⟨gInt rfl (by first | rfl | omega | simp), gInt rfl (by first | rfl | omega | simp), rfl, rfl, rfl, rfl, rfl, trivial⟩, _, (by repeat constructor)⟩
                 have hnb : e ≠ byE par := ed_ne_t c64
                 refine ⟨by omega, rfl, hB, ?_, by omega, hjn⟩
                 rw [take_step he]
                 exact I.seen W V hew hae hyi (by rw [if_pos hnb]; show (mGet (mPut lm n _) n).getD 0 = _; rw [mGet_put, if_pos rfl]; rfl) (fun x hx => by show (mGet (mPut lm n _) x).getD 0 = _; rw [mGet_put, if_neg hx]))
              | (refine ⟨(i + 1, S ++ T, T, lm, g, c, B, add, tr, jm, un), ?_, by (try dsimp only); omega, ⟨gInt rfl (by first | rfl | omega | simp), gInt rfl (by first | rfl | omega | simp), rfl, rfl, rfl, rfl, rfl, trivial⟩, _, (by repeat constructor)⟩
                 have hnb : ¬ e ≠ byE par := fun h => h (ed_ne_f c64)
                 refine ⟨by omega, rfl, hB, ?_, by omega, hjn⟩
                 rw [take_step he]
                 exact I.seen W V hew hae hyi (by rw [if_neg hnb]) (fun x hx => rfl))
              | (refine ⟨(i + 1, S2, T ++ Tc, mPut lm1 n (min ((mGet lm1 n).getD 0) ((mGet lm1 y).getD 0)), g122, k122, B1 ++ [e], (add ++ addc) ++ [e], tr ++ e :: trc, mPut jm1 n true, un + 1), ?_, by (try dsimp only); omega, ⟨gInt rfl (by first | rfl | omega | simp), gInt rfl (by first | rfl | omega | simp), rfl, rfl, rfl, rfl, rfl, trivial⟩, _, (by repeat constructor)⟩
                 have hparY : par ≠ none := fun h => ed_ne_t (f := edZ) c128 (hbz.2 h)
                 refine ⟨by omega, by rw [hS2, List.append_assoc], by rw [hB2, hB, List.append_assoc, List.append_assoc, List.append_assoc], ?_, by omega, by first | exact hjn1 | exact mPut_nodup hjn1⟩
                 rw [take_step he]
                 exact I.child W V hew hae hyn C (by rw [show lF (mPut lm1 n (min ((mGet lm1 n).getD 0) ((mGet lm1 y).getD 0))) n = (min ((mGet lm1 n).getD 0) ((mGet lm1 y).getD 0)) by simp [lF, mGet_put]]) (fun x hx => by show (mGet (mPut lm1 n _) x).getD 0 = _; rw [mGet_put, if_neg hx]) (by rw [if_pos (show lF lm1 y > S.length + 1 from c114)]) (fun v => by
                     unfold jF
                     rw [mPut_keys]
                     exact ⟨fun h => h.elim (fun h => .inr ⟨h, hparY, c142⟩) .inl, fun h => h.elim .inr (fun h => .inl h.1)⟩))
              | (refine ⟨(i + 1, S2, T ++ Tc, mPut lm1 n (min ((mGet lm1 n).getD 0) ((mGet lm1 y).getD 0)), g122, k122, B1 ++ [e], (add ++ addc) ++ [e], tr ++ e :: trc, jm1, un + 1), ?_, by (try dsimp only); omega, ⟨gInt rfl (by first | rfl | omega | simp), gInt rfl (by first | rfl | omega | simp), rfl, rfl, rfl, rfl, rfl, trivial⟩, _, (by repeat constructor)⟩
                 have hparN : ¬ (par ≠ none ∧ lF lm1 y ≥ S.length + 1) := by
                   first
                     | exact fun h => h.1 (hbz.1 (ed_ne_f (f := edZ) c128))
                     | exact fun h => c142 h.2
                 refine ⟨by omega, by rw [hS2, List.append_assoc], by rw [hB2, hB, List.append_assoc, List.append_assoc, List.append_assoc], ?_, by omega, by first | exact hjn1 | exact mPut_nodup hjn1⟩
                 rw [take_step he]
                 exact I.child W V hew hae hyn C (by rw [show lF (mPut lm1 n (min ((mGet lm1 n).getD 0) ((mGet lm1 y).getD 0))) n = (min ((mGet lm1 n).getD 0) ((mGet lm1 y).getD 0)) by simp [lF, mGet_put]]) (fun x hx => by show (mGet (mPut lm1 n _) x).getD 0 = _; rw [mGet_put, if_neg hx]) (by rw [if_pos (show lF lm1 y > S.length + 1 from c114)]) (fun v => ⟨.inl, fun h => h.elim id fun h => absurd h.2 hparN⟩))
              | (refine ⟨(i + 1, S2, T ++ Tc, mPut lm1 n (min ((mGet lm1 n).getD 0) ((mGet lm1 y).getD 0)), g1, c1, B1, add ++ addc, tr ++ e :: trc, mPut jm1 n true, un + 1), ?_, by (try dsimp only); omega, ⟨gInt rfl (by first | rfl | omega | simp), gInt rfl (by first | rfl | omega | simp), rfl, rfl, rfl, rfl, rfl, trivial⟩, _, (by repeat constructor)⟩
                 have hparY : par ≠ none := fun h => ed_ne_t (f := edZ) c128 (hbz.2 h)
                 refine ⟨by omega, by rw [hS2, List.append_assoc], by rw [hB2, hB, List.append_assoc], ?_, by omega, by first | exact hjn1 | exact mPut_nodup hjn1⟩
                 rw [take_step he]
                 exact I.child W V hew hae hyn C (by rw [show lF (mPut lm1 n (min ((mGet lm1 n).getD 0) ((mGet lm1 y).getD 0))) n = (min ((mGet lm1 n).getD 0) ((mGet lm1 y).getD 0)) by simp [lF, mGet_put]]) (fun x hx => by show (mGet (mPut lm1 n _) x).getD 0 = _; rw [mGet_put, if_neg hx]) (by rw [if_neg (show ¬ lF lm1 y > S.length + 1 from c114), List.append_nil]) (fun v => by
                     unfold jF
                     rw [mPut_keys]
                     exact ⟨fun h => h.elim (fun h => .inr ⟨h, hparY, c142⟩) .inl, fun h => h.elim .inr (fun h => .inl h.1)⟩))
              | (refine ⟨(i + 1, S2, T ++ Tc, mPut lm1 n (min ((mGet lm1 n).getD 0) ((mGet lm1 y).getD 0)), g1, c1, B1, add ++ addc, tr ++ e :: trc, jm1, un + 1), ?_, by (try dsimp only); omega, ⟨gInt rfl (by first | rfl | omega | simp), gInt rfl (by first | rfl | omega | simp), rfl, rfl, rfl, rfl, rfl, trivial⟩, _, (by repeat constructor)⟩
                 have hparN : ¬ (par ≠ none ∧ lF lm1 y ≥ S.length + 1) := by
                   first
                     | exact fun h => h.1 (hbz.1 (ed_ne_f (f := edZ) c128))
                     | exact fun h => c142 h.2
                 refine ⟨by omega, by rw [hS2, List.append_assoc], by rw [hB2, hB, List.append_assoc], ?_, by omega, by first | exact hjn1 | exact mPut_nodup hjn1⟩
                 rw [take_step he]
                 exact I.child W V hew hae hyn C (by rw [show lF (mPut lm1 n (min ((mGet lm1 n).getD 0) ((mGet lm1 y).getD 0))) n = (min ((mGet lm1 n).getD 0) ((mGet lm1 y).getD 0)) by simp [lF, mGet_put]]) (fun x hx => by show (mGet (mPut lm1 n _) x).getD 0 = _; rw [mGet_put, if_neg hx]) (by rw [if_neg (show ¬ lF lm1 y > S.length + 1 from c114), List.append_nil]) (fun v => ⟨.inl, fun h => h.elim id fun h => absurd h.2 hparN⟩))
        · skip
          refine aSkip ?_
          refine aSeq ?_
          refine aDrawT br_visitO_r17_t br_visitO_r17_b [] 18 #[false, false, false, false, false, false, false, false, false, false, false, false, false, false, false, false, false, false] (by kernel_rfl) rfl rfl (fun HT => ?_)
          refine dr HT 0 rfl (by first | exact rBWa ty_86 | exact rBW ty_86 | exact rBA ty_86) ?_
          refine dp HT 1 rfl (pBuild rfl st_86 ze_86 rfl rfl rfl rfl) ?_
          refine dp HT 2 rfl (pEqAn eq_86) ?_
          refine dp HT 3 rfl pM ?_
          refine dSplit 128 rfl (fun c128 => ?_) (fun c128 => ?_)
          · skip
            refine dpG HT 4 rfl pM ?_
            refine dpG HT 5 rfl pNv ?_
            refine dpG HT 6 rfl (pFb fd_99_2) ?_
            refine drG HT 7 rfl (rB1 ty_96) ?_
            refine dpG HT 8 rfl pM ?_
            refine drG HT 9 rfl (rMGi mo_96 ze_3) ?_
            rw [hly]
            refine dpG HT 10 rfl pM ?_
            refine dpG HT 11 rfl pNv ?_
            refine dpG HT 12 rfl (pFb fd_99_1) ?_
            refine drG HT 13 rfl (rB1 ty_96) ?_
            refine dpG HT 14 rfl pM ?_
            refine drG HT 15 rfl (rMGi mo_96 ze_3) ?_
            rw [hrk2]
            refine dpG HT 16 rfl pB ?_
            refine dp HT 17 rfl pK ?_
            refine dE HT ?_
            clear HT
            refine aCondDec rfl (fun c142 => ?_) (fun c142 => ?_)
            · skip
              refine aReg ?_
              refine sp pM ?_
              refine sp pNv ?_
              refine sp (pFb fd_99_4) ?_
              refine sr (rB1 ty_97) ?_
              refine sp pM ?_
              refine sa ?_
              first | refine oMP rfl rfl rfl rfl mo_97 ?_ | refine oMapSet rfl rfl rfl rfl rfl (by repeat constructor) mo_97 ?_
              refine oNil ?_
              refine aReg ?_
              refine sp pAd ?_
              refine sp pM ?_
              refine oNil ?_
              first
                | (refine ⟨(i + 1, S ++ T, T, mPut lm n (min ((mGet lm n).getD 0) ((mGet (fmF 0 (S ++ T)) y).getD 0)), g, c, B, add, tr, jm, un), ?_, by (try dsimp only); omega, ⟨gInt rfl (by first | rfl | omega | simp), gInt rfl (by first | rfl | omega | simp), rfl, rfl, rfl, rfl, rfl, trivial⟩, _, (by repeat constructor)⟩
                   have hnb : e ≠ byE par := ed_ne_t c64
                   refine ⟨by omega, rfl, hB, ?_, by omega, hjn⟩
                   rw [take_step he]
                   exact I.seen W V hew hae hyi (by rw [if_pos hnb]; show (mGet (mPut lm n _) n).getD 0 = _; rw [mGet_put, if_pos rfl]; rfl) (fun x hx => by show (mGet (mPut lm n _) x).getD 0 = _; rw [mGet_put, if_neg hx]))
                | (refine ⟨(i + 1, S ++ T, T, lm, g, c, B, add, tr, jm, un), ?_, by (try dsimp only); omega, ⟨gInt rfl (by first | rfl | omega | simp), gInt rfl (by first | rfl | omega | simp), rfl, rfl, rfl, rfl, rfl, trivial⟩, _, (by repeat constructor)⟩
                   have hnb : ¬ e ≠ byE par := fun h => h (ed_ne_f c64)
                   refine ⟨by omega, rfl, hB, ?_, by omega, hjn⟩
                   rw [take_step he]
                   exact I.seen W V hew hae hyi (by rw [if_neg hnb]) (fun x hx => rfl))
                | (refine ⟨(i + 1, S2, T ++ Tc, mPut lm1 n (min ((mGet lm1 n).getD 0) ((mGet lm1 y).getD 0)), g122, k122, B1 ++ [e], (add ++ addc) ++ [e], tr ++ e :: trc, mPut jm1 n true, un + 1), ?_, by (try dsimp only); omega, ⟨gInt rfl (by first | rfl | omega | simp), gInt rfl (by first | rfl | omega | simp), rfl, rfl, rfl, rfl, rfl, trivial⟩, _, (by repeat constructor)⟩
                   have hparY : par ≠ none := fun h => ed_ne_t (f := edZ) c128 (hbz.2 h)
                   refine ⟨by omega, by rw [hS2, List.append_assoc], by rw [hB2, hB, List.append_assoc, List.append_assoc, List.append_assoc], ?_, by omega, by first | exact hjn1 | exact mPut_nodup hjn1⟩
                   rw [take_step he]
                   exact I.child W V hew hae hyn C (by rw [show lF (mPut lm1 n (min ((mGet lm1 n).getD 0) ((mGet lm1 y).getD 0))) n = (min ((mGet lm1 n).getD 0) ((mGet lm1 y).getD 0)) by simp [lF, mGet_put]]) (fun x hx => by show (mGet (mPut lm1 n _) x).getD 0 = _; rw [mGet_put, if_neg hx]) (by rw [if_pos (show lF lm1 y > S.length + 1 from c114)]) (fun v => by
                       unfold jF
                       rw [mPut_keys]
                       exact ⟨fun h => h.elim (fun h => .inr ⟨h, hparY, c142⟩) .inl, fun h => h.elim .inr (fun h => .inl h.1)⟩))
                | (refine ⟨(i + 1, S2, T ++ Tc, mPut lm1 n (min ((mGet lm1 n).getD 0) ((mGet lm1 y).getD 0)), g122, k122, B1 ++ [e], (add ++ addc) ++ [e], tr ++ e :: trc, jm1, un + 1), ?_, by (try dsimp only); omega, ⟨gInt rfl (by first | rfl | omega | simp), gInt rfl (by first | rfl | omega | simp), rfl, rfl, rfl, rfl, rfl, trivial⟩, _, (by repeat constructor)⟩
                   have hparN : ¬ (par ≠ none ∧ lF lm1 y ≥ S.length + 1) := by
                     first
                       | exact fun h => h.1 (hbz.1 (ed_ne_f (f := edZ) c128))
                       | exact fun h => c142 h.2
                   refine ⟨by omega, by rw [hS2, List.append_assoc], by rw [hB2, hB, List.append_assoc, List.append_assoc, List.append_assoc], ?_, by omega, by first | exact hjn1 | exact mPut_nodup hjn1⟩
                   rw [take_step he]
                   exact I.child W V hew hae hyn C (by rw [show lF (mPut lm1 n (min ((mGet lm1 n).getD 0) ((mGet lm1 y).getD 0))) n = (min ((mGet lm1 n).getD 0) ((mGet lm1 y).getD 0)) by simp [lF, mGet_put]]) (fun x hx => by show (mGet (mPut lm1 n _) x).getD 0 = _; rw [mGet_put, if_neg hx]) (by rw [if_pos (show lF lm1 y > S.length + 1 from c114)]) (fun v => ⟨.inl, fun h => h.elim id fun h => absurd h.2 hparN⟩))
                | (refine ⟨(i + 1, S2, T ++ Tc, mPut lm1 n (min ((mGet lm1 n).getD 0) ((mGet lm1 y).getD 0)), g1, c1, B1, add ++ addc, tr ++ e :: trc, mPut jm1 n true, un + 1), ?_, by (try dsimp only); omega, ⟨gInt rfl (by first | rfl | omega | simp), gInt rfl (by first | rfl | omega | simp), rfl, rfl, rfl, rfl, rfl, trivial⟩, _, (by repeat constructor)⟩
                   have hparY : par ≠ none := fun h => ed_ne_t (f := edZ) c128 (hbz.2 h)
                   refine ⟨by omega, by rw [hS2, List.append_assoc], by rw [hB2, hB, List.append_assoc], ?_, by omega, by first | exact hjn1 | exact mPut_nodup hjn1⟩
                   rw [take_step he]
                   exact I.child W V hew hae hyn C (by rw [show lF (mPut lm1 n (min ((mGet lm1 n).getD 0) ((mGet lm1 y).getD 0))) n = (min ((mGet lm1 n).getD 0) ((mGet lm1 y).getD 0)) by simp [lF, mGet_put]]) (fun x hx => by show (mGet (mPut lm1 n _) x).getD 0 = _; rw [mGet_put, if_neg hx]) (by rw [if_neg (show ¬ lF lm1 y > S.length + 1 from c114), List.append_nil]) (fun v => by
                       unfold jF
                       rw [mPut_keys]
                       exact ⟨fun h => h.elim (fun h => .inr ⟨h, hparY, c142⟩) .inl, fun h => h.elim .inr (fun h => .inl h.1)⟩))
                | (refine ⟨(i + 1, S2, T ++ Tc, mPut lm1 n (min ((mGet lm1 n).getD 0) ((mGet lm1 y).getD 0)), g1, c1, B1, add ++ addc, tr ++ e :: trc, jm1, un + 1), ?_, by (try dsimp only); omega, ⟨gInt rfl (by first | rfl | omega | simp), gInt rfl (by first | rfl | omega | simp), rfl, rfl, rfl, rfl, rfl, trivial⟩, _, (by repeat constructor)⟩
                   have hparN : ¬ (par ≠ none ∧ lF lm1 y ≥ S.length + 1) := by
                     first
                       | exact fun h => h.1 (hbz.1 (ed_ne_f (f := edZ) c128))
                       | exact fun h => c142 h.2
                   refine ⟨by omega, by rw [hS2, List.append_assoc], by rw [hB2, hB, List.append_assoc], ?_, by omega, by first | exact hjn1 | exact mPut_nodup hjn1⟩
                   rw [take_step he]
                   exact I.child W V hew hae hyn C (by rw [show lF (mPut lm1 n (min ((mGet lm1 n).getD 0) ((mGet lm1 y).getD 0))) n = (min ((mGet lm1 n).getD 0) ((mGet lm1 y).getD 0)) by simp [lF, mGet_put]]) (fun x hx => by show (mGet (mPut lm1 n _) x).getD 0 = _; rw [mGet_put, if_neg hx]) (by rw [if_neg (show ¬ lF lm1 y > S.length + 1 from c114), List.append_nil]) (fun v => ⟨.inl, fun h => h.elim id fun h => absurd h.2 hparN⟩))
            · skip
              refine aSkip ?_
              refine aReg ?_
              refine sp pAd ?_
              refine sp pM ?_
              refine oNil ?_
              first
                | (refine ⟨(i + 1, S ++ T, T, mPut lm n (min ((mGet lm n).getD 0) ((mGet (fmF 0 (S ++ T)) y).getD 0)), g, c, B, add, tr, jm, un), ?_, by (try dsimp only); omega, ⟨gInt rfl (by first | rfl | omega | simp), gInt rfl (by first | rfl | omega | simp), rfl, rfl, rfl, rfl, rfl, trivial⟩, _, (by repeat constructor)⟩
                   have hnb : e ≠ byE par := ed_ne_t c64
                   refine ⟨by omega, rfl, hB, ?_, by omega, hjn⟩
                   rw [take_step he]
                   exact I.seen W V hew hae hyi (by rw [if_pos hnb]; show (mGet (mPut lm n _) n).getD 0 = _; rw [mGet_put, if_pos rfl]; rfl) (fun x hx => by show (mGet (mPut lm n _) x).getD 0 = _; rw [mGet_put, if_neg hx]))
                | (refine ⟨(i + 1, S ++ T, T, lm, g, c, B, add, tr, jm, un), ?_, by (try dsimp only); omega, ⟨gInt rfl (by first | rfl | omega | simp), gInt rfl (by first | rfl | omega | simp), rfl, rfl, rfl, rfl, rfl, trivial⟩, _, (by repeat constructor)⟩
                   have hnb : ¬ e ≠ byE par := fun h => h (ed_ne_f c64)
                   refine ⟨by omega, rfl, hB, ?_, by omega, hjn⟩
                   rw [take_step he]
                   exact I.seen W V hew hae hyi (by rw [if_neg hnb]) (fun x hx => rfl))
                | (refine ⟨(i + 1, S2, T ++ Tc, mPut lm1 n (min ((mGet lm1 n).getD 0) ((mGet lm1 y).getD 0)), g122, k122, B1 ++ [e], (add ++ addc) ++ [e], tr ++ e :: trc, mPut jm1 n true, un + 1), ?_, by (try dsimp only); omega, ⟨gInt rfl (by first | rfl | omega | simp), gInt rfl (by first | rfl | omega | simp), rfl, rfl, rfl, rfl, rfl, trivial⟩, _, (by repeat constructor)⟩
                   have hparY : par ≠ none := fun h => ed_ne_t (f := edZ) c128 (hbz.2 h)
                   refine ⟨by omega, by rw [hS2, List.append_assoc], by rw [hB2, hB, List.append_assoc, List.append_assoc, List.append_assoc], ?_, by omega, by first | exact hjn1 | exact mPut_nodup hjn1⟩
                   rw [take_step he]
                   exact I.child W V hew hae hyn C (by rw [show lF (mPut lm1 n (min ((mGet lm1 n).getD 0) ((mGet lm1 y).getD 0))) n = (min ((mGet lm1 n).getD 0) ((mGet lm1 y).getD 0)) by simp [lF, mGet_put]]) (fun x hx => by show (mGet (mPut lm1 n _) x).getD 0 = _; rw [mGet_put, if_neg hx]) (by rw [if_pos (show lF lm1 y > S.length + 1 from c114)]) (fun v => by
                       unfold jF
                       rw [mPut_keys]
                       exact ⟨fun h => h.elim (fun h => .inr ⟨h, hparY, c142⟩) .inl, fun h => h.elim .inr (fun h => .inl h.1)⟩))
                | (refine ⟨(i + 1, S2, T ++ Tc, mPut lm1 n (min ((mGet lm1 n).getD 0) ((mGet lm1 y).getD 0)), g122, k122, B1 ++ [e], (add ++ addc) ++ [e], tr ++ e :: trc, jm1, un + 1), ?_, by (try dsimp only); omega, ⟨gInt rfl (by first | rfl | omega | simp), gInt rfl (by first | rfl | omega | simp), rfl, rfl, rfl, rfl, rfl, trivial⟩, _, (by repeat constructor)⟩
                   have hparN : ¬ (par ≠ none ∧ lF lm1 y ≥ S.length + 1) := by
                     first
                       | exact fun h => h.1 (hbz.1 (ed_ne_f (f := edZ) c128))
                       | exact fun h => c142 h.2
                   refine ⟨by omega, by rw [hS2, List.append_assoc], by rw [hB2, hB, List.append_assoc, List.append_assoc, List.append_assoc], ?_, by omega, by first | exact hjn1 | exact mPut_nodup hjn1⟩
                   rw [take_step he]
                   exact I.child W V hew hae hyn C (by rw [show lF (mPut lm1 n (min ((mGet lm1 n).getD 0) ((mGet lm1 y).getD 0))) n = (min ((mGet lm1 n).getD 0) ((mGet lm1 y).getD 0)) by simp [lF, mGet_put]]) (fun x hx => by show (mGet (mPut lm1 n _) x).getD 0 = _; rw [mGet_put, if_neg hx]) (by rw [if_pos (show lF lm1 y > S.length + 1 from c114)]) (fun v => ⟨.inl, fun h => h.elim id fun h => absurd h.2 hparN⟩))
                | (refine ⟨(i + 1, S2, T ++ Tc, mPut lm1 n (min ((mGet lm1 n).getD 0) ((mGet lm1 y).getD 0)), g1, c1, B1, add ++ addc, tr ++ e :: trc, mPut jm1 n true, un + 1), ?_, by (try dsimp only); omega, ⟨gInt rfl (by first | rfl | omega | simp), gInt rfl (by first | rfl | omega | simp), rfl, rfl, rfl, rfl, rfl, trivial⟩, _, (by repeat constructor)⟩
                   have hparY : par ≠ none := fun h => ed_ne_t (f := edZ) c128 (hbz.2 h)
                   refine ⟨by omega, by rw [hS2, List.append_assoc], by rw [hB2, hB, List.append_assoc], ?_, by omega, by first | exact hjn1 | exact mPut_nodup hjn1⟩
                   rw [take_step he]
                   exact I.child W V hew hae hyn C (by rw [show lF (mPut lm1 n (min ((mGet lm1 n).getD 0) ((mGet lm1 y).getD 0))) n = (min ((mGet lm1 n).getD 0) ((mGet lm1 y).getD 0)) by simp [lF, mGet_put]]) (fun x hx => by show (mGet (mPut lm1 n _) x).getD 0 = _; rw [mGet_put, if_neg hx]) (by rw [if_neg (show ¬ lF lm1 y > S.length + 1 from c114), List.append_nil]) (fun v => by
                       unfold jF
                       rw [mPut_keys]
                       exact ⟨fun h => h.elim (fun h => .inr ⟨h, hparY, c142⟩) .inl, fun h => h.elim .inr (fun h => .inl h.1)⟩))
                | (refine ⟨(i + 1, S2, T ++ Tc, mPut lm1 n (min ((mGet lm1 n).getD 0) ((mGet lm1 y).getD 0)), g1, c1, B1, add ++ addc, tr ++ e :: trc, jm1, un + 1), ?_, by (try dsimp only); omega, ⟨gInt rfl (by first | rfl | omega | simp), gInt rfl (by first | rfl | omega | simp), rfl, rfl, rfl, rfl, rfl, trivial⟩, _, (by repeat constructor)⟩
                   have hparN : ¬ (par ≠ none ∧ lF lm1 y ≥ S.length + 1) := by
                     first
                       | exact fun h => h.1 (hbz.1 (ed_ne_f (f := edZ) c128))
                       | exact fun h => c142 h.2
                   refine ⟨by omega, by rw [hS2, List.append_assoc], by rw [hB2, hB, List.append_assoc], ?_, by omega, by first | exact hjn1 | exact mPut_nodup hjn1⟩
                   rw [take_step he]
                   exact I.child W V hew hae hyn C (by rw [show lF (mPut lm1 n (min ((mGet lm1 n).getD 0) ((mGet lm1 y).getD 0))) n = (min ((mGet lm1 n).getD 0) ((mGet lm1 y).getD 0)) by simp [lF, mGet_put]]) (fun x hx => by show (mGet (mPut lm1 n _) x).getD 0 = _; rw [mGet_put, if_neg hx]) (by rw [if_neg (show ¬ lF lm1 y > S.length + 1 from c114), List.append_nil]) (fun v => ⟨.inl, fun h => h.elim id fun h => absurd h.2 hparN⟩))
          · skip
            refine dS HT 4 rfl ?_
            refine dS HT 5 rfl ?_
            refine dS HT 6 rfl ?_
            refine dS HT 7 rfl ?_
            refine dS HT 8 rfl ?_
            refine dS HT 9 rfl ?_
            refine dS HT 10 rfl ?_
            refine dS HT 11 rfl ?_
            refine dS HT 12 rfl ?_
            refine dS HT 13 rfl ?_
            refine dS HT 14 rfl ?_
            refine dS HT 15 rfl ?_
            refine dS HT 16 rfl ?_
            refine dp HT 17 rfl pK ?_
            refine dE HT ?_
            clear HT
            refine aCondF rfl ?_
            refine aSkip ?_
            refine aReg ?_
            refine sp pAd ?_
            refine sp pM ?_
            refine oNil ?_
            first
              | (refine ⟨(i + 1, S ++ T, T, mPut lm n (min ((mGet lm n).getD 0) ((mGet (fmF 0 (S ++ T)) y).getD 0)), g, c, B, add, tr, jm, un), ?_, by (try dsimp only); omega, ⟨gInt rfl (by first | rfl | omega | simp), gInt rfl (by first | rfl | omega | simp), rfl, rfl, rfl, rfl, rfl, trivial⟩, _, (by repeat constructor)⟩
                 have hnb : e ≠ byE par := ed_ne_t c64
                 refine ⟨by omega, rfl, hB, ?_, by omega, hjn⟩
                 rw [take_step he]
                 exact I.seen W V hew hae hyi (by rw [if_pos hnb]; show (mGet (mPut lm n _) n).getD 0 = _; rw [mGet_put, if_pos rfl]; rfl) (fun x hx => by show (mGet (mPut lm n _) x).getD 0 = _; rw [mGet_put, if_neg hx]))
              | (refine ⟨(i + 1, S ++ T, T, lm, g, c, B, add, tr, jm, un), ?_, by (try dsimp only); omega, ⟨gInt rfl (by first | rfl | omega | simp), gInt rfl (by first | rfl | omega | simp), rfl, rfl, rfl, rfl, rfl, trivial⟩, _, (by repeat constructor)⟩
                 have hnb : ¬ e ≠ byE par := fun h => h (ed_ne_f c64)
                 refine ⟨by omega, rfl, hB, ?_, by omega, hjn⟩
                 rw [take_step he]
                 exact I.seen W V hew hae hyi (by rw [if_neg hnb]) (fun x hx => rfl))
              | (refine ⟨(i + 1, S2, T ++ Tc, mPut lm1 n (min ((mGet lm1 n).getD 0) ((mGet lm1 y).getD 0)), g122, k122, B1 ++ [e], (add ++ addc) ++ [e], tr ++ e :: trc, mPut jm1 n true, un + 1), ?_, by (try dsimp only); omega, ⟨gInt rfl (by first | rfl | omega | simp), gInt rfl (by first | rfl | omega | simp), rfl, rfl, rfl, rfl, rfl, trivial⟩, _, (by repeat constructor)⟩
                 have hparY : par ≠ none := fun h => ed_ne_t (f := edZ) c128 (hbz.2 h)
                 refine ⟨by omega, by rw [hS2, List.append_assoc], by rw [hB2, hB, List.append_assoc, List.append_assoc, List.append_assoc], ?_, by omega, by first | exact hjn1 | exact mPut_nodup hjn1⟩
                 rw [take_step he]
                 exact I.child W V hew hae hyn C (by rw [show lF (mPut lm1 n (min ((mGet lm1 n).getD 0) ((mGet lm1 y).getD 0))) n = (min ((mGet lm1 n).getD 0) ((mGet lm1 y).getD 0)) by simp [lF, mGet_put]]) (fun x hx => by show (mGet (mPut lm1 n _) x).getD 0 = _; rw [mGet_put, if_neg hx]) (by rw [if_pos (show lF lm1 y > S.length + 1 from c114)]) (fun v => by
                     unfold jF
                     rw [mPut_keys]
                     exact ⟨fun h => h.elim (fun h => .inr ⟨h, hparY, c142⟩) .inl, fun h => h.elim .inr (fun h => .inl h.1)⟩))
              | (refine ⟨(i + 1, S2, T ++ Tc, mPut lm1 n (min ((mGet lm1 n).getD 0) ((mGet lm1 y).getD 0)), g122, k122, B1 ++ [e], (add ++ addc) ++ [e], tr ++ e :: trc, jm1, un + 1), ?_, by (try dsimp only); omega, ⟨gInt rfl (by first | rfl | omega | simp), gInt rfl (by first | rfl | omega | simp), rfl, rfl, rfl, rfl, rfl, trivial⟩, _, (by repeat constructor)⟩
                 have hparN : ¬ (par ≠ none ∧ lF lm1 y ≥ S.length + 1) := by
                   first
                     | exact fun h => h.1 (hbz.1 (ed_ne_f (f := edZ) c128))
                     | exact fun h => c142 h.2
                 refine ⟨by omega, by rw [hS2, List.append_assoc], by rw [hB2, hB, List.append_assoc, List.append_assoc, List.append_assoc], ?_, by omega, by first | exact hjn1 | exact mPut_nodup hjn1⟩
                 rw [take_step he]
                 exact I.child W V hew hae hyn C (by rw [show lF (mPut lm1 n (min ((mGet lm1 n).getD 0) ((mGet lm1 y).getD 0))) n = (min ((mGet lm1 n).getD 0) ((mGet lm1 y).getD 0)) by simp [lF, mGet_put]]) (fun x hx => by show (mGet (mPut lm1 n _) x).getD 0 = _; rw [mGet_put, if_neg hx]) (by rw [if_pos (show lF lm1 y > S.length + 1 from c114)]) (fun v => ⟨.inl, fun h => h.elim id fun h => absurd h.2 hparN⟩))
              | (refine ⟨(i + 1, S2, T ++ Tc, mPut lm1 n (min ((mGet lm1 n).getD 0) ((mGet lm1 y).getD 0)), g1, c1, B1, add ++ addc, tr ++ e :: trc, mPut jm1 n true, un + 1), ?_, by (try dsimp only); omega, ⟨gInt rfl (by first | rfl | omega | simp), gInt rfl (by first | rfl | omega | simp), rfl, rfl, rfl, rfl, rfl, trivial⟩, _, (by repeat constructor)⟩
                 have hparY : par ≠ none := fun h => ed_ne_t (f := edZ) c128 (hbz.2 h)
                 refine ⟨by omega, by rw [hS2, List.append_assoc], by rw [hB2, hB, List.append_assoc], ?_, by omega, by first | exact hjn1 | exact mPut_nodup hjn1⟩
                 rw [take_step he]
                 exact I.child W V hew hae hyn C (by rw [show lF (mPut lm1 n (min ((mGet lm1 n).getD 0) ((mGet lm1 y).getD 0))) n = (min ((mGet lm1 n).getD 0) ((mGet lm1 y).getD 0)) by simp [lF, mGet_put]]) (fun x hx => by show (mGet (mPut lm1 n _) x).getD 0 = _; rw [mGet_put, if_neg hx]) (by rw [if_neg (show ¬ lF lm1 y > S.length + 1 from c114), List.append_nil]) (fun v => by
                     unfold jF
                     rw [mPut_keys]
                     exact ⟨fun h => h.elim (fun h => .inr ⟨h, hparY, c142⟩) .inl, fun h => h.elim .inr (fun h => .inl h.1)⟩))
              | (refine ⟨(i + 1, S2, T ++ Tc, mPut lm1 n (min ((mGet lm1 n).getD 0) ((mGet lm1 y).getD 0)), g1, c1, B1, add ++ addc, tr ++ e :: trc, jm1, un + 1), ?_, by (try dsimp only); omega, ⟨gInt rfl (by first | rfl | omega | simp), gInt rfl (by first | rfl | omega | simp), rfl, rfl, rfl, rfl, rfl, trivial⟩, _, (by repeat constructor)⟩
                 have hparN : ¬ (par ≠ none ∧ lF lm1 y ≥ S.length + 1) := by
                   first
                     | exact fun h => h.1 (hbz.1 (ed_ne_f (f := edZ) c128))
                     | exact fun h => c142 h.2
                 refine ⟨by omega, by rw [hS2, List.append_assoc], by rw [hB2, hB, List.append_assoc], ?_, by omega, by first | exact hjn1 | exact mPut_nodup hjn1⟩
                 rw [take_step he]
                 exact I.child W V hew hae hyn C (by rw [show lF (mPut lm1 n (min ((mGet lm1 n).getD 0) ((mGet lm1 y).getD 0))) n = (min ((mGet lm1 n).getD 0) ((mGet lm1 y).getD 0)) by simp [lF, mGet_put]]) (fun x hx => by show (mGet (mPut lm1 n _) x).getD 0 = _; rw [mGet_put, if_neg hx]) (by rw [if_neg (show ¬ lF lm1 y > S.length + 1 from c114), List.append_nil]) (fun v => ⟨.inl, fun h => h.elim id fun h => absurd h.2 hparN⟩))
    · skip
      refine aExit rfl ?_
      refine aSeq ?_
      refine aReg ?_
      refine sr (by first | exact rBWa ty_86 | exact rBW ty_86 | exact rBA ty_86) ?_
      refine sp (pBuild rfl st_86 ze_86 rfl rfl rfl rfl) ?_
      refine sp (pEqAe eq_86) ?_
      refine sp pM ?_
      refine oSplit 152 rfl (fun c152 => ?_) (fun c152 => ?_)
      · skip
        refine gp pM ?_
        refine gp pB ?_
        refine sp pK ?_
        refine oNil ?_
        refine aCondDec rfl (fun c155 => ?_) (fun c155 => ?_)
        · skip
          refine aReg ?_
          refine sp pM ?_
          refine sp pNv ?_
          refine sp (pFb fd_99_4) ?_
          refine sr (rB1 ty_97) ?_
          refine sp pM ?_
          refine sa ?_
          first | refine oMP rfl rfl rfl rfl mo_97 ?_ | refine oMapSet rfl rfl rfl rfl rfl (by repeat constructor) mo_97 ?_
          refine oNil ?_
          obtain rfl : i = (incF w n).length := by omega
          rw [List.take_length] at I
          refine ⟨_, [BX sb eb fb lb jb g (B).length c, .map eb (kvM (slS 3 edC) em), .map fb (kvM inA (fmF 0 (S1))), .map lb (kvM inA lm), .map jb (kvM boA _), .sl g c 86 3 ((B).map edC)], _, rfl, (.cons (by repeat constructor) (.cons (by repeat constructor) (.cons (by repeat constructor) (.cons (by repeat constructor) (.cons (by repeat constructor) (.cons (by repeat constructor) .nil)))))), S1, T, lm, g, c, B, add, tr, _, rfl, rfl, hS1, hB, I.fin W V (fun h => V.new (hj0 n h)) inc_all ?_, by first | exact hjn | exact mPut_nodup hjn⟩
          first
            | exact fun v => by
                unfold jF
                rw [mPut_keys]
                exact ⟨fun h => h.elim (fun h => .inr ⟨h, hbz.1 (ed_eq_t (f := edZ) c152), by omega⟩) .inl, fun h => h.elim .inr (fun h => .inl h.1)⟩
            | exact fun v => ⟨.inl, fun h => h.elim id fun h => absurd h.2 fun h => ed_eq_f (f := edZ) c152 (hbz.2 h.1)⟩
            | exact fun v => ⟨.inl, fun h => h.elim id fun h => absurd h.2 fun h => by omega⟩
        · skip
          refine aSkip ?_
          obtain rfl : i = (incF w n).length := by omega
          rw [List.take_length] at I
          refine ⟨_, [BX sb eb fb lb jb g (B).length c, .map eb (kvM (slS 3 edC) em), .map fb (kvM inA (fmF 0 (S1))), .map lb (kvM inA lm), .map jb (kvM boA _), .sl g c 86 3 ((B).map edC)], _, rfl, (.cons (by repeat constructor) (.cons (by repeat constructor) (.cons (by repeat constructor) (.cons (by repeat constructor) (.cons (by repeat constructor) (.cons (by repeat constructor) .nil)))))), S1, T, lm, g, c, B, add, tr, _, rfl, rfl, hS1, hB, I.fin W V (fun h => V.new (hj0 n h)) inc_all ?_, by first | exact hjn | exact mPut_nodup hjn⟩
          first
            | exact fun v => by
                unfold jF
                rw [mPut_keys]
                exact ⟨fun h => h.elim (fun h => .inr ⟨h, hbz.1 (ed_eq_t (f := edZ) c152), by omega⟩) .inl, fun h => h.elim .inr (fun h => .inl h.1)⟩
            | exact fun v => ⟨.inl, fun h => h.elim id fun h => absurd h.2 fun h => ed_eq_f (f := edZ) c152 (hbz.2 h.1)⟩
            | exact fun v => ⟨.inl, fun h => h.elim id fun h => absurd h.2 fun h => by omega⟩
      · skip
        refine gf ?_
        refine gf ?_
        refine sp pK ?_
        refine oNil ?_
        refine aCondF rfl ?_
        refine aSkip ?_
        obtain rfl : i = (incF w n).length := by omega
        rw [List.take_length] at I
        refine ⟨_, [BX sb eb fb lb jb g (B).length c, .map eb (kvM (slS 3 edC) em), .map fb (kvM inA (fmF 0 (S1))), .map lb (kvM inA lm), .map jb (kvM boA _), .sl g c 86 3 ((B).map edC)], _, rfl, (.cons (by repeat constructor) (.cons (by repeat constructor) (.cons (by repeat constructor) (.cons (by repeat constructor) (.cons (by repeat constructor) (.cons (by repeat constructor) .nil)))))), S1, T, lm, g, c, B, add, tr, _, rfl, rfl, hS1, hB, I.fin W V (fun h => V.new (hj0 n h)) inc_all ?_, by first | exact hjn | exact mPut_nodup hjn⟩
        first
          | exact fun v => by
              unfold jF
              rw [mPut_keys]
              exact ⟨fun h => h.elim (fun h => .inr ⟨h, hbz.1 (ed_eq_t (f := edZ) c152), by omega⟩) .inl, fun h => h.elim .inr (fun h => .inl h.1)⟩
          | exact fun v => ⟨.inl, fun h => h.elim id fun h => absurd h.2 fun h => ed_eq_f (f := edZ) c152 (hbz.2 h.1)⟩
          | exact fun v => ⟨.inl, fun h => h.elim id fun h => absurd h.2 fun h => by omega⟩
end A
end Go.Proofs.Ytnabkchagjjjnaa
