/- Slices of the call's own: literals, elements written, appends, making; lending; letting go. Over any program. -/
import Derived.Test.YtmcannmjielalaaAbs6
set_option linter.unusedVariables false
set_option linter.unusedSimpArgs false
namespace Go.Proofs.Ytmcannmjielalaa
namespace A

variable {P : Program} {N : Nat} {env : Env} {h : List HA} {K : Cont} {X : List (Nat × Cont)} {Rt : Cont}

/-! ### A slice that is written out -/
theorem fill_parts {F : Nat → Prop} {w : World} {sz : Nat} : ∀ (avs : List AV) (vs : List Value) (k : Nat) (cells : Array Value), vs.length = avs.length → (∀ (i : Nat) av x, avs[i]? = some av → vs[i]? = some x → Rep F w av x) →
    (∀ av ∈ avs, (avCells av).length = sz) → (k + avs.length) * sz ≤ cells.size →
    ∃ out : Array Value, Instr.fill (fun i => some (i * sz, sz)) cells ((List.range' k avs.length).zip vs) = some out ∧ out.size = cells.size ∧
      (∀ j, j < k * sz → out[j]? = cells[j]?) ∧ (∀ (i : Nat) x, vs[i]? = some x → ∀ j, j < sz → out[(k + i) * sz + j]? = x.cells[j]?)
  | [], [], k, cells, _, _, _, _ => ⟨cells, by simp [Instr.fill], rfl, fun _ _ => rfl, fun i x hx => by simp at hx⟩
  | [], _ :: _, k, cells, hl, _, _, _ => by simp at hl
  | _ :: _, [], k, cells, hl, _, _, _ => by simp at hl
  | av :: avs, x :: vs, k, cells, hl, hr, hz, hc => by
    have hx : x.cells.size = sz := by rw [(rep_cells (hr 0 av x rfl rfl)).1]; exact hz av (by simp)
    have hsplice : ∀ (ns : List Value) (cs : Array Value) (o : Nat), o + ns.length ≤ cs.size →
        ∀ s, ((ns.zipIdx s).foldl (fun cs (c, j) => cs.setIfInBounds (o + j) c) cs).size = cs.size ∧
          ∀ j, ((ns.zipIdx s).foldl (fun cs (c, j) => cs.setIfInBounds (o + j) c) cs)[j]? = if o + s ≤ j ∧ j < o + s + ns.length ∧ j < cs.size then ns[j - (o + s)]? else cs[j]? := by
      intro ns
      induction ns with
      | nil => intro cs o h s; refine ⟨rfl, fun j => ?_⟩; rw [if_neg (by simp; omega)]; rfl
      | cons n ns ih =>
        intro cs o h s
        simp only [List.zipIdx_cons, List.foldl_cons]
        obtain ⟨i1, i2⟩ := ih (cs.setIfInBounds (o + s) n) o (by simp at h ⊢; omega) (s + 1)
        refine ⟨by rw [i1]; simp, fun j => ?_⟩
        rw [i2 j]
        simp only [Array.size_setIfInBounds, List.length_cons]
        by_cases h1 : o + (s + 1) ≤ j ∧ j < o + (s + 1) + ns.length ∧ j < cs.size
        · rw [if_pos h1, if_pos (by omega)]
          have : j - (o + s) = (j - (o + (s + 1))) + 1 := by omega
          rw [this, List.getElem?_cons_succ]
        · rw [if_neg h1, Array.getElem?_setIfInBounds]
          by_cases h2 : o + s = j
          · rw [if_pos h2]
            subst h2
            by_cases h3 : o + s < cs.size
            · rw [if_pos h3, if_pos (by omega)]; simp
            · rw [if_neg h3, if_neg (by omega)]
              exact (Array.getElem?_eq_none (by omega)).symm
          · rw [if_neg h2, if_neg (by omega)]
    have hk : k * sz + sz ≤ cells.size := by
      have := hc
      simp only [List.length_cons] at this
      have h2 : (k + 1) * sz ≤ (k + (avs.length + 1)) * sz := Nat.mul_le_mul_right _ (by omega)
      rw [Nat.add_mul, Nat.one_mul] at h2
      omega
    obtain ⟨s1, s2⟩ := hsplice x.cells.toList cells (k * sz) (by simpa [hx] using hk) 0
    obtain ⟨out, h1, h2, h3, h4⟩ := fill_parts avs vs (k + 1) ((x.cells.toList.zipIdx 0).foldl (fun cs (c, j) => cs.setIfInBounds (k * sz + j) c) cells) (by simpa using hl) (fun i a b ha hb => hr (i + 1) a b (by simpa using ha) (by simpa using hb)) (fun a ha => hz a (by simp [ha])) (by rw [s1]; simpa [Nat.add_assoc, Nat.add_comm 1] using hc)
    refine ⟨out, ?_, by rw [h2, s1], fun j hj => ?_, fun i y hy j hj => ?_⟩
    · simp only [List.length_cons, List.range'_succ, List.zip_cons_cons, Instr.fill, hx]
      rw [if_neg (by simp; omega)]
      rw [← h1, ← Array.foldl_toList, Array.toList_zipIdx]
    · rw [h3 j (by rw [Nat.add_mul]; omega), s2 j, if_neg (by omega)]
    · cases i with
      | zero =>
        simp only [List.getElem?_cons_zero, Option.some.injEq] at hy
        subst hy
        rw [Nat.add_zero, h3 _ (by rw [Nat.add_mul]; omega), s2, if_pos (by simp [hx]; omega)]
        simp
      | succ i =>
        simp only [List.getElem?_cons_succ] at hy
        have := h4 i y hy j hj
        rwa [show k + 1 + i = k + (i + 1) by omega] at this

theorem evs_get {F : Nat → Prop} {a : Act} {w : World} (s : Sat N F env h a w) {xs : List Operand} {l : List AV} (hl : evs env xs = some l) : xs.length = l.length ∧ ∀ (i : Nat) av x, l[i]? = some av → (xs.map a.eval)[i]? = some x → Rep F w av x := by
  obtain ⟨h1, h2⟩ := reps_evs s xs l hl
  exact ⟨by simpa using h1, fun i av x hi hx => h2 i av x hi (by simpa using hx)⟩

/-- '[]T{x, y, ..}', each place written out. -/
theorem qLit {o : Oper} {t e : TypeId} {len sz d : Nat} {g : Bool} {z : Value} {parts : Array (Nat × Operand)} {l : List AV} (ho : o.op = .buildSlice t len parts) (hd : o.dst = some d) (hN : d < N) (hu : P.underlying t = some (.slice e)) (ht : tyOf P e = some (sz, g)) (hz : zeroOf P e = some z)
    (hzs : z.cells.size = sz) (hlen : len * sz ≤ 16777216) (hsz : sz ≠ 0) (hi : parts.toList.map (·.1) = List.range' 0 len) (hl : evs env (parts.toList.map (·.2)) = some l) (hc0 : l.all (fun av => Nat.beq (avCells av).length sz && oneOf av) = true)
    (hk : ∀ b, K ((d, .v (slV (some b) len len)) :: env) (.sl (some b) len e sz (l.map avCells) :: h)) : AOpQ P N o env h K := by
  have hc : ∀ av ∈ l, (avCells av).length = sz ∧ oneOf av = true := fun av hav => by
    have := List.all_eq_true.1 hc0 av hav
    rw [Bool.and_eq_true] at this
    exact ⟨Nat.eq_of_beq_eq_true this.1, this.2⟩
  intro B F a w Q s ex hdef
  obtain ⟨hl1, hl2⟩ := evs_get s hl
  have hll : l.length = len := by
    have h1 := congrArg List.length hi
    simp at h1
    rw [← hl1, ← h1]
    simp
  have hzip : (parts.map fun (i, x) => (i, a.eval x)).toList = (List.range' 0 l.length).zip ((parts.toList.map (·.2)).map a.eval) := by
    rw [hll, ← hi, List.map_map, Array.toList_map, List.zip_map']
    rfl
  obtain ⟨out, h1, h2, h3, h4⟩ := fill_parts (F := F) (w := w) (sz := sz) l ((parts.toList.map (·.2)).map a.eval) 0 ((Array.range (len * sz)).map (fun i => (if len * sz = 0 then #[] else z.cells)[i % (if len * sz = 0 then #[] else z.cells).size]!)) (by rw [List.length_map]; exact hl1) hl2 (fun av hav => (hc av hav).1) (by simp [hll])
  have hsize : out.size = len * sz := by rw [h2]; simp
  have hget : ∀ i j, i < len → j < sz → ∃ x, ((parts.toList.map (·.2)).map a.eval)[i]? = some x ∧ out[i * sz + j]? = x.cells[j]? := fun i j hi' hj => by
    have : i < ((parts.toList.map (·.2)).map a.eval).length := by rw [List.length_map, hl1, hll]; exact hi'
    refine ⟨_, List.getElem?_eq_getElem this, ?_⟩
    have := h4 i _ (List.getElem?_eq_getElem this) j hj
    rwa [Nat.zero_add] at this
  have hone : ∀ x ∈ out.toList, x.oneCell' = true := fun x hx => by
    obtain ⟨k, hk'⟩ := List.mem_iff_getElem?.1 hx
    have hk2 : out[k]? = some x := by simpa using hk'
    have hklt : k < len * sz := by rw [← hsize]; exact (Array.getElem?_eq_some_iff.1 hk2).1
    have hsz0 : 0 < sz := by omega
    have hdiv : k / sz < len := (Nat.div_lt_iff_lt_mul hsz0).2 hklt
    obtain ⟨y, hy1, hy2⟩ := hget (k / sz) (k % sz) hdiv (Nat.mod_lt _ hsz0)
    rw [Nat.mul_comm, Nat.div_add_mod, hk2] at hy2
    have hav : ∃ av, l[k / sz]? = some av := ⟨_, List.getElem?_eq_getElem (by rw [hll]; exact hdiv)⟩
    obtain ⟨av, hav⟩ := hav
    exact rep_one (hl2 _ av y hav hy1) (hc av (List.mem_of_getElem? hav)).2 x (Array.mem_of_getElem? hy2.symm)
  obtain ⟨hr, he, hag⟩ := s.r.new (o := .cells out e) (x := .sl (some w.heap.size) len e sz (l.map avCells)) rfl (by
    have e1 : (l.map avCells).length = len := by rw [List.length_map, hll]
    rw [HARep, e1]
    refine ⟨out.toList, ⟨by rw [Array.length_toList, hsize], .inr ⟨w.heap.size, len, out, rfl, Nat.zero_le _, heap_new w _, Nat.le_refl _, ?_, hsize, ?_⟩⟩, ?_, hone, ?_⟩
    · have : len ≤ len * sz := Nat.le_mul_of_pos_right _ (by omega)
      simp only [maxLen]
      omega
    · rw [← hsize, ← Array.length_toList, List.take_length]
    · intro y hy
      obtain ⟨av, hav, rfl⟩ := List.mem_map.1 hy
      exact (hc av hav).1
    · intro i j y av x hi' hj hx
      rw [List.getElem?_map, Option.map_eq_some_iff] at hi'
      obtain ⟨av0, hav0, rfl⟩ := hi'
      have hilt : i < len := by rw [← hll]; exact (List.getElem?_eq_some_iff.1 hav0).1
      have hjlt : j < sz := by rw [← (hc av0 (List.mem_of_getElem? hav0)).1]; exact (List.getElem?_eq_some_iff.1 hj).1
      obtain ⟨y, hy1, hy2⟩ := hget i j hilt hjlt
      have hx2 : out[i * sz + j]? = some x := by simpa using hx
      rw [hx2] at hy2
      exact ((rep_cells (hl2 i av0 y hav0 hy1)).2 j av x hj hy2.symm).mono (fun _ h => h) (fun b hb => heap_old w _ b (s.r.sep b hb).1))
  have hrun : (execOp a.eval o).run P w = .ok (.value (slV (some w.heap.size) len len)) (w.alloc (.cells out e)) := by
    have hnl : ¬ (16777216 < len * sz) := by omega
    simp only [execOp, ho, Instr.buildSlice, Sem.run_bind, run_underlying' hu, Result.andThen_ok, run_sizeOf ht]
    simp only [Nat.reducePow, gt_iff_lt, hnl, if_false, Sem.run_pure, Result.andThen_ok]
    rw [hzip]
    by_cases h0 : len * sz = 0
    · simp only [h0, if_true] at h1
      simp only [h0, if_true, Sem.run_bind, Sem.run_pure, Result.andThen_ok]
      rw [h1]
      simp [newRow, slV]
    · simp only [h0, if_false] at h1
      simp only [h0, if_false, Sem.run_bind, run_zero hz, Result.andThen_ok, Sem.run_pure]
      rw [h1]
      simp [newRow, slV]
  unfold Oper.wp
  rw [hrun, Oper.upon_value, hd]
  exact ⟨hdef, F, _, _, hk _, s.put he hr hN (.v _), ex.trans he, hag, fun _ h => h, fun b hb => .inl (by simp [hb])⟩

/-! ### Appends -/
/-- What is appended: a slice whose elements are known. -/
theorem src_sl {F : Nat → Prop} {h : List HA} {w : World} {sz : Nat} {es : List (List AV)} {x : Value} {t e : TypeId} (hu : P.underlying t = some (.slice e)) (hr : Rep F w (.sl sz es) x) : ∃ news : List Value, Src P sz t x es.length news w ∧
    ∀ (i j : Nat) y av v, es[i]? = some y → y[j]? = some av → news[i * sz + j]? = some v → Rep F w av v := by
  cases hr with
  | sl0 =>
    have hl0 : ∀ w', (loadCells (⟨0, 0, none⟩ : Addr) 0).run P w' = .ok #[] w' := fun w' => by simp [loadCells, loadCellsFrom]
    refine ⟨[], ⟨.inl ⟨e, hu⟩, fun w' => by simp [Builtin.lenOf], ?_, ?_, by simp, by simp⟩, fun i j y av v hi => by simp at hi⟩
    all_goals
      rename_i a c
      cases a <;> simp [Builtin.firstCells, loadCells, loadCellsFrom]
  | sl _ _ b o c X hF hc hz hX h1 hR =>
    have hsz : ∀ k, k < es.length * sz → 0 < sz ∧ k / sz < es.length ∧ k % sz < sz := fun k hk => by
      have h0 : 0 < sz := by
        rcases Nat.eq_zero_or_pos sz with h | h
        · rw [h, Nat.mul_zero] at hk; omega
        · exact h
      exact ⟨h0, (Nat.div_lt_iff_lt_mul h0).2 hk, Nat.mod_lt _ h0⟩
    have hcell : ∀ k, k < es.length * sz → w.cell? ((⟨b, o, none⟩ : Addr).add k) = some (X (k / sz) (k % sz)) := fun k hk => by
      obtain ⟨_, h3, h4⟩ := hsz k hk
      have := hX (k / sz) (k % sz) h3 h4
      rw [add_none]
      rwa [Nat.mul_comm, Nat.div_add_mod] at this
    have hrun : ∀ w', (∀ k, w'.cell? k = w.cell? k) → (Builtin.firstCells sz es.length (.slice (some ⟨b, o, none⟩) es.length c)).run P w' = .ok ((List.range (es.length * sz)).map fun k => X (k / sz) (k % sz)).toArray w' := fun w' hw => by
      simp only [Builtin.firstCells]
      exact run_loadCells w' ⟨b, o, none⟩ (es.length * sz) _ (fun k hk => by rw [hw]; exact hcell k hk)
    refine ⟨(List.range (es.length * sz)).map fun k => X (k / sz) (k % sz), ⟨.inl ⟨e, hu⟩, fun w' => by simp [Builtin.lenOf], hrun w (fun _ => rfl), hrun w.drew (fun _ => rfl), by simp, ?_⟩, ?_⟩
    · intro u hu
      simp only [List.mem_map, List.mem_range] at hu
      obtain ⟨k, hk, rfl⟩ := hu
      obtain ⟨_, h3, h4⟩ := hsz k hk
      exact h1 _ _ h3 h4
    · intro i j y av v hi hj hv
      have hilt : i < es.length := (List.getElem?_eq_some_iff.1 hi).1
      have hjlt : j < sz := by rw [← hz y (List.mem_of_getElem? hi)]; exact (List.getElem?_eq_some_iff.1 hj).1
      have hlt := idx_lt hilt hjlt
      rw [List.getElem?_map, List.getElem?_range hlt, Option.map_some, Option.some.injEq] at hv
      have e1 : (i * sz + j) / sz = i := by rw [Nat.mul_comm, Nat.mul_add_div (by omega), Nat.div_eq_of_lt hjlt, Nat.add_zero]
      have e2 : (i * sz + j) % sz = j := by rw [Nat.mul_comm, Nat.mul_add_mod, Nat.mod_eq_of_lt hjlt]
      rw [e1, e2] at hv
      rw [← hv]
      exact hR i j y av hi hj

theorem src_own {F : Nat → Prop} {h : List HA} {w : World} {g : Option Nat} {c e0 sz : Nat} {es : List (List AV)} {t e : TypeId} (hu : P.underlying t = some (.slice e)) (hr : HARep F w (.sl g c e0 sz es)) : ∃ news : List Value, Src P sz t (slV g es.length c) es.length news w ∧
    ∀ (i j : Nat) y av v, es[i]? = some y → y[j]? = some av → news[i * sz + j]? = some v → Rep F w av v := by
  cases g with
  | none =>
    obtain ⟨xs, ⟨h1, h2⟩, h3, h4, h5⟩ := hr
    have hn : es.length = 0 := by
      rcases h2 with ⟨_, h⟩ | ⟨b, _, _, h, _⟩
      · exact h
      · simp [slV] at h
    have hx : xs = [] := List.eq_nil_of_length_eq_zero (by rw [h1, hn, Nat.zero_mul])
    subst hx
    have he : es = [] := List.eq_nil_of_length_eq_zero hn
    subst he
    exact ⟨[], ⟨.inl ⟨e, hu⟩, fun w' => by simp [Builtin.lenOf, slV], by simp [Builtin.firstCells, slV], by simp [Builtin.firstCells, slV], by simp, by simp⟩, fun i j y av v hi => by simp at hi⟩
  | some b =>
    obtain ⟨xs, h1, h2, h3, h4, h5⟩ := own_cells hr
    have hrun : ∀ w', (∀ k, w'.cell? k = w.cell? k) → (Builtin.firstCells sz es.length (slV (some b) es.length c)).run P w' = .ok xs.toArray w' := fun w' hw => by
      simp only [Builtin.firstCells, slV, Option.map_some]
      rw [← h1]
      exact run_loadCells_list w' ⟨b, 0, none⟩ xs (fun j v hj => by rw [add_none, Nat.zero_add, hw]; exact h4 j v hj)
    exact ⟨xs, ⟨.inl ⟨e, hu⟩, fun w' => by simp [Builtin.lenOf, slV], hrun w (fun _ => rfl), hrun w.drew (fun _ => rfl), h1, h3⟩, h5⟩

theorem growBy_le {need : Nat} : ∀ (k c : Nat), c < need → 256 ≤ c → Builtin.growBy need k c ≤ 2 * need
  | 0, c, h, _ => by simp only [Builtin.growBy]; omega
  | k + 1, c, h, h2 => by
    simp only [Builtin.growBy]
    rw [if_neg (by omega)]
    by_cases h3 : c + (c + 768) / 4 < need
    · exact growBy_le k _ h3 (by omega)
    · cases k with
      | zero => simp only [Builtin.growBy]; omega
      | succ k => simp only [Builtin.growBy]; rw [if_pos (by omega)]; omega
theorem nextslicecap_le' {need c : Nat} (h : c < need) : Builtin.nextslicecap need c ≤ 2 * need := by
  unfold Builtin.nextslicecap
  split
  · omega
  · split
    · omega
    · exact growBy_le 4 c h (by omega)

theorem size_zeroCells' (z : Array Value) (n : Nat) : (Builtin.zeroCells z n).size = n * z.size := by simp [Builtin.zeroCells]

/-- An append to a slice of the call's own: there is room, or there is not. -/
theorem run_appendO {w : World} {t tx ty e : TypeId} {i : TypeInfo} {z : Value} {sz : Nat} {g : Option Nat} {n c : Nat} {xs : List Value} {x : Value} {m : Nat} {news : List Value} (ht : P.underlying t = some (.slice e)) (hi : P.info? e = some i) (hz : i.zero = some z) (hsz : i.size = sz) (hzs : z.cells.size = sz) (h0 : 0 < sz)
    (ho : w.ownsRow 0 e sz (slV g n c) n xs) (hs : Src P sz tx x m news w) (h63 : n + m ≤ 9223372036854775807) (hby : (n + m) * i.bytes ≤ 140737488355328) :
    ∃ g' c' w', (Builtin.append_ #[t, tx] ty #[slV g n c, x]).run P w = .ok (slV g' (n + m) c') w' ∧ w'.ownsRow 0 e sz (slV g' (n + m) c') (n + m) (xs ++ news) ∧ w'.os = w.os ∧ w'.output = w.output ∧ w'.tape = w.tape ∧ w.heap.size ≤ w'.heap.size ∧
      (∀ b, g' = some b → g = some b ∨ b = w.heap.size ∧ w'.heap.size = w.heap.size + 1) ∧ (∀ b, b < w.heap.size → g ≠ some b → w'.heap[b]? = w.heap[b]?) ∧ w.drawn ≤ w'.drawn := by
  subst hsz
  have hlen : (xs ++ news).length = (n + m) * i.size := by rw [List.length_append, ho.1, hs.newsLen, Nat.add_mul]
  by_cases hroom : n + m ≤ c
  · rcases ho.2 with ⟨hv, hn⟩ | ⟨b, cap, cur, hv, _, hg, hnc, hcm, hcs, htake⟩
    · -- nil, and nothing is appended
      have hc0 : c = 0 := by simp [slV] at hv; exact hv.2.2
      have hg0 : g = none := by simp [slV] at hv; cases g <;> simp_all
      subst hg0
      have hm : m = 0 := by omega
      subst hm; subst hn; subst hc0
      have hx : news = [] := List.eq_nil_of_length_eq_zero (by rw [hs.newsLen, Nat.zero_mul])
      subst hx
      refine ⟨none, 0, w, ?_, ?_, rfl, rfl, rfl, Nat.le_refl _, fun b hb => by simp at hb, fun _ _ _ => rfl, Nat.le_refl _⟩
      · rcases hs.kind with ⟨e', hk⟩ | hk <;> simp [slV, Builtin.append_, run_underlying ht, run_underlying hk, sizeOf, typeInfo, hi, hs.len, hs.cells]
      · simpa using ho
    · have hgb : g = some b := by
        cases g with
        | none => simp [slV] at hv
        | some b' => simp [slV] at hv; rw [hv.1]
      have hcc : c = cap := by subst hgb; simp [slV] at hv; exact hv
      subst hgb; subst hcc
      have hfit : n * i.size + news.length ≤ cur.size := by rw [hs.newsLen, hcs, ← Nat.add_mul]; exact Nat.mul_le_mul_right _ hroom
      have hst := run_storeCells_at P b (n * i.size) e news 0 cur w hg (by simpa using hfit) hs.one
      simp only [Nat.add_zero] at hst
      refine ⟨some b, c, w.setRow b (cur.toList.take (n * i.size) ++ news ++ cur.toList.drop (n * i.size + news.length)).toArray, ?_, ⟨hlen, .inr ⟨b, c, _, rfl, Nat.zero_le _, setRow_heap w b cur _ e _ hg, hroom, hcm, ?_, ?_⟩⟩, rfl, rfl, rfl, by simp, fun k hk => .inl (by rw [hk]), fun k _ hk => setRow_other w b k _ (fun e => hk (by rw [e])), Nat.le_refl _⟩
      · rcases hs.kind with ⟨e', hk⟩ | hk <;> simp [slV, Builtin.append_, run_underlying ht, run_underlying hk, sizeOf, typeInfo, hi, hs.len, hroom, hs.cells, add_none, hst]
      · simp only [List.size_toArray, List.length_append, List.length_take, List.length_drop, Array.length_toList]
        omega
      · rw [htake, ← hlen]
        exact List.take_left
  · have hold : (Builtin.firstCells i.size n (slV g n c)).run P w.drew = .ok xs.toArray w.drew := by
      rcases ho.2 with ⟨hv, hn⟩ | ⟨b, cap, cur, hv, _, hg, hnc, hcm, hcs, htake⟩
      · have hx : xs = [] := List.eq_nil_of_length_eq_zero (by rw [ho.1, hn, Nat.zero_mul])
        rw [hv, hn, hx]
        simp [Builtin.firstCells]
      · rw [hv]
        have := ho.cells (g := b) (by rw [hv]; rfl)
        simp only [Builtin.firstCells]
        rw [← ho.1]
        exact run_loadCells_list w.drew ⟨b, 0, none⟩ xs (fun j u hj => this j u hj)
    have hnext : Builtin.nextslicecap (n + m) c * i.bytes ≤ 281474976710656 := by
      have h1 : Builtin.nextslicecap (n + m) c ≤ 2 * (n + m) := nextslicecap_le' (by omega)
      have := Nat.mul_le_mul_right i.bytes h1
      rw [Nat.mul_assoc] at this
      omega
    have hr := run_append_grow_src (P := P) w t tx ty e i z ht hi hz (g.map fun b => ⟨b, 0, none⟩) n c xs hold x m news hs (by omega) (by omega) hnext
    have hge := grownCap_ge w (n + m) c e
    have hml : n + m ≤ maxLen := by simp only [maxLen]; omega
    have hcm : grownCap w (n + m) c e ≤ maxLen := grownCap_le_maxLen w (n + m) c e hml
    refine ⟨some w.heap.size, grownCap w (n + m) c e, _, hr, ⟨hlen, .inr ⟨w.heap.size, _, _, rfl, Nat.zero_le _, heap_new w.drew _, hge, hcm, ?_, ?_⟩⟩, rfl, rfl, rfl, by simp, fun b hb => .inr (by simp at hb; subst hb; simp), fun b hb _ => heap_old w.drew _ b hb, Nat.le_succ _⟩
    · simp only [Array.size_append, List.size_toArray, size_zeroCells', hzs, hlen, ← Nat.add_mul]
      congr 1
      omega
    · simp only [Array.toList_append]
      rw [← hlen]
      exact List.take_left

end A
end Go.Proofs.Ytmcannmjielalaa
