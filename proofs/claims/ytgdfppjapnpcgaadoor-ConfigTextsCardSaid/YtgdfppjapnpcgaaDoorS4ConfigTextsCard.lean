/- Texts that ConfigTextsCard's proof rests on, part 5. -/
import Derived.Deep.AppendSrc
import Derived.Test.YtgdfppjapnpcgaaDoorS3ConfigTextsCard
set_option linter.unusedVariables false
set_option linter.unusedSimpArgs false
namespace Go.Proofs.YtgdfppjapnpcgaaDoor
namespace A
variable {P : Program} {N : Nat} {env : Env} {h : List HA} {K : Cont} {X : List (Nat × Cont)} {Rt : Cont}
theorem heap_new (w : World) (o : Obj) : (w.alloc o).heap[w.heap.size]? = some o := by
 show (w.heap.push o)[w.heap.size]? = some o
 simp
theorem heap_old (w : World) (o : Obj) (b : Nat) (hb : b < w.heap.size) : (w.alloc o).heap[b]? = w.heap[b]? := by
 show (w.heap.push o)[b]? = _
 rw [Array.getElem?_push, if_neg (by omega)]
/-- A new block. -/
theorem R.new {F : Nat → Prop} {w : World} {o : Obj} {x : HA} (r : R F h w) (ho : x.own = [w.heap.size]) (hx : HARep F (w.alloc o) x) : R F (x :: h) (w.alloc o) ∧ Ext F h w F (x :: h) (w.alloc o) ∧ Agree F h w (w.alloc o) := by
 have hold : ∀ b, b < w.heap.size → (w.alloc o).heap[b]? = w.heap[b]? := fun b hb => heap_old w o b hb
 have hag : Agree F h w (w.alloc o) := fun b hb => hold b (hb.elim (fun h => (r.sep b h).1) (fun h => r.lt b h))
 refine ⟨⟨fun y hy => ?_, ?_, ?_, ?_⟩, ⟨rfl, rfl, rfl, by simp, fun b hb _ => hold b hb, ?_, fun _ h => h, fun _ h => .inl h⟩, hag⟩
 ·rcases List.mem_cons.1 hy with rfl | hy
  ·exact hx
  ·exact (r.rep y hy).mono (fun _ h => h) (fun b hb => hold b (r.sep b hb).1) (fun b hb => hold b (r.lt b (List.mem_flatMap.2 ⟨y, hy, hb⟩)))
 ·rw [owns_cons, ho]
  refine List.nodup_append.2 ⟨by simp, r.nd, ?_⟩
  intro b hb c hc
  simp at hb
  have := r.lt c hc
  omega
 ·intro b hb
  rw [owns_cons, ho] at hb
  simp only [List.singleton_append, List.mem_cons] at hb
  rw [World.size_alloc]
  rcases hb with rfl | hb
  ·omega
  ·have := r.lt b hb; omega
 ·intro b hb
  rw [owns_cons, ho, World.size_alloc]
  have := r.sep b hb
  refine ⟨by omega, ?_⟩
  simp only [List.singleton_append, List.mem_cons, not_or]
  exact ⟨by omega, this.2⟩
 ·intro b hb
  rw [owns_cons, ho] at hb
  simp only [List.singleton_append, List.mem_cons] at hb
  rcases hb with rfl | hb
  ·exact .inr (Nat.le_refl _)
  ·exact .inl hb
/-- Is each cell of the value one cell? -/
def oneOf : AV → Bool
 | .v (.agg xs) => xs.toList.all (·.oneCell')
 | .v x => x.oneCell'
 | .tup _ => false
 | _ => true
theorem rep_one {F : Nat → Prop} {w : World} {av : AV} {x : Value} (hr : Rep F w av x) (ho : oneOf av = true) : ∀ y ∈ x.cells, y.oneCell' = true := by
 cases hr with
 | v x =>
   cases x with
   | agg xs => intro y hy; simp only [Value.cells] at hy; simp only [oneOf, List.all_eq_true] at ho; exact ho y (by simpa using hy)
   | _ => intro y hy; simp only [Value.cells] at hy; simp at hy; subst hy; exact ho
 | agg cs xs hl h1 hR => exact h1
 | tup cs xs hl hR => simp [oneOf] at ho
 | _ => intro y hy; simp only [Value.cells] at hy; simp at hy; subst hy; rfl
theorem box_rep {F : Nat → Prop} {w : World} {av : AV} {x : Value} {t : TypeId} (hr : Rep F w av x) (ho : oneOf av = true) (hs : ∀ b, F b → b < w.heap.size) : HARep F (w.alloc (.cells x.cells t)) (.box w.heap.size (avCells av)) := by
 obtain ⟨h1, h2⟩ := rep_cells hr
 exact ⟨x.cells, t, heap_new w _, h1, rep_one hr ho, fun j c y hc hy => (h2 j c y hc hy).mono (fun _ h => h) (fun b hb => heap_old w _ b (hs b hb))⟩
def zeroOf (P : Program) (t : TypeId) : Option Value := (P.info? t).bind (·.zero)
theorem run_zero {t : TypeId} {z : Value} (hz : zeroOf P t = some z) (w : World) : (zeroValue t).run P w = .ok z w := by
 unfold zeroOf at hz
 cases hi : P.info? t with
 | none => rw [hi] at hz; simp at hz
 | some i =>
   rw [hi] at hz
   simp only [Option.bind_some] at hz
   simp [zeroValue, typeInfo, hi, hz]
/-- A new variable at nought. -/
theorem qAlloc {o : Oper} {t : TypeId} {z : Value} {d : Nat} (ho : o.op = .alloc t) (hd : o.dst = some d) (hN : d < N) (hz : zeroOf P t = some z) (h1 : oneOf (.v z) = true)
   (hk : ∀ b, K ((d, .v (.pointer (some ⟨b, 0, none⟩))) :: env) (.box b (avCells (.v z)) :: h)) : AOpQ P N o env h K := by
 intro B F a w Q s e hdef
 obtain ⟨hr, he, hag⟩ := s.r.new (o := .cells z.cells t) (x := .box w.heap.size (avCells (.v z))) rfl (box_rep (.v z) h1 (fun b hb => (s.r.sep b hb).1))
 have hrun : (execOp a.eval o).run P w = .ok (.value (.pointer (some ⟨w.heap.size, 0, none⟩))) (w.alloc (.cells z.cells t)) := by
   simp [execOp, ho, Instr.alloc, run_zero hz, newVar, newRow]
 unfold Oper.wp
 rw [hrun, Oper.upon_value, hd]
 exact ⟨hdef, F, _, _, hk _, s.put he hr hN (.v _), e.trans he, hag, fun _ h => h, fun b hb => .inl (by simp [hb])⟩
/-- A new variable with a value. -/
theorem qBox {o : Oper} {t : TypeId} {x : Operand} {av : AV} {d : Nat} (ho : o.op = .box t x) (hd : o.dst = some d) (hN : d < N) (hx : ev env x = some av) (h1 : oneOf av = true)
   (hk : ∀ b, K ((d, .v (.pointer (some ⟨b, 0, none⟩))) :: env) (.box b (avCells av) :: h)) : AOpQ P N o env h K := by
 intro B F a w Q s e hdef
 have hx := s.ev hx
 obtain ⟨hr, he, hag⟩ := s.r.new (o := .cells (a.eval x).cells t) (x := .box w.heap.size (avCells av)) rfl (box_rep hx h1 (fun b hb => (s.r.sep b hb).1))
 have hrun : (execOp a.eval o).run P w = .ok (.value (.pointer (some ⟨w.heap.size, 0, none⟩))) (w.alloc (.cells (a.eval x).cells t)) := by
   simp [execOp, ho, Instr.box, newVar, newRow]
 unfold Oper.wp
 rw [hrun, Oper.upon_value, hd]
 exact ⟨hdef, F, _, _, hk _, s.put he hr hN (.v _), e.trans he, hag, fun _ h => h, fun b hb => .inl (by simp [hb])⟩
/-! ### Writing into what is owned -/
theorem R.upd {F : Nat → Prop} {w w' : World} {x x' : HA} {h' : List HA} (r : R F h w) (hs : Spl h x h') (ho : x'.own = x.own) (hos : w'.os = w.os) (hout : w'.output = w.output) (htp : w'.tape = w.tape) (hsz : w'.heap.size = w.heap.size)
   (hother : ∀ b, b ∉ x.own → w'.heap[b]? = w.heap[b]?) (hx : HARep F w' x') (hdr : w.drawn ≤ w'.drawn := by exact Nat.le_refl _) : R F (x' :: h') w' ∧ Ext F h w F (x' :: h') w' := by
 have hp := hs.perm
 have r1 := r.perm hp
 have hnd : (x.own ++ owns h').Nodup := by have := r1.nd; rwa [owns_cons] at this
 have hFx : ∀ b, F b → b ∉ x.own := fun b hb hm => (r.sep b hb).2 ((owns_perm hp).mem_iff.2 (by simp [hm]))
 refine ⟨⟨fun y hy => ?_, ?_, ?_, ?_⟩, Ext.permL hp.symm ⟨hos, hout, htp, by omega, fun b hb hn => hother b (fun hm => hn (by simp [hm])), ?_, fun _ h => h, fun _ h => .inl h⟩⟩
 ·rcases List.mem_cons.1 hy with rfl | hy
  ·exact hx
  ·exact (r1.rep y (by simp [hy])).mono (fun _ h => h) (fun b hb => hother b (hFx b hb)) (fun b hb => hother b (fun hm => (List.nodup_append.1 hnd).2.2 b hm b (List.mem_flatMap.2 ⟨y, hy, hb⟩) rfl))
 ·rw [owns_cons, ho]; exact hnd
 ·intro b hb
  rw [owns_cons, ho] at hb
  rw [hsz]
  exact r1.lt b (by simpa using hb)
 ·intro b hb
  rw [owns_cons, ho, hsz]
  have := r1.sep b hb
  rw [owns_cons] at this
  exact this
 ·intro b hb
  rw [owns_cons, ho] at hb
  exact .inl (by simpa using hb)
/-- Cells from a place on are others. -/
def putAll : List AV → List AV → List AV
 | _ :: cs, n :: ns => n :: putAll cs ns
 | cs, [] => cs
 | [], _ => []
def setCells : List AV → Nat → List AV → List AV
 | cs, 0, ns => putAll cs ns
 | c :: cs, p + 1, ns => c :: setCells cs p ns
 | [], _, _ => []
theorem putAll_get : ∀ (cs ns : List AV) (j : Nat), ns.length ≤ cs.length → (putAll cs ns)[j]? = if j < ns.length then ns[j]? else cs[j]?
 | [], [], j, _ => by simp [putAll]
 | c :: cs, [], j, _ => by simp [putAll]
 | [], n :: ns, j, h => by simp at h
 | c :: cs, n :: ns, 0, h => by simp [putAll]
 | c :: cs, n :: ns, j + 1, h => by
   simp only [putAll, List.getElem?_cons_succ, List.length_cons, Nat.add_lt_add_iff_right]
   exact putAll_get cs ns j (by simpa using h)
theorem putAll_length : ∀ (cs ns : List AV), (putAll cs ns).length = cs.length
 | [], [] => rfl
 | c :: cs, [] => rfl
 | [], n :: ns => rfl
 | c :: cs, n :: ns => by simp [putAll, putAll_length cs ns]
theorem setCells_get : ∀ (p : Nat) (cs ns : List AV) (j : Nat), p + ns.length ≤ cs.length → (setCells cs p ns)[j]? = if p ≤ j ∧ j < p + ns.length then ns[j - p]? else cs[j]?
 | 0, cs, ns, j, h => by
   have h2 : setCells cs 0 ns = putAll cs ns := by cases cs <;> rfl
   have h0 : ns.length ≤ cs.length := by omega
   rw [h2, putAll_get _ _ _ h0]
   simp only [Nat.zero_le, true_and, Nat.zero_add, Nat.sub_zero]
 | p + 1, [], ns, j, h => by simp at h
 | p + 1, c :: cs, ns, 0, h => by simp [setCells]
 | p + 1, c :: cs, ns, j + 1, h => by
   simp only [setCells, List.getElem?_cons_succ]
   rw [setCells_get p cs ns j (by simp at h; omega)]
   by_cases hc : p ≤ j ∧ j < p + ns.length
   ·rw [if_pos hc, if_pos (by omega)]
    congr 1
    omega
   ·rw [if_neg hc, if_neg (by omega)]
theorem setCells_length : ∀ (p : Nat) (cs ns : List AV), (setCells cs p ns).length = cs.length
 | 0, cs, ns => by
   have : setCells cs 0 ns = putAll cs ns := by cases cs <;> rfl
   rw [this, putAll_length]
 | p + 1, [], ns => rfl
 | p + 1, c :: cs, ns => by simp [setCells, setCells_length p cs ns]
theorem run_storeAt {t : TypeId} {n b p : Nat} {g : Bool} {x : Value} {w : World} {arr : Array Value} {ty : TypeId} (ht : tyOf P t = some (n, g)) (hb : w.heap[b]? = some (.cells arr ty (0, 0))) (hn : x.cells.size = n) (hfit : p + n ≤ arr.size) (h1 : ∀ y ∈ x.cells, y.oneCell' = true) :
   (Instr.storeAt t (.pointer (some ⟨b, p, none⟩)) x).run P w = .ok () (w.setRow b (arr.toList.take p ++ x.cells.toList ++ arr.toList.drop (p + n)).toArray) := by
 have hst := run_storeCells_at P b p ty x.cells.toList 0 arr w hb (by simp; omega) (by simpa using h1)
 simp only [Nat.add_zero, Array.length_toList, hn] at hst
 simp [Instr.storeAt, Instr.sureAddr, storeVar, run_sizeOf ht, hn, hst]
theorem splice_get {xs ns : List Value} {p n j : Nat} (hn : ns.length = n) (hfit : p + n ≤ xs.length) : (xs.take p ++ ns ++ xs.drop (p + n))[j]? = if p ≤ j ∧ j < p + n then ns[j - p]? else xs[j]? := by
 rw [List.append_assoc]
 by_cases h1 : j < p
 ·rw [List.getElem?_append_left (by simp; omega), List.getElem?_take_of_lt h1, if_neg (by omega)]
 ·rw [List.getElem?_append_right (by simp; omega)]
  have hp : (xs.take p).length = p := by simp; omega
  rw [hp]
  by_cases h2 : j < p + n
  ·rw [List.getElem?_append_left (by omega), if_pos (by omega)]
  ·rw [List.getElem?_append_right (by omega), hn, List.getElem?_drop, if_neg (by omega)]
   congr 1
   omega
/-- A store into a variable of the call's own. -/
theorem oStB {o : Oper} {t : TypeId} {x y : Operand} {n b p : Nat} {g : Bool} {cs : List AV} {av : AV} {h' : List HA} (ho : o.op = .store t x y) (hd : o.dst = none) (hx : ev env x = some (.v (.pointer (some ⟨b, p, none⟩)))) (hy : ev env y = some av)
   (hs : Spl h (.box b cs) h') (ht : tyOf P t = some (n, g)) (hn : (avCells av).length = n) (hp : p + n ≤ cs.length) (h1 : oneOf av = true) (hk : K env (.box b (setCells cs p (avCells av)) :: h')) : AOp P N o env h K := by
 intro B F a w Q s e hdef
 have hr := s.ev hx
 generalize hv : a.eval x = v at hr
 cases hr
 have hy := s.ev hy
 obtain ⟨arr, ty, h2, h3, h4, h5⟩ := s.r.rep _ (spl_mem hs)
 obtain ⟨h6, h7⟩ := rep_cells hy
 have h8 : (a.eval y).cells.size = n := by rw [h6, hn]
 have hrun := run_storeAt (P := P) (p := p) ht h2 h8 (by omega) (rep_one hy h1)
 obtain ⟨hR, hE⟩ := s.r.upd (w' := w.setRow b (arr.toList.take p ++ (a.eval y).cells.toList ++ arr.toList.drop (p + n)).toArray) (x' := .box b (setCells cs p (avCells av))) hs rfl rfl rfl rfl (by simp)
   (fun k hk => setRow_other w b k _ (by simpa [HA.own] using hk)) (by
     have hset : ∀ k, F k → (w.setRow b (arr.toList.take p ++ (a.eval y).cells.toList ++ arr.toList.drop (p + n)).toArray).heap[k]? = w.heap[k]? := fun k hk =>
       setRow_other w b k _ (fun e => (s.r.sep k hk).2 (e ▸ own_box hs))
     refine ⟨_, ty, setRow_heap w b arr _ ty _ h2, ?_, ?_, ?_⟩
     ·rw [setCells_length]
      simp only [List.size_toArray, List.length_append, List.length_take, List.length_drop, Array.length_toList]
      omega
     ·intro z hz
      simp only [List.mem_toArray, List.mem_append] at hz
      rcases hz with (hz | hz) | hz
      ·exact h4 z (by simpa using List.mem_of_mem_take hz)
      ·exact rep_one hy h1 z (by simpa using hz)
      ·exact h4 z (by simpa using List.mem_of_mem_drop hz)
     ·intro j c z hc hz
      rw [setCells_get _ _ _ _ (by omega)] at hc
      rw [List.getElem?_toArray, splice_get (by simpa using h8) (by simp; omega)] at hz
      rw [hn] at hc
      by_cases hj : p ≤ j ∧ j < p + n
      ·rw [if_pos hj] at hc hz
       exact (h7 _ c z hc (by simpa using hz)).mono (fun _ h => h) hset
      ·rw [if_neg hj] at hc hz
       exact (h5 j c z hc (by simpa using hz)).mono (fun _ h => h) hset)
 unfold Oper.wp
 have hrun2 : (execOp a.eval o).run P w = .ok .skip (w.setRow b (arr.toList.take p ++ (a.eval y).cells.toList ++ arr.toList.drop (p + n)).toArray) := by
   simp only [execOp, ho, hv, Sem.run_bind, hrun, Result.andThen_ok, Sem.run_pure]
 rw [hrun2, Oper.upon_skip, hd]
 exact ⟨hdef, F, env, _, hk, s.go hE hR, e.trans hE⟩
end A
end Go.Proofs.YtgdfppjapnpcgaaDoor
namespace Go.Proofs.YtgdfppjapnpcgaaDoor
namespace A
variable {P : Program} {N : Nat} {env : Env} {h : List HA} {K : Cont} {X : List (Nat × Cont)} {Rt : Cont}
/-! ### A slice that is written out -/
theorem fill_parts {F : Nat → Prop} {w : World} {sz : Nat} : ∀ (avs : List AV) (vs : List Value) (k : Nat) (cells : Array Value), vs.length = avs.length → (∀ (i : Nat) av x, avs[i]? = some av → vs[i]? = some x → Rep F w av x) →
   (∀ av ∈ avs, (avCells av).length = sz) → (k + avs.length) * sz ≤ cells.size →
   ∃ out : Array Value, Instr.fill (fun i => some (i * sz, sz)) cells ((List.range' k avs.length).zip vs) = some out ∧ out.size = cells.size ∧
     (∀ j, j < k * sz → out[j]? = cells[j]?) ∧ (∀ (i : Nat) x, vs[i]? = some x → ∀ j, j < sz → out[(k + i) * sz + j]? = x.cells[j]?)
 | [], [], k, cells, _, _, _, _ => ⟨cells, by simp [Instr.fill], rfl, fun _ _ => rfl, fun i x hx => by simp at hx⟩
 | [], _ :: _, k, cells, hl, _, _, _ => by simp at hl
 | _ :: _, [], k, cells, hl, _, _, _ => by simp at hl
 | av :: avs, x :: vs, k, cells, hl, hr, hz, hc => by
   have hx : x.cells.size = sz := by rw [(rep_cells (hr 0 av x rfl rfl)).1]; exact hz av (by simp)
   have hsplice : ∀ (ns : List Value) (cs : Array Value) (o : Nat), o + ns.length ≤ cs.size →
       ∀ s, ((ns.zipIdx s).foldl (fun cs (c, j) => cs.setIfInBounds (o + j) c) cs).size = cs.size ∧
         ∀ j, ((ns.zipIdx s).foldl (fun cs (c, j) => cs.setIfInBounds (o + j) c) cs)[j]? = if o + s ≤ j ∧ j < o + s + ns.length ∧ j < cs.size then ns[j - (o + s)]? else cs[j]? := by
     intro ns
     induction ns with
     | nil => intro cs o h s; refine ⟨rfl, fun j => ?_⟩; rw [if_neg (by simp; omega)]; rfl
     | cons n ns ih =>
       intro cs o h s
       simp only [List.zipIdx_cons, List.foldl_cons]
       obtain ⟨i1, i2⟩ := ih (cs.setIfInBounds (o + s) n) o (by simp at h ⊢; omega) (s + 1)
       refine ⟨by rw [i1]; simp, fun j => ?_⟩
       rw [i2 j]
       simp only [Array.size_setIfInBounds, List.length_cons]
       by_cases h1 : o + (s + 1) ≤ j ∧ j < o + (s + 1) + ns.length ∧ j < cs.size
       ·rw [if_pos h1, if_pos (by omega)]
        have : j - (o + s) = (j - (o + (s + 1))) + 1 := by omega
        rw [this, List.getElem?_cons_succ]
       ·rw [if_neg h1, Array.getElem?_setIfInBounds]
        by_cases h2 : o + s = j
        ·rw [if_pos h2]
         subst h2
         by_cases h3 : o + s < cs.size
         ·rw [if_pos h3, if_pos (by omega)]; simp
         ·rw [if_neg h3, if_neg (by omega)]
          exact (Array.getElem?_eq_none (by omega)).symm
        ·rw [if_neg h2, if_neg (by omega)]
   have hk : k * sz + sz ≤ cells.size := by
     have := hc
     simp only [List.length_cons] at this
     have h2 : (k + 1) * sz ≤ (k + (avs.length + 1)) * sz := Nat.mul_le_mul_right _ (by omega)
     rw [Nat.add_mul, Nat.one_mul] at h2
     omega
   obtain ⟨s1, s2⟩ := hsplice x.cells.toList cells (k * sz) (by simpa [hx] using hk) 0
   obtain ⟨out, h1, h2, h3, h4⟩ := fill_parts avs vs (k + 1) ((x.cells.toList.zipIdx 0).foldl (fun cs (c, j) => cs.setIfInBounds (k * sz + j) c) cells) (by simpa using hl) (fun i a b ha hb => hr (i + 1) a b (by simpa using ha) (by simpa using hb)) (fun a ha => hz a (by simp [ha])) (by rw [s1]; simpa [Nat.add_assoc, Nat.add_comm 1] using hc)
   refine ⟨out, ?_, by rw [h2, s1], fun j hj => ?_, fun i y hy j hj => ?_⟩
   ·simp only [List.length_cons, List.range'_succ, List.zip_cons_cons, Instr.fill, hx]
    rw [if_neg (by simp; omega)]
    rw [← h1, ← Array.foldl_toList, Array.toList_zipIdx]
   ·rw [h3 j (by rw [Nat.add_mul]; omega), s2 j, if_neg (by omega)]
   ·cases i with
    | zero =>
      simp only [List.getElem?_cons_zero, Option.some.injEq] at hy
      subst hy
      rw [Nat.add_zero, h3 _ (by rw [Nat.add_mul]; omega), s2, if_pos (by simp [hx]; omega)]
      simp
    | succ i =>
      simp only [List.getElem?_cons_succ] at hy
      have := h4 i y hy j hj
      rwa [show k + 1 + i = k + (i + 1) by omega] at this
theorem evs_get {F : Nat → Prop} {a : Act} {w : World} (s : Sat N F env h a w) {xs : List Operand} {l : List AV} (hl : evs env xs = some l) : xs.length = l.length ∧ ∀ (i : Nat) av x, l[i]? = some av → (xs.map a.eval)[i]? = some x → Rep F w av x := by
 obtain ⟨h1, h2⟩ := reps_evs s xs l hl
 exact ⟨by simpa using h1, fun i av x hi hx => h2 i av x hi (by simpa using hx)⟩
/-- '[]T{x, y, ..}', each place written out. -/
theorem qLit {o : Oper} {t e : TypeId} {len sz d : Nat} {g : Bool} {z : Value} {parts : Array (Nat × Operand)} {l : List AV} (ho : o.op = .buildSlice t len parts) (hd : o.dst = some d) (hN : d < N) (hu : P.underlying t = some (.slice e)) (ht : tyOf P e = some (sz, g)) (hz : zeroOf P e = some z)
   (hzs : z.cells.size = sz) (hlen : len * sz ≤ 16777216) (hsz : sz ≠ 0) (hi : parts.toList.map (·.1) = List.range' 0 len) (hl : evs env (parts.toList.map (·.2)) = some l) (hc0 : l.all (fun av => Nat.beq (avCells av).length sz && oneOf av) = true)
   (hk : ∀ b, K ((d, .v (slV (some b) len len)) :: env) (.sl (some b) len e sz (l.map avCells) :: h)) : AOpQ P N o env h K := by
 have hc : ∀ av ∈ l, (avCells av).length = sz ∧ oneOf av = true := fun av hav => by
   have := List.all_eq_true.1 hc0 av hav
   rw [Bool.and_eq_true] at this
   exact ⟨Nat.eq_of_beq_eq_true this.1, this.2⟩
 intro B F a w Q s ex hdef
 obtain ⟨hl1, hl2⟩ := evs_get s hl
 have hll : l.length = len := by
   have h1 := congrArg List.length hi
   simp at h1
   rw [← hl1, ← h1]
   simp
 have hzip : (parts.map fun (i, x) => (i, a.eval x)).toList = (List.range' 0 l.length).zip ((parts.toList.map (·.2)).map a.eval) := by
   rw [hll, ← hi, List.map_map, Array.toList_map, List.zip_map']
   rfl
 obtain ⟨out, h1, h2, h3, h4⟩ := fill_parts (F := F) (w := w) (sz := sz) l ((parts.toList.map (·.2)).map a.eval) 0 ((Array.range (len * sz)).map (fun i => (if len * sz = 0 then #[] else z.cells)[i % (if len * sz = 0 then #[] else z.cells).size]!)) (by rw [List.length_map]; exact hl1) hl2 (fun av hav => (hc av hav).1) (by simp [hll])
 have hsize : out.size = len * sz := by rw [h2]; simp
 have hget : ∀ i j, i < len → j < sz → ∃ x, ((parts.toList.map (·.2)).map a.eval)[i]? = some x ∧ out[i * sz + j]? = x.cells[j]? := fun i j hi' hj => by
   have : i < ((parts.toList.map (·.2)).map a.eval).length := by rw [List.length_map, hl1, hll]; exact hi'
   refine ⟨_, List.getElem?_eq_getElem this, ?_⟩
   have := h4 i _ (List.getElem?_eq_getElem this) j hj
   rwa [Nat.zero_add] at this
 have hone : ∀ x ∈ out.toList, x.oneCell' = true := fun x hx => by
   obtain ⟨k, hk'⟩ := List.mem_iff_getElem?.1 hx
   have hk2 : out[k]? = some x := by simpa using hk'
   have hklt : k < len * sz := by rw [← hsize]; exact (Array.getElem?_eq_some_iff.1 hk2).1
   have hsz0 : 0 < sz := by omega
   have hdiv : k / sz < len := (Nat.div_lt_iff_lt_mul hsz0).2 hklt
   obtain ⟨y, hy1, hy2⟩ := hget (k / sz) (k % sz) hdiv (Nat.mod_lt _ hsz0)
   rw [Nat.mul_comm, Nat.div_add_mod, hk2] at hy2
   have hav : ∃ av, l[k / sz]? = some av := ⟨_, List.getElem?_eq_getElem (by rw [hll]; exact hdiv)⟩
   obtain ⟨av, hav⟩ := hav
   exact rep_one (hl2 _ av y hav hy1) (hc av (List.mem_of_getElem? hav)).2 x (Array.mem_of_getElem? hy2.symm)
 obtain ⟨hr, he, hag⟩ := s.r.new (o := .cells out e) (x := .sl (some w.heap.size) len e sz (l.map avCells)) rfl (by
   have e1 : (l.map avCells).length = len := by rw [List.length_map, hll]
   rw [HARep, e1]
   refine ⟨out.toList, ⟨by rw [Array.length_toList, hsize], .inr ⟨w.heap.size, len, out, rfl, Nat.zero_le _, heap_new w _, Nat.le_refl _, ?_, hsize, ?_⟩⟩, ?_, hone, ?_⟩
   ·have : len ≤ len * sz := Nat.le_mul_of_pos_right _ (by omega)
    simp only [maxLen]
    omega
   ·rw [← hsize, ← Array.length_toList, List.take_length]
   ·intro y hy
    obtain ⟨av, hav, rfl⟩ := List.mem_map.1 hy
    exact (hc av hav).1
   ·intro i j y av x hi' hj hx
    rw [List.getElem?_map, Option.map_eq_some_iff] at hi'
    obtain ⟨av0, hav0, rfl⟩ := hi'
    have hilt : i < len := by rw [← hll]; exact (List.getElem?_eq_some_iff.1 hav0).1
    have hjlt : j < sz := by rw [← (hc av0 (List.mem_of_getElem? hav0)).1]; exact (List.getElem?_eq_some_iff.1 hj).1
    obtain ⟨y, hy1, hy2⟩ := hget i j hilt hjlt
    have hx2 : out[i * sz + j]? = some x := by simpa using hx
    rw [hx2] at hy2
    exact ((rep_cells (hl2 i av0 y hav0 hy1)).2 j av x hj hy2.symm).mono (fun _ h => h) (fun b hb => heap_old w _ b (s.r.sep b hb).1))
 have hrun : (execOp a.eval o).run P w = .ok (.value (slV (some w.heap.size) len len)) (w.alloc (.cells out e)) := by
   have hnl : ¬ (16777216 < len * sz) := by omega
   simp only [execOp, ho, Instr.buildSlice, Sem.run_bind, run_underlying' hu, Result.andThen_ok, run_sizeOf ht]
   simp only [Nat.reducePow, gt_iff_lt, hnl, if_false, Sem.run_pure, Result.andThen_ok]
   rw [hzip]
   by_cases h0 : len * sz = 0
   ·simp only [h0, if_true] at h1
    simp only [h0, if_true, Sem.run_bind, Sem.run_pure, Result.andThen_ok]
    rw [h1]
    simp [newRow, slV]
   ·simp only [h0, if_false] at h1
    simp only [h0, if_false, Sem.run_bind, run_zero hz, Result.andThen_ok, Sem.run_pure]
    rw [h1]
    simp [newRow, slV]
 unfold Oper.wp
 rw [hrun, Oper.upon_value, hd]
 exact ⟨hdef, F, _, _, hk _, s.put he hr hN (.v _), ex.trans he, hag, fun _ h => h, fun b hb => .inl (by simp [hb])⟩
/-- What is appended: a slice whose elements are known. -/
theorem src_sl {F : Nat → Prop} {h : List HA} {w : World} {sz : Nat} {es : List (List AV)} {x : Value} {t e : TypeId} (hu : P.underlying t = some (.slice e)) (hr : Rep F w (.sl sz es) x) : ∃ news : List Value, Src P sz t x es.length news w ∧
   ∀ (i j : Nat) y av v, es[i]? = some y → y[j]? = some av → news[i * sz + j]? = some v → Rep F w av v := by
 cases hr with
 | sl0 =>
   have hl0 : ∀ w', (loadCells (⟨0, 0, none⟩ : Addr) 0).run P w' = .ok #[] w' := fun w' => by simp [loadCells, loadCellsFrom]
   refine ⟨[], ⟨.inl ⟨e, hu⟩, fun w' => by simp [Builtin.lenOf], ?_, ?_, by simp, by simp⟩, fun i j y av v hi => by simp at hi⟩
   all_goals
     rename_i a c
     cases a <;> simp [Builtin.firstCells, loadCells, loadCellsFrom]
 | sl _ _ b o c X hF hc hz hX h1 hR =>
   have hsz : ∀ k, k < es.length * sz → 0 < sz ∧ k / sz < es.length ∧ k % sz < sz := fun k hk => by
     have h0 : 0 < sz := by
       rcases Nat.eq_zero_or_pos sz with h | h
       ·rw [h, Nat.mul_zero] at hk; omega
       ·exact h
     exact ⟨h0, (Nat.div_lt_iff_lt_mul h0).2 hk, Nat.mod_lt _ h0⟩
   have hcell : ∀ k, k < es.length * sz → w.cell? ((⟨b, o, none⟩ : Addr).add k) = some (X (k / sz) (k % sz)) := fun k hk => by
     obtain ⟨_, h3, h4⟩ := hsz k hk
     have := hX (k / sz) (k % sz) h3 h4
     rw [add_none]
     rwa [Nat.mul_comm, Nat.div_add_mod] at this
   have hrun : ∀ w', (∀ k, w'.cell? k = w.cell? k) → (Builtin.firstCells sz es.length (.slice (some ⟨b, o, none⟩) es.length c)).run P w' = .ok ((List.range (es.length * sz)).map fun k => X (k / sz) (k % sz)).toArray w' := fun w' hw => by
     simp only [Builtin.firstCells]
     exact run_loadCells w' ⟨b, o, none⟩ (es.length * sz) _ (fun k hk => by rw [hw]; exact hcell k hk)
   refine ⟨(List.range (es.length * sz)).map fun k => X (k / sz) (k % sz), ⟨.inl ⟨e, hu⟩, fun w' => by simp [Builtin.lenOf], hrun w (fun _ => rfl), hrun w.drew (fun _ => rfl), by simp, ?_⟩, ?_⟩
   ·intro u hu
    simp only [List.mem_map, List.mem_range] at hu
    obtain ⟨k, hk, rfl⟩ := hu
    obtain ⟨_, h3, h4⟩ := hsz k hk
    exact h1 _ _ h3 h4
   ·intro i j y av v hi hj hv
    have hilt : i < es.length := (List.getElem?_eq_some_iff.1 hi).1
    have hjlt : j < sz := by rw [← hz y (List.mem_of_getElem? hi)]; exact (List.getElem?_eq_some_iff.1 hj).1
    have hlt := idx_lt hilt hjlt
    rw [List.getElem?_map, List.getElem?_range hlt, Option.map_some, Option.some.injEq] at hv
    have e1 : (i * sz + j) / sz = i := by rw [Nat.mul_comm, Nat.mul_add_div (by omega), Nat.div_eq_of_lt hjlt, Nat.add_zero]
    have e2 : (i * sz + j) % sz = j := by rw [Nat.mul_comm, Nat.mul_add_mod, Nat.mod_eq_of_lt hjlt]
    rw [e1, e2] at hv
    rw [← hv]
    exact hR i j y av hi hj
theorem src_own {F : Nat → Prop} {h : List HA} {w : World} {g : Option Nat} {c e0 sz : Nat} {es : List (List AV)} {t e : TypeId} (hu : P.underlying t = some (.slice e)) (hr : HARep F w (.sl g c e0 sz es)) : ∃ news : List Value, Src P sz t (slV g es.length c) es.length news w ∧
   ∀ (i j : Nat) y av v, es[i]? = some y → y[j]? = some av → news[i * sz + j]? = some v → Rep F w av v := by
 cases g with
 | none =>
   obtain ⟨xs, ⟨h1, h2⟩, h3, h4, h5⟩ := hr
   have hn : es.length = 0 := by
     rcases h2 with ⟨_, h⟩ | ⟨b, _, _, h, _⟩
     ·exact h
     ·simp [slV] at h
   have hx : xs = [] := List.eq_nil_of_length_eq_zero (by rw [h1, hn, Nat.zero_mul])
   subst hx
   have he : es = [] := List.eq_nil_of_length_eq_zero hn
   subst he
   exact ⟨[], ⟨.inl ⟨e, hu⟩, fun w' => by simp [Builtin.lenOf, slV], by simp [Builtin.firstCells, slV], by simp [Builtin.firstCells, slV], by simp, by simp⟩, fun i j y av v hi => by simp at hi⟩
 | some b =>
   obtain ⟨xs, h1, h2, h3, h4, h5⟩ := own_cells hr
   have hrun : ∀ w', (∀ k, w'.cell? k = w.cell? k) → (Builtin.firstCells sz es.length (slV (some b) es.length c)).run P w' = .ok xs.toArray w' := fun w' hw => by
     simp only [Builtin.firstCells, slV, Option.map_some]
     rw [← h1]
     exact run_loadCells_list w' ⟨b, 0, none⟩ xs (fun j v hj => by rw [add_none, Nat.zero_add, hw]; exact h4 j v hj)
   exact ⟨xs, ⟨.inl ⟨e, hu⟩, fun w' => by simp [Builtin.lenOf, slV], hrun w (fun _ => rfl), hrun w.drew (fun _ => rfl), h1, h3⟩, h5⟩
theorem growBy_le {need : Nat} : ∀ (k c : Nat), c < need → 256 ≤ c → Builtin.growBy need k c ≤ 2 * need
 | 0, c, h, _ => by simp only [Builtin.growBy]; omega
 | k + 1, c, h, h2 => by
   simp only [Builtin.growBy]
   rw [if_neg (by omega)]
   by_cases h3 : c + (c + 768) / 4 < need
   ·exact growBy_le k _ h3 (by omega)
   ·cases k with
    | zero => simp only [Builtin.growBy]; omega
    | succ k => simp only [Builtin.growBy]; rw [if_pos (by omega)]; omega
theorem nextslicecap_le' {need c : Nat} (h : c < need) : Builtin.nextslicecap need c ≤ 2 * need := by
 unfold Builtin.nextslicecap
 split
 ·omega
 ·split
  ·omega
  ·exact growBy_le 4 c h (by omega)
theorem size_zeroCells' (z : Array Value) (n : Nat) : (Builtin.zeroCells z n).size = n * z.size := by simp [Builtin.zeroCells]
/-- An append to a slice of the call's own: there is room, or there is not. -/
theorem run_appendO {w : World} {t tx ty e : TypeId} {i : TypeInfo} {z : Value} {sz : Nat} {g : Option Nat} {n c : Nat} {xs : List Value} {x : Value} {m : Nat} {news : List Value} (ht : P.underlying t = some (.slice e)) (hi : P.info? e = some i) (hz : i.zero = some z) (hsz : i.size = sz) (hzs : z.cells.size = sz) (h0 : 0 < sz)
   (ho : w.ownsRow 0 e sz (slV g n c) n xs) (hs : Src P sz tx x m news w) (h63 : n + m ≤ 9223372036854775807) (hby : (n + m) * i.bytes ≤ 140737488355328) :
   ∃ g' c' w', (Builtin.append_ #[t, tx] ty #[slV g n c, x]).run P w = .ok (slV g' (n + m) c') w' ∧ w'.ownsRow 0 e sz (slV g' (n + m) c') (n + m) (xs ++ news) ∧ w'.os = w.os ∧ w'.output = w.output ∧ w'.tape = w.tape ∧ w.heap.size ≤ w'.heap.size ∧
     (∀ b, g' = some b → g = some b ∨ b = w.heap.size ∧ w'.heap.size = w.heap.size + 1) ∧ (∀ b, b < w.heap.size → g ≠ some b → w'.heap[b]? = w.heap[b]?) ∧ w.drawn ≤ w'.drawn := by
 subst hsz
 have hlen : (xs ++ news).length = (n + m) * i.size := by rw [List.length_append, ho.1, hs.newsLen, Nat.add_mul]
 by_cases hroom : n + m ≤ c
 ·rcases ho.2 with ⟨hv, hn⟩ | ⟨b, cap, cur, hv, _, hg, hnc, hcm, hcs, htake⟩
  ·-- nil, and nothing is appended
   have hc0 : c = 0 := by simp [slV] at hv; exact hv.2.2
   have hg0 : g = none := by simp [slV] at hv; cases g <;> simp_all
   subst hg0
   have hm : m = 0 := by omega
   subst hm; subst hn; subst hc0
   have hx : news = [] := List.eq_nil_of_length_eq_zero (by rw [hs.newsLen, Nat.zero_mul])
   subst hx
   refine ⟨none, 0, w, ?_, ?_, rfl, rfl, rfl, Nat.le_refl _, fun b hb => by simp at hb, fun _ _ _ => rfl, Nat.le_refl _⟩
   ·rcases hs.kind with ⟨e', hk⟩ | hk <;> simp [slV, Builtin.append_, run_underlying ht, run_underlying hk, sizeOf, typeInfo, hi, hs.len, hs.cells]
   ·simpa using ho
  ·have hgb : g = some b := by
     cases g with
     | none => simp [slV] at hv
     | some b' => simp [slV] at hv; rw [hv.1]
   have hcc : c = cap := by subst hgb; simp [slV] at hv; exact hv
   subst hgb; subst hcc
   have hfit : n * i.size + news.length ≤ cur.size := by rw [hs.newsLen, hcs, ← Nat.add_mul]; exact Nat.mul_le_mul_right _ hroom
   have hst := run_storeCells_at P b (n * i.size) e news 0 cur w hg (by simpa using hfit) hs.one
   simp only [Nat.add_zero] at hst
   refine ⟨some b, c, w.setRow b (cur.toList.take (n * i.size) ++ news ++ cur.toList.drop (n * i.size + news.length)).toArray, ?_, ⟨hlen, .inr ⟨b, c, _, rfl, Nat.zero_le _, setRow_heap w b cur _ e _ hg, hroom, hcm, ?_, ?_⟩⟩, rfl, rfl, rfl, by simp, fun k hk => .inl (by rw [hk]), fun k _ hk => setRow_other w b k _ (fun e => hk (by rw [e])), Nat.le_refl _⟩
   ·rcases hs.kind with ⟨e', hk⟩ | hk <;> simp [slV, Builtin.append_, run_underlying ht, run_underlying hk, sizeOf, typeInfo, hi, hs.len, hroom, hs.cells, add_none, hst]
   ·simp only [List.size_toArray, List.length_append, List.length_take, List.length_drop, Array.length_toList]
    omega
   ·rw [htake, ← hlen]
    exact List.take_left
 ·have hold : (Builtin.firstCells i.size n (slV g n c)).run P w.drew = .ok xs.toArray w.drew := by
    rcases ho.2 with ⟨hv, hn⟩ | ⟨b, cap, cur, hv, _, hg, hnc, hcm, hcs, htake⟩
    ·have hx : xs = [] := List.eq_nil_of_length_eq_zero (by rw [ho.1, hn, Nat.zero_mul])
     rw [hv, hn, hx]
     simp [Builtin.firstCells]
    ·rw [hv]
     have := ho.cells (g := b) (by rw [hv]; rfl)
     simp only [Builtin.firstCells]
     rw [← ho.1]
     exact run_loadCells_list w.drew ⟨b, 0, none⟩ xs (fun j u hj => this j u hj)
  have hnext : Builtin.nextslicecap (n + m) c * i.bytes ≤ 281474976710656 := by
    have h1 : Builtin.nextslicecap (n + m) c ≤ 2 * (n + m) := nextslicecap_le' (by omega)
    have := Nat.mul_le_mul_right i.bytes h1
    rw [Nat.mul_assoc] at this
    omega
  have hr := run_append_grow_src (P := P) w t tx ty e i z ht hi hz (g.map fun b => ⟨b, 0, none⟩) n c xs hold x m news hs (by omega) (by omega) hnext
  have hge := grownCap_ge w (n + m) c e
  have hml : n + m ≤ maxLen := by simp only [maxLen]; omega
  have hcm : grownCap w (n + m) c e ≤ maxLen := grownCap_le_maxLen w (n + m) c e hml
  refine ⟨some w.heap.size, grownCap w (n + m) c e, _, hr, ⟨hlen, .inr ⟨w.heap.size, _, _, rfl, Nat.zero_le _, heap_new w.drew _, hge, hcm, ?_, ?_⟩⟩, rfl, rfl, rfl, by simp, fun b hb => .inr (by simp at hb; subst hb; simp), fun b hb _ => heap_old w.drew _ b hb, Nat.le_succ _⟩
  ·simp only [Array.size_append, List.size_toArray, size_zeroCells', hzs, hlen, ← Nat.add_mul]
   congr 1
   omega
  ·simp only [Array.toList_append]
   rw [← hlen]
   exact List.take_left
end A
end Go.Proofs.YtgdfppjapnpcgaaDoor
namespace Go.Proofs.YtgdfppjapnpcgaaDoor
namespace A
variable {P : Program} {N : Nat} {env : Env} {h : List HA} {K : Cont} {X : List (Nat × Cont)} {Rt : Cont}
/-- All that an element type is, for appends: cells, bytes, nought. -/
def elemOf (P : Program) (t : TypeId) : Option (TypeId × Nat × Nat) :=
 match P.underlying t with
 | some (.slice e) => match P.info? e with
   | some i => match i.zero with
     | some z => if z.cells.size = i.size ∧ 0 < i.size then some (e, i.size, i.bytes) else none
     | none => none
   | none => none
 | _ => none
theorem elemOf_spec {t e : TypeId} {sz by_ : Nat} (he : elemOf P t = some (e, sz, by_)) : P.underlying t = some (.slice e) ∧ ∃ i z, P.info? e = some i ∧ i.zero = some z ∧ i.size = sz ∧ z.cells.size = sz ∧ 0 < sz ∧ i.bytes = by_ := by
 unfold elemOf at he
 cases hu : P.underlying t with
 | none => rw [hu] at he; simp at he
 | some d =>
   rw [hu] at he
   cases d with
   | slice e' =>
     simp only at he
     cases hi : P.info? e' with
     | none => rw [hi] at he; simp at he
     | some i =>
       rw [hi] at he
       simp only at he
       cases hz : i.zero with
       | none => rw [hz] at he; simp at he
       | some z =>
         rw [hz] at he
         simp only at he
         split at he
         ·rename_i hc
          simp only [Option.some.injEq, Prod.mk.injEq] at he
          obtain ⟨rfl, rfl, rfl⟩ := he
          exact ⟨rfl, i, z, hi, hz, rfl, hc.1, hc.2, rfl⟩
         ·simp at he
   | _ => simp at he
theorem R.appended {F : Nat → Prop} {w w' : World} {g g' : Option Nat} {c c' : Nat} {e sz : Nat} {es ns : List (List AV)} {h' : List HA} (r : R F h w) (hs : Spl h (.sl g c e sz es) h') {xs news : List Value}
   (ho : w'.ownsRow 0 e sz (slV g' (es.length + ns.length) c') (es.length + ns.length) (xs ++ news)) (hxl : xs.length = es.length * sz) (hz : ∀ y ∈ es ++ ns, y.length = sz) (h1 : ∀ x ∈ xs ++ news, x.oneCell' = true)
   (hre : ∀ (i j : Nat) y av x, es[i]? = some y → y[j]? = some av → xs[i * sz + j]? = some x → Rep F w av x) (hrn : ∀ (i j : Nat) y av x, ns[i]? = some y → y[j]? = some av → news[i * sz + j]? = some x → Rep F w av x)
   (hos : w'.os = w.os) (hout : w'.output = w.output) (htp : w'.tape = w.tape) (hsz : w.heap.size ≤ w'.heap.size) (hg : ∀ b, g' = some b → g = some b ∨ b = w.heap.size ∧ w'.heap.size = w.heap.size + 1) (hk : ∀ b, b < w.heap.size → g ≠ some b → w'.heap[b]? = w.heap[b]?) (hdr : w.drawn ≤ w'.drawn) :
   R F (.sl g' c' e sz (es ++ ns) :: h') w' ∧ Ext F h w F (.sl g' c' e sz (es ++ ns) :: h') w' := by
 have hp := hs.perm
 have r1 := r.perm hp
 have hnd : ((HA.sl g c e sz es).own ++ owns h').Nodup := by have := r1.nd; rwa [owns_cons] at this
 have hgo : ∀ b, g = some b → b ∈ (HA.sl g c e sz es).own := fun b hb => by subst hb; simp [HA.own]
 have hgo' : ∀ b, b ∈ (HA.sl g' c' e sz (es ++ ns)).own → g' = some b := fun b hb => by cases g' <;> simp [HA.own] at hb; rw [hb]
 have hset : ∀ b, F b → w'.heap[b]? = w.heap[b]? := fun b hb => hk b (r.sep b hb).1 (fun e => (r.sep b hb).2 ((owns_perm hp).mem_iff.2 (by simp [hgo b e])))
 have hfr : ∀ b ∈ owns h', w'.heap[b]? = w.heap[b]? := fun b hb => hk b (r1.lt b (by simp [hb])) (fun e => (List.nodup_append.1 hnd).2.2 b (hgo b e) b hb rfl)
 refine ⟨⟨fun y hy => ?_, ?_, ?_, ?_⟩, Ext.permL hp.symm ⟨hos, hout, htp, hsz, fun b hb hn => hk b hb (fun e => hn (by simp [hgo b e])), ?_, fun _ h => h, fun _ h => .inl h⟩⟩
 ·rcases List.mem_cons.1 hy with rfl | hy
  ·refine ⟨xs ++ news, by rw [List.length_append]; exact ho, hz, h1, fun i j y av x hi hj hx => ?_⟩
   by_cases hlt : i < es.length
   ·rw [List.getElem?_append_left hlt] at hi
    have hjl : j < sz := by rw [← hz y (List.mem_append_left _ (List.mem_of_getElem? hi))]; exact (List.getElem?_eq_some_iff.1 hj).1
    rw [List.getElem?_append_left (by rw [hxl]; exact idx_lt hlt hjl)] at hx
    exact (hre i j y av x hi hj hx).mono (fun _ h => h) hset
   ·have hge : es.length ≤ i := by omega
    rw [List.getElem?_append_right hge] at hi
    have hle : es.length * sz ≤ i * sz := Nat.mul_le_mul_right _ hge
    rw [List.getElem?_append_right (by rw [hxl]; omega), hxl] at hx
    refine (hrn (i - es.length) j y av x hi hj ?_).mono (fun _ h => h) hset
    rw [Nat.sub_mul]
    rwa [show i * sz + j - es.length * sz = i * sz - es.length * sz + j by omega] at hx
  ·exact (r1.rep y (by simp [hy])).mono (fun _ h => h) hset (fun b hb => hfr b (List.mem_flatMap.2 ⟨y, hy, hb⟩))
 ·rw [owns_cons]
  refine List.nodup_append.2 ⟨by cases g' <;> simp [HA.own], (List.nodup_append.1 hnd).2.1, ?_⟩
  rintro b hb d hd rfl
  rcases hg b (hgo' b hb) with h2 | h2
  ·exact (List.nodup_append.1 hnd).2.2 b (hgo b h2) b hd rfl
  ·have := r1.lt b (by simp [hd]); omega
 ·intro b hb
  rw [owns_cons] at hb
  rcases List.mem_append.1 hb with hb | hb
  ·rcases hg b (hgo' b hb) with h2 | h2
   ·have := r1.lt b (by simp [hgo b h2]); omega
   ·omega
  ·have := r1.lt b (by simp [hb]); omega
 ·intro b hb
  have h2 := r1.sep b hb
  rw [owns_cons] at h2 ⊢
  refine ⟨by omega, fun hm => ?_⟩
  rcases List.mem_append.1 hm with hm | hm
  ·rcases hg b (hgo' b hm) with h3 | h3
   ·exact h2.2 (List.mem_append_left _ (hgo b h3))
   ·omega
  ·exact h2.2 (List.mem_append_right _ hm)
 ·intro b hb
  rw [owns_cons] at hb
  rcases List.mem_append.1 hb with hb | hb
  ·rcases hg b (hgo' b hb) with h3 | h3
   ·exact .inl (by simp [hgo b h3])
   ·exact .inr (by omega)
  ·exact .inl (by simp [hb])
/-- What stands behind an append: a slice that may be settled, or one of the call's own. -/
def SrcIs (env : Env) (h : List HA) (y : Operand) (sz : Nat) (ns : List (List AV)) : Prop :=
 ev env y = some (.sl sz ns) ∨ ∃ g c e, ev env y = some (.v (slV g ns.length c)) ∧ HA.sl g c e sz ns ∈ h
theorem srcOwn {y : Operand} {sz n c : Nat} {g : Option Nat} {e : TypeId} {ns : List (List AV)} {h' : List HA} (hy : ev env y = some (.v (slV g n c))) (hs : Spl h (.sl g c e sz ns) h') (hn : n = ns.length) : SrcIs env h y sz ns := .inr ⟨g, c, e, hn ▸ hy, spl_mem hs⟩
theorem oApp {o : Oper} {t t' e : TypeId} {x y : Operand} {sz by_ d n c : Nat} {g : Option Nat} {es ns : List (List AV)} {h' : List HA} (ho : o.op = .call ⟨.builtin .append, #[x, y], #[t, t']⟩) (hd : o.dst = some d) (hN : d < N) (hx : ev env x = some (.v (slV g n c))) (hs : Spl h (.sl g c e sz es) h') (hn : n = es.length)
   (hy : SrcIs env h y sz ns) (ht : elemOf P t = some (e, sz, by_)) (ht' : isSl P t' = true) (hz : ∀ z ∈ ns, z.length = sz) (hb1 : es.length + ns.length ≤ 9223372036854775807) (hb2 : (es.length + ns.length) * by_ ≤ 140737488355328)
   (hk : ∀ g' c', K ((d, .v (slV g' (es.length + ns.length) c')) :: env) (.sl g' c' e sz (es ++ ns) :: h')) : AOp P N o env h K := by
 subst hn
 intro B F a w Q s ex hdef
 obtain ⟨hu, i, z, hi, hzz, hisz, hzs, h0, hby⟩ := elemOf_spec ht
 obtain ⟨e', hu'⟩ := isSl_spec ht'
 obtain ⟨xs, hown, hxz, hx1, hxr⟩ := s.r.rep _ (spl_mem hs)
 have hxv := s.ev hx
 generalize hv : a.eval x = v at hxv
 cases hxv
 have hsrc : ∃ news : List Value, Src P sz t' (a.eval y) ns.length news w ∧ ∀ (i j : Nat) y av v, ns[i]? = some y → y[j]? = some av → news[i * sz + j]? = some v → Rep F w av v := by
   rcases hy with hy | ⟨g2, c2, e2, hy, hm⟩
   ·exact src_sl (h := h) hu' (s.ev hy)
   ·have hyv := s.ev hy
    generalize hv2 : a.eval y = v2 at hyv
    cases hyv
    exact src_own (h := h) hu' (s.r.rep _ hm)
 obtain ⟨news, hsr, hrn⟩ := hsrc
 obtain ⟨g', c', w', hrun, ho', hos, hout, htp, hsz, hg, hkp, hdr⟩ := run_appendO (P := P) (ty := o.type) hu hi hzz hisz hzs h0 hown hsr (by omega) (by rw [hby]; exact hb2)
 obtain ⟨hR, hE⟩ := s.r.appended hs ho' hown.1 (fun y hy => (List.mem_append.1 hy).elim (hxz y) (hz y)) (fun x hx => (List.mem_append.1 hx).elim (hx1 x) (hsr.one x)) hxr hrn hos hout htp hsz hg hkp hdr
 have hrun2 : (execOp a.eval o).run P w = .ok (.value (slV g' (es.length + ns.length) c')) w' := by
   simp only [execOp, ho, resolve, Sem.run_bind, Sem.run_pure, Result.andThen_ok, invoke, builtin]
   simp only [List.map_toArray, List.map_cons, List.map_nil, hv, hrun, Result.andThen_ok]
 unfold Oper.wp
 rw [hrun2, Oper.upon_value, hd]
 exact ⟨hdef, F, _, _, hk g' c', s.put hE hR hN (.v _), ex.trans hE⟩
def EnvSub (env : Env) : Env → Prop
 | [] => True
 | (k, av) :: t => get env k = some av ∧ EnvSub env t
theorem EnvSub.get {env : Env} : ∀ {env' : Env} {k : Nat} {av : AV}, EnvSub env env' → A.get env' k = some av → A.get env k = some av
 | [], k, av, _, h => by simp [A.get] at h
 | (j, aw) :: t, k, av, hs, h => by
   simp only [A.get] at h
   by_cases hjk : j = k
   ·subst hjk
    have : Nat.beq j j = true := by simp
    rw [this] at h
    simp only [cond_true, Option.some.injEq] at h
    subst h
    exact hs.1
   ·rw [beq_no hjk] at h
    exact hs.2.get h
/-- Some slots, some of what is owned. -/
theorem weak_sub {env' : Env} {h' r : List HA} (he : EnvSub env env') (hh : Tk h h' r) : Weak N env h env' h' := fun F a w s =>
 ⟨F, ⟨s.r.sub hh, s.size, fun k av hk => s.env k av (he.get hk)⟩, ⟨rfl, rfl, rfl, Nat.le_refl _, fun _ _ _ => rfl, fun b hb => .inl ((owns_perm hh.perm).mem_iff.2 (by rw [owns_append]; exact List.mem_append_left _ hb)), fun _ h => h, fun _ h => .inl h⟩⟩
/-- A nil slice is one of the call's own, with nothing in it. -/
theorem weak_nil (e : TypeId) (sz : Nat) : Weak N env h env (.sl none 0 e sz [] :: h) := fun F a w s =>
 ⟨F, ⟨⟨fun x hx => by
   rcases List.mem_cons.1 hx with rfl | hx
   ·exact ⟨[], World.ownsRow_nil w 0 e sz, fun y hy => by simp at hy, fun y hy => by simp at hy, fun i j y av x hi => by simp at hi⟩
   ·exact s.r.rep x hx, by simpa [HA.own] using s.r.nd, by simpa [HA.own] using s.r.lt, by simpa [HA.own] using s.r.sep⟩, s.size, s.env⟩, ⟨rfl, rfl, rfl, Nat.le_refl _, fun _ _ _ => rfl, fun b hb => .inl (by simpa [HA.own] using hb), fun _ h => h, fun _ h => .inl h⟩⟩
theorem own_settled {F F' : Nat → Prop} {w : World} {g : Option Nat} {c e sz : Nat} {es : List (List AV)} (hr : HARep F w (.sl g c e sz es)) (hF : ∀ b, F b → F' b) (hg : ∀ b, g = some b → F' b) : Rep F' w (.sl sz es) (slV g es.length c) := by
 cases g with
 | none =>
   obtain ⟨xs, ⟨h1, h2⟩, _⟩ := hr
   have hn : es.length = 0 := by
     rcases h2 with ⟨_, h⟩ | ⟨b, _, _, h, _⟩
     ·exact h
     ·simp [slV] at h
   have he : es = [] := List.eq_nil_of_length_eq_zero hn
   subst he
   exact .sl0 _ _ _
 | some b =>
   have hr0 := hr
   obtain ⟨xs0, ⟨hl0, h0⟩, _⟩ := hr0
   have hc : es.length ≤ c := by
     rcases h0 with ⟨h, _⟩ | ⟨b', cap, cur, hv, _, _, hnc, _⟩
     ·simp [slV] at h
     ·simp [slV] at hv; omega
   obtain ⟨xs, h1, h2, h3, h4, h5⟩ := own_cells hr
   have hlt : ∀ i j, i < es.length → j < sz → xs[i * sz + j]? = some (xs.getD (i * sz + j) undef) := fun i j hi hj => by
     have : i * sz + j < xs.length := by rw [h1]; exact idx_lt hi hj
     simp [this]
   exact .sl sz es b 0 c (fun i j => xs.getD (i * sz + j) undef) (hg b rfl) hc h2 (fun i j hi hj => by rw [Nat.zero_add]; exact h4 _ _ (hlt i j hi hj)) (fun i j hi hj => h3 _ (List.mem_of_getElem? (hlt i j hi hj)))
     (fun i j y av hi hj => (h5 i j y av _ hi hj (hlt i j (List.getElem?_eq_some_iff.1 hi).1 (by rw [← h2 y (List.mem_of_getElem? hi)]; exact (List.getElem?_eq_some_iff.1 hj).1))).mono hF (fun _ _ => rfl))
theorem weak_settle {k n c e sz : Nat} {g : Option Nat} {es : List (List AV)} {h' : List HA} (hk : get env k = some (.v (slV g n c))) (hs : Spl h (.sl g c e sz es) h') (hn : n = es.length) : Weak N env h ((k, .sl sz es) :: env) h' := fun F a w s => by
 subst hn
 have r1 := s.r.perm hs.perm
 have hr := r1.rep (.sl g c e sz es) (by simp)
 have hF' : ∀ b, F b → (F b ∨ g = some b) := fun b hb => .inl hb
 have hgo : ∀ b, g = some b → b ∈ (HA.sl g c e sz es).own := fun b hb => by subst hb; simp [HA.own]
 have hnd := r1.nd
 rw [owns_cons] at hnd
 refine ⟨fun b => F b ∨ g = some b, ⟨⟨fun x hx => (r1.rep x (by simp [hx])).mono hF' (fun _ _ => rfl) (fun _ _ => rfl), (List.nodup_append.1 hnd).2.1, fun b hb => r1.lt b (by simp [hb]), fun b hb => ?_⟩, s.size, fun j av hj => ?_⟩, ⟨rfl, rfl, rfl, Nat.le_refl _, fun _ _ _ => rfl, fun b hb => .inl ((owns_perm hs.perm).mem_iff.2 (by simp [hb])), hF', fun b hb => hb.imp id (fun e => .inl ((owns_perm hs.perm).mem_iff.2 (by simp [hgo b e])))⟩⟩
 ·rcases hb with hb | hb
  ·have := r1.sep b hb; rw [owns_cons] at this; exact ⟨this.1, fun hm => this.2 (List.mem_append_right _ hm)⟩
  ·exact ⟨r1.lt b (by simp [hgo b hb]), fun hm => (List.nodup_append.1 hnd).2.2 b (hgo b hb) b hm rfl⟩
 ·by_cases hkj : k = j
  ·subst hkj
   have : Nat.beq k k = true := by simp
   simp only [A.get, this, cond_true, Option.some.injEq] at hj
   subst hj
   have hv := s.env k _ hk
   generalize hq : a.tmps.getD k undef = v at hv
   cases hv
   exact own_settled hr hF' (fun b hb => .inr hb)
  ·simp only [A.get, beq_no hkj, cond_false] at hj
   exact (s.env j av hj).mono hF' (fun _ _ => rfl)
end A
end Go.Proofs.YtgdfppjapnpcgaaDoor
namespace Go.Proofs.YtgdfppjapnpcgaaDoor
namespace A
open Go.Proofs.YtgdfppjapnpcgaaDoorW.PrintLast (takeB anyB readyB)
variable {P : Program} {N : Nat} {env : Env} {h : List HA} {K : Cont} {X : List (Nat × Cont)} {Rt : Cont}
/-! ### In the text's order -/
theorem oP {ops : Array Oper} {o : Oper} {rest : List Oper} {d : Nat} {av : AV} (hg : o.guard = none) (hr : APure P N o env av) (hd : o.dst = some d) (hN : d < N) (hk : AOps P N ops rest ((d, av) :: env) h K X Rt) : AOps P N ops (o :: rest) env h K X Rt :=
 oCons hg (aPure hr hd hN hk)
theorem oR {ops : Array Oper} {o : Oper} {rest : List Oper} {d : Nat} {av : AV} (hg : o.guard = none) (hr : ARead P N o env h av) (hd : o.dst = some d) (hN : d < N) (hk : AOps P N ops rest ((d, av) :: env) h K X Rt) : AOps P N ops (o :: rest) env h K X Rt :=
 oCons hg (aRead hr hd hN hk)
theorem oA {ops : Array Oper} {o : Oper} {rest : List Oper} (hg : o.guard = none) (h1 : AOp P N o env h (fun env' h' => AOps P N ops rest env' h' K X Rt)) : AOps P N ops (o :: rest) env h K X Rt := oCons hg h1
theorem oQ {ops : Array Oper} {o : Oper} {rest : List Oper} (hg : o.guard = none) (h1 : AOpQ P N o env h (fun env' h' => AOps P N ops rest env' h' K X Rt)) : AOps P N ops (o :: rest) env h K X Rt := oCons hg h1.op
theorem oGT {ops : Array Oper} {o : Oper} {rest : List Oper} {j d : Nat} {want : Bool} {x : Value} (hg : o.guard = some (j, want)) (hj : (ops[j]?).bind (·.dst) = some d) (hx : get env d = some (.v x)) (hw : wants x want = true)
   (h1 : AOp P N o env h (fun env' h' => AOps P N ops rest env' h' K X Rt)) : AOps P N ops (o :: rest) env h K X Rt := by
 intro B k F a w hr s e hdef
 obtain ⟨h3, h4, h5⟩ := range_drop hr
 rw [h5, wpOpsIn_cons]
 unfold wpOpIn
 simp only [h3, yieldsIf_guard hg hj hx s, hw, if_true]
 refine oper_in (Oper.wp_mono ?_ (h1 B F a w _ s e hdef))
 intro a' w' ⟨hd, F', env', h', hk, s', e'⟩
 exact hk B (k + 1) F' a' w' h4 s' e' hd
theorem oGP {ops : Array Oper} {o : Oper} {rest : List Oper} {j dj d : Nat} {want : Bool} {x : Value} {av : AV} (hg : o.guard = some (j, want)) (hj : (ops[j]?).bind (·.dst) = some dj) (hx : get env dj = some (.v x)) (hw : wants x want = true)
   (hr : APure P N o env av) (hd : o.dst = some d) (hN : d < N) (hk : AOps P N ops rest ((d, av) :: env) h K X Rt) : AOps P N ops (o :: rest) env h K X Rt := oGT hg hj hx hw (aPure hr hd hN hk)
theorem oGR {ops : Array Oper} {o : Oper} {rest : List Oper} {j dj d : Nat} {want : Bool} {x : Value} {av : AV} (hg : o.guard = some (j, want)) (hj : (ops[j]?).bind (·.dst) = some dj) (hx : get env dj = some (.v x)) (hw : wants x want = true)
   (hr : ARead P N o env h av) (hd : o.dst = some d) (hN : d < N) (hk : AOps P N ops rest ((d, av) :: env) h K X Rt) : AOps P N ops (o :: rest) env h K X Rt := oGT hg hj hx hw (aRead hr hd hN hk)
theorem oGF {ops : Array Oper} {o : Oper} {rest : List Oper} {j d dj : Nat} {want : Bool} {x : Value} (hg : o.guard = some (j, want)) (hj : (ops[j]?).bind (·.dst) = some dj) (hx : get env dj = some (.v x)) (hw : wants x want = false)
   (hd : o.dst = some d) (hN : d < N) (hk : AOps P N ops rest ((d, .v undef) :: env) h K X Rt) : AOps P N ops (o :: rest) env h K X Rt := by
 intro B k F a w hr s e hdef
 obtain ⟨h3, h4, h5⟩ := range_drop hr
 rw [h5, wpOpsIn_cons]
 unfold wpOpIn
 simp only [h3, yieldsIf_guard hg hj hx s, hw, Bool.false_eq_true, if_false, hd]
 exact ⟨fun _ _ => trivial, hk B (k + 1) F (a.put (some d) undef) w h4 (s.put (.refl F h w) s.r hN (.v undef)) e hdef⟩
/-! ### What a bool is, once it is known -/
theorem Sat.know {F : Nat → Prop} {a : Act} {w : World} {d : Nat} {b c : Bool} (s : Sat N F env h a w) (hd : get env d = some (.bool b)) (hb : b = c) : Sat N F ((d, .bool c) :: env) h a w := by
 subst hb
 refine ⟨s.r, s.size, fun k av hk => ?_⟩
 by_cases hdk : d = k
 ·subst hdk
  have : Nat.beq d d = true := by simp
  simp only [get, this, cond_true, Option.some.injEq] at hk
  subst hk
  exact s.env d _ hd
 ·simp only [get, beq_no hdk, cond_false] at hk
  exact s.env k av hk
theorem oSplit {ops : Array Oper} {rest : List Oper} (d : Nat) {b : Bool} (hd : get env d = some (.bool b)) (ht : b = true → AOps P N ops rest ((d, .bool true) :: env) h K X Rt) (hf : b = false → AOps P N ops rest ((d, .bool false) :: env) h K X Rt) : AOps P N ops rest env h K X Rt := by
 intro B k F a w hr s e hdef
 cases hb : b with
 | true => exact ht hb B k F a w hr (s.know hd hb) e hdef
 | false => exact hf hb B k F a w hr (s.know hd hb) e hdef
theorem dSplit {ops : Array Oper} {ds : List Nat} {n : Nat} {l : Array Bool} (d : Nat) {b : Bool} (hd : get env d = some (.bool b)) (ht : b = true → ADraw P N ops ds n l ((d, .bool true) :: env) h K X Rt) (hf : b = false → ADraw P N ops ds n l ((d, .bool false) :: env) h K X Rt) : ADraw P N ops ds n l env h K X Rt := by
 intro B F a w s e hdef
 cases hb : b with
 | true => exact ht hb B F a w (s.know hd hb) e hdef
 | false => exact hf hb B F a w (s.know hd hb) e hdef
theorem aCondT {c : Operand} {x y : Code} (hc : ev env c = some (.bool true)) (h1 : AWP P N x env h K X Rt) : AWP P N (.cond c x y) env h K X Rt := aCond hc (fun _ => h1) (fun h => by cases h)
theorem aCondF {c : Operand} {x y : Code} (hc : ev env c = some (.bool false)) (h1 : AWP P N y env h K X Rt) : AWP P N (.cond c x y) env h K X Rt := aCond hc (fun h => by cases h) (fun _ => h1)
/-! The same, by the test that the bool came of. -/
theorem oSplitDec {ops : Array Oper} {rest : List Oper} (d : Nat) {p : Prop} [Decidable p] (hd : get env d = some (.bool (decide p))) (ht : p → AOps P N ops rest ((d, .bool true) :: env) h K X Rt) (hf : ¬ p → AOps P N ops rest ((d, .bool false) :: env) h K X Rt) : AOps P N ops rest env h K X Rt :=
 oSplit d hd (fun e => ht (of_decide_eq_true e)) (fun e => hf (of_decide_eq_false e))
theorem oSplitEq {ops : Array Oper} {rest : List Oper} (d : Nat) {a b : Int} (hd : get env d = some (.bool (a == b))) (ht : a = b → AOps P N ops rest ((d, .bool true) :: env) h K X Rt) (hf : a ≠ b → AOps P N ops rest ((d, .bool false) :: env) h K X Rt) : AOps P N ops rest env h K X Rt :=
 oSplit d hd (fun e => ht (by simpa using e)) (fun e => hf (by simpa using e))
theorem oSplitNe {ops : Array Oper} {rest : List Oper} (d : Nat) {a b : Int} (hd : get env d = some (.bool (a != b))) (ht : a ≠ b → AOps P N ops rest ((d, .bool true) :: env) h K X Rt) (hf : a = b → AOps P N ops rest ((d, .bool false) :: env) h K X Rt) : AOps P N ops rest env h K X Rt :=
 oSplit d hd (fun e => ht (by simpa using e)) (fun e => hf (by simpa using e))
theorem oSplitNot {ops : Array Oper} {rest : List Oper} (d : Nat) {b : Bool} (hd : get env d = some (.bool (!b))) (ht : b = false → AOps P N ops rest ((d, .bool true) :: env) h K X Rt) (hf : b = true → AOps P N ops rest ((d, .bool false) :: env) h K X Rt) : AOps P N ops rest env h K X Rt :=
 oSplit d hd (fun e => ht (by simpa using e)) (fun e => hf (by simpa using e))
theorem dSplitDec {ops : Array Oper} {ds : List Nat} {n : Nat} {l : Array Bool} (d : Nat) {p : Prop} [Decidable p] (hd : get env d = some (.bool (decide p))) (ht : p → ADraw P N ops ds n l ((d, .bool true) :: env) h K X Rt) (hf : ¬ p → ADraw P N ops ds n l ((d, .bool false) :: env) h K X Rt) : ADraw P N ops ds n l env h K X Rt :=
 dSplit d hd (fun e => ht (of_decide_eq_true e)) (fun e => hf (of_decide_eq_false e))
theorem dSplitEq {ops : Array Oper} {ds : List Nat} {n : Nat} {l : Array Bool} (d : Nat) {a b : Int} (hd : get env d = some (.bool (a == b))) (ht : a = b → ADraw P N ops ds n l ((d, .bool true) :: env) h K X Rt) (hf : a ≠ b → ADraw P N ops ds n l ((d, .bool false) :: env) h K X Rt) : ADraw P N ops ds n l env h K X Rt :=
 dSplit d hd (fun e => ht (by simpa using e)) (fun e => hf (by simpa using e))
theorem aCondDec {c : Operand} {x y : Code} {p : Prop} [Decidable p] (hc : ev env c = some (.bool (decide p))) (ht : p → AWP P N x env h K X Rt) (hf : ¬ p → AWP P N y env h K X Rt) : AWP P N (.cond c x y) env h K X Rt :=
 aCond hc (fun e => ht (of_decide_eq_true e)) (fun e => hf (of_decide_eq_false e))
theorem aCondEq {c : Operand} {x y : Code} {a b : Int} (hc : ev env c = some (.bool (a == b))) (ht : a = b → AWP P N x env h K X Rt) (hf : a ≠ b → AWP P N y env h K X Rt) : AWP P N (.cond c x y) env h K X Rt :=
 aCond hc (fun e => ht (by simpa using e)) (fun e => hf (by simpa using e))
theorem aCondNe {c : Operand} {x y : Code} {a b : Int} (hc : ev env c = some (.bool (a != b))) (ht : a ≠ b → AWP P N x env h K X Rt) (hf : a = b → AWP P N y env h K X Rt) : AWP P N (.cond c x y) env h K X Rt :=
 aCond hc (fun e => ht (by simpa using e)) (fun e => hf (by simpa using e))
theorem aCondNot {c : Operand} {x y : Code} {b : Bool} (hc : ev env c = some (.bool (!b))) (ht : b = false → AWP P N x env h K X Rt) (hf : b = true → AWP P N y env h K X Rt) : AWP P N (.cond c x y) env h K X Rt :=
 aCond hc (fun e => ht (by simpa using e)) (fun e => hf (by simpa using e))
theorem pPick {o : Oper} {c x y : Operand} {b : Bool} {av : AV} (ho : o.op = .pick c x y) (hc : ev env c = some (.bool b)) (hx : ev env (cond b x y) = some av) : APure P N o env av := by
 intro F h a w s
 have hr := s.ev hc
 generalize hv : a.eval c = v at hr
 cases hr
 refine ⟨_, s.ev hx, fun w' => ?_⟩
 cases b <;> simp [execOp, ho, hv, asBool]
/-! ### Lending what is owned to a call that only reads -/
inductive Lent (h : List HA) : AV → AV → Prop
 | same (av : AV) : Lent h av av
 | sl {g : Option Nat} {n c e sz : Nat} {es : List (List AV)} (hm : HA.sl g c e sz es ∈ h) (hn : n = es.length) : Lent h (.v (slV g n c)) (.sl sz es)
 | sp {b : Nat} {cs : List AV} (hm : HA.box b cs ∈ h) : Lent h (.v (.pointer (some ⟨b, 0, none⟩))) (.sp cs)
 | fn {f : Fn} {cs ds : List AV} (hl : cs.length = ds.length) (hp : ∀ (i : Nat) a b, cs[i]? = some a → ds[i]? = some b → Lent h a b) : Lent h (.fn f cs) (.fn f ds)
inductive Lents (h : List HA) : List AV → List AV → Prop
 | nil : Lents h [] []
 | cons {a b : AV} {l m : List AV} : Lent h a b → Lents h l m → Lents h (a :: l) (b :: m)
theorem Lent.rep {F : Nat → Prop} {w : World} {a b : AV} {x : Value} (l : Lent h a b) (r : R F h w) (hx : Rep F w a x) : Rep (fun k => F k ∨ k ∈ owns h) w b x := by
 have hF : ∀ b, F b → (F b ∨ b ∈ owns h) := fun b h => .inl h
 induction l generalizing x with
 | same => exact hx.mono hF (fun _ _ => rfl)
 | fn hl hp ih =>
   cases hx with
   | fn _ _ xs hxl hR =>
     refine .fn _ _ xs (by rw [hxl, hl]) (fun j av y hj hy => ?_)
     have hlt : j < _ := (Array.getElem?_eq_some_iff.1 hy).1
     rw [hxl] at hlt
     exact ih j _ av (List.getElem?_eq_getElem hlt) hj (hR j _ y (List.getElem?_eq_getElem hlt) hy)
 | sl hm hn =>
   subst hn
   cases hx
   exact own_settled (r.rep _ hm) hF (fun b hb => .inr (List.mem_flatMap.2 ⟨_, hm, by subst hb; simp [HA.own]⟩))
 | sp hm =>
   cases hx
   obtain ⟨arr, ty, h1, h2, h3, h4⟩ := r.rep _ hm
   have hget : ∀ j, j < arr.size → arr[j]? = some (arr.getD j undef) := fun j hj => by simp [hj]
   refine .sp _ _ 0 (fun j => arr.getD j undef) (.inr (List.mem_flatMap.2 ⟨_, hm, by simp [HA.own]⟩)) (fun j hj => ?_) (fun j hj => h3 _ (Array.mem_of_getElem? (hget j (by omega)))) (fun j av hj => (h4 j av _ hj (hget j (by rw [h2]; exact (List.getElem?_eq_some_iff.1 hj).1))).mono hF (fun _ _ => rfl))
   rw [Nat.zero_add]
   simp only [World.cell?, h1, Option.isSome_none, Bool.false_eq_true, if_false]
   exact hget j (by omega)
theorem Lents.len {l m : List AV} (k : Lents h l m) : l.length = m.length := by
 induction k with
 | nil => rfl
 | cons _ _ ih => simp [ih]
theorem Lents.rep {F : Nat → Prop} {w : World} {l m : List AV} {vs : Array Value} (k : Lents h l m) (r : R F h w) (hx : Reps F w l vs) : Reps (fun k => F k ∨ k ∈ owns h) w m vs := by
 refine ⟨by rw [hx.1, k.len], fun i av x hi hv => ?_⟩
 have : ∀ (l m : List AV), Lents h l m → ∀ (i : Nat) av, m[i]? = some av → ∃ aw, l[i]? = some aw ∧ Lent h aw av := by
   intro l m k
   induction k with
   | nil => intro i av h; simp at h
   | cons hl _ ih =>
     intro i av h
     cases i with
     | zero => simp at h; subst h; exact ⟨_, rfl, hl⟩
     | succ i => simpa using ih i av (by simpa using h)
 obtain ⟨aw, h1, h2⟩ := this l m k i av hi
 exact h2.rep r (hx.2 i aw x h1 hv)
/-- No memory that is settled stands behind it. -/
inductive Flat : AV → Prop
 | v (x : Value) : Flat (.v x)
 | agg {cs : List AV} : (∀ c ∈ cs, Flat c) → Flat (.agg cs)
 | tup {cs : List AV} : (∀ c ∈ cs, Flat c) → Flat (.tup cs)
theorem Flat.rep {F F' : Nat → Prop} {w w' : World} {av : AV} {x : Value} (f : Flat av) (r : Rep F w av x) : Rep F' w' av x := by
 induction f generalizing x with
 | v y => cases r; exact .v _
 | agg _ ih => cases r with
   | agg _ xs hl h1 hR => exact .agg _ xs hl h1 (fun j av y hj hy => ih _ (List.mem_of_getElem? hj) (hR j av y hj hy))
 | tup _ ih => cases r with
   | tup _ xs hl hR => exact .tup _ xs hl (fun j av y hj hy => ih _ (List.mem_of_getElem? hj) (hR j av y hj hy))
/-- What a call makes is flat: then what was lent to it comes back. -/
def FlatHA : HA → Prop
 | .box _ cs => ∀ c ∈ cs, Flat c
 | .sl _ _ _ _ es => ∀ y ∈ es, ∀ c ∈ y, Flat c
 | .map _ kvs => ∀ kv ∈ kvs, Flat kv.2
 | .loop _ _ _ => False
 | .obj _ _ => True
 | .mapIt _ _ _ _ => False
 | .mapK _ kvs => ∀ kv ∈ kvs, Flat kv.2
 | .mapKIt _ _ _ _ => False
 | .fam _ _ _ => False
 | .know _ _ => False
theorem FlatHA.rep {F F' : Nat → Prop} {w : World} {x : HA} (f : FlatHA x) (r : HARep F w x) : HARep F' w x := by
 match x, f, r with
 | .box b cs, f, ⟨arr, ty, h1, h2, h3, h4⟩ => exact ⟨arr, ty, h1, h2, h3, fun j av y hj hy => (f av (List.mem_of_getElem? hj)).rep (h4 j av y hj hy)⟩
 | .sl g c e sz es, f, ⟨xs, h1, h2, h3, h4⟩ => exact ⟨xs, h1, h2, h3, fun i j y av x hi hj hx => (f y (List.mem_of_getElem? hi) av (List.mem_of_getElem? hj)).rep (h4 i j y av x hi hj hx)⟩
 | .map b kvs, f, ⟨ents, clock, h1, h2, h3, h4⟩ => exact ⟨ents, clock, h1, h2, fun i kv e a b => ⟨(h3 i kv e a b).1, (f kv (List.mem_of_getElem? a)).rep (h3 i kv e a b).2.1, (h3 i kv e a b).2.2⟩, h4⟩
 | .mapK b kvs, f, ⟨ents, clock, h1, h2, h3, h4⟩ => exact ⟨ents, clock, h1, h2, fun i kv e a b => ⟨(h3 i kv e a b).1, (f kv (List.mem_of_getElem? a)).rep (h3 i kv e a b).2.1, (h3 i kv e a b).2.2⟩, h4⟩
 | .obj b o, f, h1 => exact h1
/-- A call that is handed nothing of what is owned, but may read it; what it makes is flat. -/
theorem qCallL {o : Oper} {d : Nat} {fo : Operand} {xs : Array Operand} {ts : Array TypeId} {f : FuncId} {caps caps' l l' : List AV} {Q : AV → List HA → Prop} (hop : o.op = .call ⟨.value fo, xs, ts⟩) (hd : o.dst = some d) (hN : d < N)
   (hfo : ev env fo = some (.fn (.func f) caps)) (hl : evs env xs.toList = some l) (hlent : Lents h (l ++ caps) l') (t : Triple P f l' [] Q) (hflat : ∀ r h', Q r h' → Flat r ∧ ∀ x ∈ h', FlatHA x) (hk : ∀ r h', Q r h' → K ((d, r) :: env) (h' ++ h)) : AOpQ P N o env h K := by
 intro B F a w Qx s e hdef
 have hfv := s.ev hfo
 generalize hv : a.eval fo = v at hfv
 cases hfv with
 | fn _ _ cx hcl hcr =>
   unfold Oper.wp
   rw [exec_call hop hv t.1, Oper.upon_enter]
   obtain ⟨hz1, hz2⟩ := reps_evs s xs.toList l hl
   have hreps : Reps F w (l ++ caps) (xs.map a.eval ++ cx) := by
     refine ⟨by simpa [hcl] using hz1, fun i av x hi hx => ?_⟩
     have hsz : (xs.map a.eval).size = l.length := by simpa using hz1
     rcases Nat.lt_or_ge i l.length with hlt | hge
     ·rw [List.getElem?_append_left hlt] at hi
      rw [Array.getElem?_append_left (by rw [hsz]; exact hlt)] at hx
      exact hz2 i av x hi (by simpa using hx)
     ·rw [List.getElem?_append_right hge] at hi
      rw [Array.getElem?_append_right (by rw [hsz]; exact hge), hsz] at hx
      exact hcr _ av x hi hx
   have hr0 : R (fun k => F k ∨ k ∈ owns h) [] w := ⟨fun x hx => by simp at hx, by simp, fun b hb => by simp at hb, fun b hb => ⟨hb.elim (fun h => (s.r.sep b h).1) (fun h => s.r.lt b h), by simp⟩⟩
   refine (t.2 _ w _ hr0 (hlent.rep s.r hreps)).mono ?_
   rintro ex w' ⟨r, x, h', F', rfl, hq, hrep, hR', hE⟩
   simp only [hd]
   obtain ⟨hf1, hf2⟩ := hflat r h' hq
   have hkeep : ∀ b, b < w.heap.size → w'.heap[b]? = w.heap[b]? := fun b hb => hE.keep b hb (by simp)
   have hnew : ∀ b ∈ owns h', w.heap.size ≤ b := fun b hb => (hE.sub b hb).elim (fun h => by simp at h) id
   have hR2 : R F (h' ++ h) w' := by
     refine ⟨fun y hy => ?_, ?_, ?_, ?_⟩
     ·rcases List.mem_append.1 hy with hy | hy
      ·exact (hf2 y hy).rep (hR'.rep y hy)
      ·exact (s.r.rep y hy).mono (fun _ h => h) (fun b hb => hkeep b (s.r.sep b hb).1) (fun b hb => hkeep b (s.r.lt b (List.mem_flatMap.2 ⟨y, hy, hb⟩)))
     ·rw [owns_append]
      refine List.nodup_append.2 ⟨hR'.nd, s.r.nd, ?_⟩
      rintro b hb c hc rfl
      have := hnew b hb
      have := s.r.lt b hc
      omega
     ·intro b hb
      rw [owns_append] at hb
      rcases List.mem_append.1 hb with hb | hb
      ·exact hR'.lt b hb
      ·exact Nat.lt_of_lt_of_le (s.r.lt b hb) hE.size
     ·intro b hb
      have h1 := s.r.sep b hb
      refine ⟨Nat.lt_of_lt_of_le h1.1 hE.size, fun hm => ?_⟩
      rw [owns_append] at hm
      rcases List.mem_append.1 hm with hm | hm
      ·have := hnew b hm; omega
      ·exact h1.2 hm
   have hE2 : Ext F h w F (h' ++ h) w' := ⟨hE.os, hE.output, hE.tape, hE.size, fun b hb _ => hkeep b hb, fun b hb => by
     rw [owns_append] at hb
     rcases List.mem_append.1 hb with hb | hb
     ·exact .inr (hnew b hb)
     ·exact .inl hb, fun _ h => h, fun _ h => .inl h⟩
   exact ⟨hdef, F, _, _, hk r h' hq, s.put hE2 hR2 hN (hf1.rep hrep), e.trans hE2, fun b hb => hkeep b (hb.elim (fun h => (s.r.sep b h).1) (fun h => s.r.lt b h)), fun _ h => h, fun b hb => .inl (by rw [owns_append]; exact List.mem_append_right _ hb)⟩
/-- The same, where the result is one value of Go's own (a number, a bool). -/
theorem qCallV {o : Oper} {d : Nat} {fo : Operand} {xs : Array Operand} {ts : Array TypeId} {f : FuncId} {caps l l' : List AV} {v : Value} (hop : o.op = .call ⟨.value fo, xs, ts⟩) (hd : o.dst = some d) (hN : d < N)
   (hfo : ev env fo = some (.fn (.func f) caps)) (hl : evs env xs.toList = some l) (hlent : Lents h (l ++ caps) l') (t : Triple P f l' [] (fun r h' => r = .v v ∧ h' = [])) (hk : K ((d, .v v) :: env) h) : AOpQ P N o env h K :=
 qCallL (caps' := []) hop hd hN hfo hl hlent t (fun r h' ⟨hr, hh⟩ => by subst hr; subst hh; exact ⟨.v _, fun x hx => by simp at hx⟩) (fun r h' ⟨hr, hh⟩ => by subst hr; subst hh; exact hk)
/-- A loop: at each round's head a state of the family G at a t that meets I; each round lowers m. -/
theorem aLoopI {α : Type} {c : Code} (I : α → Prop) (G : α → Env × List HA) (m : α → Nat) (t0 : α) (i0 : I t0) (h0 : Weak N env h (G t0).1 (G t0).2)
   (h1 : ∀ t, I t → AWP P N c (G t).1 (G t).2 (fun env' h' => ∃ t', I t' ∧ m t' < m t ∧ Weak N env' h' (G t').1 (G t').2) X Rt) : AWP P N (.loop c) env h K X Rt :=
 aLoop (α := { t : α // I t }) (fun t => G t.1) (fun t => m t.1) ⟨t0, i0⟩ h0 (fun t => aMono (h1 t.1 t.2) (fun env' h' ⟨t', hi, hm, hw⟩ => ⟨⟨t', hi⟩, hm, hw⟩) (fun _ _ h => h))
theorem aCutI {α : Type} {x y : Code} (I : α → Prop) (G : α → Env × List HA) (h1 : AWP P N x env h (fun env' h' => ∃ t, I t ∧ Weak N env' h' (G t).1 (G t).2) X Rt)
   (h2 : ∀ t, I t → AWP P N y (G t).1 (G t).2 K X Rt) : AWP P N (.seq x y) env h K X Rt :=
 aCut (α := { t : α // I t }) (fun t => G t.1) (aMono h1 (fun _ _ ⟨t, hi, hw⟩ => ⟨⟨t, hi⟩, hw⟩) (fun _ _ h => h)) (fun t => h2 t.1 t.2)
theorem gInt {k : Nat} {a b : Int} (hg : get env k = some (.int a)) (hab : a = b) : get env k = some (.int b) := hab ▸ hg
theorem gLen {k : Nat} {g : Option Nat} {n n' c : Nat} (hg : get env k = some (.v (slV g n c))) (hn : n = n') : get env k = some (.v (slV g n' c)) := hn ▸ hg
theorem lents_refl : ∀ (l : List AV), Lents h l l
 | [] => .nil
 | a :: l => .cons (.same a) (lents_refl l)
end A
end Go.Proofs.YtgdfppjapnpcgaaDoor
namespace Go.Proofs.YtgdfppjapnpcgaaDoor
namespace A
variable {P : Program} {N : Nat} {env : Env} {h : List HA} {K : Cont} {X : List (Nat × Cont)} {Rt : Cont}
/-- What is known of a value, said otherwise. -/
def Cast (a b : AV) : Prop := ∀ F w x, Rep F w a x → Rep F w b x
theorem cast_nil {sz : Nat} : Cast (.v (.slice none 0 0)) (.sl sz []) := fun F w x hx => by cases hx; exact .sl0 _ _ _
end A
end Go.Proofs.YtgdfppjapnpcgaaDoor
namespace Go.Proofs.YtgdfppjapnpcgaaDoor
namespace A
variable {P : Program} {N : Nat} {env : Env} {h : List HA} {K : Cont} {X : List (Nat × Cont)} {Rt : Cont}
def placesL (P : Program) : List Field → Option (List (Nat × Nat))
 | [] => some []
 | f :: r => match tyOf P f.type, placesL P r with
   | some (n, _), some l => some ((f.offset, n) :: l)
   | _, _ => none
/-- A struct type's fields: where each begins, how many cells it has. -/
def structPlaces (P : Program) (t : TypeId) : Option (List (Nat × Nat)) :=
 match P.underlying t with
 | some (.struct fs) => placesL P fs.toList
 | _ => none
theorem structPlaces_spec {t : TypeId} {pl : List (Nat × Nat)} (hp : structPlaces P t = some pl) : ∃ fs, P.underlying t = some (.struct fs) ∧ placesL P fs.toList = some pl := by
 unfold structPlaces at hp
 split at hp
 ·rename_i fs hu; exact ⟨fs, hu, hp⟩
 ·simp at hp
theorem run_placesL (w : World) : ∀ (fs : List Field) (pl : List (Nat × Nat)), placesL P fs = some pl → (fs.mapM fun f => (do pure (f.offset, ← sizeOf f.type) : Sem (Nat × Nat))).run P w = .ok pl w
 | [], pl, h => by simp only [placesL, Option.some.injEq] at h; subst h; simp
 | f :: r, pl, h => by
   simp only [placesL] at h
   cases h1 : tyOf P f.type with
   | none => rw [h1] at h; simp at h
   | some x =>
     cases h2 : placesL P r with
     | none => rw [h1, h2] at h; simp at h
     | some l =>
       rw [h1, h2] at h
       simp only [Option.some.injEq] at h
       subst h
       rw [List.mapM_cons]
       simp only [Sem.run_bind, run_sizeOf h1, Result.andThen_ok, Sem.run_pure, run_placesL w r l h2]
def fillAV (pl : List (Nat × Nat)) : List AV → List (Nat × AV) → Option (List AV)
 | cs, [] => some cs
 | cs, (i, av) :: r => match pl[i]? with
   | some (off, n) => if (avCells av).length = n ∧ off + n ≤ cs.length then fillAV pl (setCells cs off (avCells av)) r else none
   | none => none
theorem foldl_splice : ∀ (ns : List Value) (cs : Array Value) (o : Nat), o + ns.length ≤ cs.size →
   ∀ s, ((ns.zipIdx s).foldl (fun cs (c, j) => cs.setIfInBounds (o + j) c) cs).size = cs.size ∧
     ∀ j, ((ns.zipIdx s).foldl (fun cs (c, j) => cs.setIfInBounds (o + j) c) cs)[j]? = if o + s ≤ j ∧ j < o + s + ns.length ∧ j < cs.size then ns[j - (o + s)]? else cs[j]? := by
 intro ns
 induction ns with
 | nil => intro cs o h s; refine ⟨rfl, fun j => ?_⟩; rw [if_neg (by simp; omega)]; rfl
 | cons n ns ih =>
   intro cs o h s
   simp only [List.zipIdx_cons, List.foldl_cons]
   obtain ⟨i1, i2⟩ := ih (cs.setIfInBounds (o + s) n) o (by simp at h ⊢; omega) (s + 1)
   refine ⟨by rw [i1]; simp, fun j => ?_⟩
   rw [i2 j]
   simp only [Array.size_setIfInBounds, List.length_cons]
   by_cases h1 : o + (s + 1) ≤ j ∧ j < o + (s + 1) + ns.length ∧ j < cs.size
   ·rw [if_pos h1, if_pos (by omega)]
    have : j - (o + s) = (j - (o + (s + 1))) + 1 := by omega
    rw [this, List.getElem?_cons_succ]
   ·rw [if_neg h1, Array.getElem?_setIfInBounds]
    by_cases h2 : o + s = j
    ·rw [if_pos h2]
     subst h2
     by_cases h3 : o + s < cs.size
     ·rw [if_pos h3, if_pos (by omega)]; simp
     ·rw [if_neg h3, if_neg (by omega)]
      exact (Array.getElem?_eq_none (by omega)).symm
    ·rw [if_neg h2, if_neg (by omega)]
theorem fill_rep {F : Nat → Prop} {w : World} {pl : List (Nat × Nat)} : ∀ (is : List Nat) (l : List AV) (vs : List Value) (cs : List AV) (arr : Array Value) (out : List AV), is.length = l.length → vs.length = l.length → (∀ (i : Nat) av x, l[i]? = some av → vs[i]? = some x → Rep F w av x ∧ oneOf av = true) →
   arr.size = cs.length → (∀ (j : Nat) av x, cs[j]? = some av → arr[j]? = some x → Rep F w av x) → (∀ x ∈ arr, x.oneCell' = true) → fillAV pl cs (is.zip l) = some out →
   ∃ res : Array Value, Instr.fill (fun i => pl[i]?) arr (is.zip vs) = some res ∧ res.size = out.length ∧ (∀ (j : Nat) av x, out[j]? = some av → res[j]? = some x → Rep F w av x) ∧ ∀ x ∈ res, x.oneCell' = true
 | [], [], vs, cs, arr, out, _, hv, _, hs, hr, h1, hf => by
   cases vs with
   | nil => simp only [List.zip_nil_left, fillAV, Option.some.injEq] at hf; subst hf; exact ⟨arr, by simp [Instr.fill], hs, hr, h1⟩
   | cons => simp at hv
 | i :: is, av :: l, vs, cs, arr, out, hil, hv, hl, hs, hr, h1, hf => by
   cases vs with
   | nil => simp at hv
   | cons x vs =>
     simp only [List.zip_cons_cons, fillAV] at hf
     cases hp : pl[i]? with
     | none => rw [hp] at hf; simp at hf
     | some on =>
       obtain ⟨off, n⟩ := on
       rw [hp] at hf
       simp only at hf
       split at hf
       ·rename_i hc
        obtain ⟨hav, hone⟩ := hl 0 av x rfl rfl
        obtain ⟨hx1, hx2⟩ := rep_cells hav
        have hxs : x.cells.size = n := by rw [hx1, hc.1]
        have hxl : x.cells.toList.length = n := by rw [Array.length_toList, hxs]
        have s1 := (foldl_splice x.cells.toList arr off (by omega) 0).1
        have s2 : ∀ j, ((x.cells.toList.zipIdx 0).foldl (fun cs (c, j) => cs.setIfInBounds (off + j) c) arr)[j]? = if off ≤ j ∧ j < off + x.cells.toList.length ∧ j < arr.size then x.cells.toList[j - off]? else arr[j]? := (foldl_splice x.cells.toList arr off (by omega) 0).2
        obtain ⟨res, r1, r2, r3, r4⟩ := fill_rep is l vs (setCells cs off (avCells av)) ((x.cells.toList.zipIdx 0).foldl (fun cs (c, j) => cs.setIfInBounds (off + j) c) arr) out (by simpa using hil) (by simpa using hv) (fun i a b ha hb => hl (i + 1) a b (by simpa using ha) (by simpa using hb)) (by rw [s1, hs, setCells_length]) (fun j a b ha hb => by
          rw [setCells_get _ _ _ _ (by omega)] at ha
          rw [s2] at hb
          by_cases hj : off ≤ j ∧ j < off + n
          ·rw [if_pos (by omega)] at ha
           rw [if_pos (by omega)] at hb
           exact hx2 _ a b ha (by simpa using hb)
          ·rw [if_neg (by omega)] at ha
           rw [if_neg (by omega)] at hb
           exact hr j a b ha hb) (fun y hy => by
          obtain ⟨j, hj⟩ := Array.mem_iff_getElem?.1 hy
          rw [s2] at hj
          split at hj
          ·exact rep_one hav hone y (by have := List.mem_of_getElem? hj; simpa using this)
          ·exact h1 y (Array.mem_of_getElem? hj)) hf
        refine ⟨res, ?_, r2, r3, r4⟩
        rw [List.zip_cons_cons, Instr.fill]
        simp only [hp, hxs]
        rw [if_neg (by simp; omega), ← r1, ← Array.foldl_toList, Array.toList_zipIdx]
       ·simp at hf
 | [], _ :: _, _, _, _, _, hil, _, _, _, _, _, _ => by simp at hil
 | _ :: _, [], _, _, _, _, hil, _, _, _, _, _, _ => by simp at hil
/-- 'T{..}' -/
theorem pBuild {o : Oper} {t : TypeId} {parts : Array (Nat × Operand)} {pl : List (Nat × Nat)} {z : Value} {l cs : List AV} (ho : o.op = .build t parts) (hp : structPlaces P t = some pl) (hz : zeroOf P t = some z) (hz1 : oneOf (.v z) = true) (hl : evs env (parts.toList.map (·.2)) = some l) (hone : l.all oneOf = true)
   (hf : fillAV pl (avCells (.v z)) ((parts.toList.map (·.1)).zip l) = some cs) : APure P N o env (.agg cs) := by
 intro F h a w s
 obtain ⟨fs, hu, hpl⟩ := structPlaces_spec hp
 obtain ⟨e1, e2⟩ := evs_get s hl
 obtain ⟨z1, z2⟩ := rep_cells (Rep.v (F := F) (w := w) z)
 have hil : (parts.toList.map (·.1)).length = l.length := by rw [List.length_map, ← e1, List.length_map]
 obtain ⟨res, r1, r2, r3, r4⟩ := fill_rep (parts.toList.map (·.1)) l ((parts.toList.map (·.2)).map a.eval) (avCells (.v z)) z.cells cs hil (by rw [List.length_map, e1]) (fun i av x hi hx => ⟨e2 i av x hi hx, List.all_eq_true.1 hone av (List.mem_of_getElem? hi)⟩) z1 z2 (rep_one (Rep.v (F := F) (w := w) z) hz1) hf
 have hzip : (parts.map fun (i, x) => (i, a.eval x)).toList = (parts.toList.map (·.1)).zip ((parts.toList.map (·.2)).map a.eval) := by
   rw [List.map_map, Array.toList_map, List.zip_map']
   rfl
 refine ⟨.agg res, .agg cs res r2 r4 r3, fun w' => ?_⟩
 have hpr : (fs.mapM fun f => (do pure (f.offset, ← sizeOf f.type) : Sem (Nat × Nat))).run P w' = .ok pl.toArray w' := by
   rw [← Array.toArray_toList (xs := fs), List.mapM_toArray]
   simp only [Sem.run_map]
   rw [run_placesL w' fs.toList pl hpl]
   rfl
 have hfun : (fun i : Nat => pl.toArray[i]?) = fun i => pl[i]? := by funext i; simp
 simp only [execOp, ho, Instr.build, hfun, Sem.run_bind, run_zero hz, Result.andThen_ok, run_underlying' hu, hpr, hzip, r1, Sem.run_pure]
end A
end Go.Proofs.YtgdfppjapnpcgaaDoor
