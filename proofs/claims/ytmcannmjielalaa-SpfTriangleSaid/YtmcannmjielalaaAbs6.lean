/- Operations that act: new variables, stores, new slices, appends; what is let go. Over any program. -/
import Derived.Test.YtmcannmjielalaaAbs5
import Derived.Deep.AppendSrc
set_option linter.unusedVariables false
set_option linter.unusedSimpArgs false
namespace Go.Proofs.Ytmcannmjielalaa
namespace A

variable {P : Program} {N : Nat} {env : Env} {h : List HA} {K : Cont} {X : List (Nat × Cont)} {Rt : Cont}

theorem heap_new (w : World) (o : Obj) : (w.alloc o).heap[w.heap.size]? = some o := by
  show (w.heap.push o)[w.heap.size]? = some o
  simp
theorem heap_old (w : World) (o : Obj) (b : Nat) (hb : b < w.heap.size) : (w.alloc o).heap[b]? = w.heap[b]? := by
  show (w.heap.push o)[b]? = _
  rw [Array.getElem?_push, if_neg (by omega)]

/-- A new block. -/
theorem R.new {F : Nat → Prop} {w : World} {o : Obj} {x : HA} (r : R F h w) (ho : x.own = [w.heap.size]) (hx : HARep F (w.alloc o) x) : R F (x :: h) (w.alloc o) ∧ Ext F h w F (x :: h) (w.alloc o) ∧ Agree F h w (w.alloc o) := by
  have hold : ∀ b, b < w.heap.size → (w.alloc o).heap[b]? = w.heap[b]? := fun b hb => heap_old w o b hb
  have hag : Agree F h w (w.alloc o) := fun b hb => hold b (hb.elim (fun h => (r.sep b h).1) (fun h => r.lt b h))
  refine ⟨⟨fun y hy => ?_, ?_, ?_, ?_⟩, ⟨rfl, rfl, rfl, by simp, fun b hb _ => hold b hb, ?_, fun _ h => h, fun _ h => .inl h, Nat.le_refl _⟩, hag⟩
  · rcases List.mem_cons.1 hy with rfl | hy
    · exact hx
    · exact (r.rep y hy).mono (fun _ h => h) (fun b hb => hold b (r.sep b hb).1) (fun b hb => hold b (r.lt b (List.mem_flatMap.2 ⟨y, hy, hb⟩)))
  · rw [owns_cons, ho]
    refine List.nodup_append.2 ⟨by simp, r.nd, ?_⟩
    intro b hb c hc
    simp at hb
    have := r.lt c hc
    omega
  · intro b hb
    rw [owns_cons, ho] at hb
    simp only [List.singleton_append, List.mem_cons] at hb
    rw [World.size_alloc]
    rcases hb with rfl | hb
    · omega
    · have := r.lt b hb; omega
  · intro b hb
    rw [owns_cons, ho, World.size_alloc]
    have := r.sep b hb
    refine ⟨by omega, ?_⟩
    simp only [List.singleton_append, List.mem_cons, not_or]
    exact ⟨by omega, this.2⟩
  · intro b hb
    rw [owns_cons, ho] at hb
    simp only [List.singleton_append, List.mem_cons] at hb
    rcases hb with rfl | hb
    · exact .inr (Nat.le_refl _)
    · exact .inl hb


/-- Is each cell of the value one cell? -/
def oneOf : AV → Bool
  | .v (.agg xs) => xs.toList.all (·.oneCell')
  | .v x => x.oneCell'
  | .tup _ => false
  | _ => true
theorem rep_one {F : Nat → Prop} {w : World} {av : AV} {x : Value} (hr : Rep F w av x) (ho : oneOf av = true) : ∀ y ∈ x.cells, y.oneCell' = true := by
  cases hr with
  | v x =>
    cases x with
    | agg xs => intro y hy; simp only [Value.cells] at hy; simp only [oneOf, List.all_eq_true] at ho; exact ho y (by simpa using hy)
    | _ => intro y hy; simp only [Value.cells] at hy; simp at hy; subst hy; exact ho
  | agg cs xs hl h1 hR => exact h1
  | tup cs xs hl hR => simp [oneOf] at ho
  | _ => intro y hy; simp only [Value.cells] at hy; simp at hy; subst hy; rfl

theorem box_rep {F : Nat → Prop} {w : World} {av : AV} {x : Value} {t : TypeId} (hr : Rep F w av x) (ho : oneOf av = true) (hs : ∀ b, F b → b < w.heap.size) : HARep F (w.alloc (.cells x.cells t)) (.box w.heap.size (avCells av)) := by
  obtain ⟨h1, h2⟩ := rep_cells hr
  exact ⟨x.cells, t, heap_new w _, h1, rep_one hr ho, fun j c y hc hy => (h2 j c y hc hy).mono (fun _ h => h) (fun b hb => heap_old w _ b (hs b hb))⟩

def zeroOf (P : Program) (t : TypeId) : Option Value := (P.info? t).bind (·.zero)
theorem run_zero {t : TypeId} {z : Value} (hz : zeroOf P t = some z) (w : World) : (zeroValue t).run P w = .ok z w := by
  unfold zeroOf at hz
  cases hi : P.info? t with
  | none => rw [hi] at hz; simp at hz
  | some i =>
    rw [hi] at hz
    simp only [Option.bind_some] at hz
    simp [zeroValue, typeInfo, hi, hz]

/-- A new variable at nought. -/
theorem qAlloc {o : Oper} {t : TypeId} {z : Value} {d : Nat} (ho : o.op = .alloc t) (hd : o.dst = some d) (hN : d < N) (hz : zeroOf P t = some z) (h1 : oneOf (.v z) = true)
    (hk : ∀ b, K ((d, .v (.pointer (some ⟨b, 0, none⟩))) :: env) (.box b (avCells (.v z)) :: h)) : AOpQ P N o env h K := by
  intro B F a w Q s e hdef
  obtain ⟨hr, he, hag⟩ := s.r.new (o := .cells z.cells t) (x := .box w.heap.size (avCells (.v z))) rfl (box_rep (.v z) h1 (fun b hb => (s.r.sep b hb).1))
  have hrun : (execOp a.eval o).run P w = .ok (.value (.pointer (some ⟨w.heap.size, 0, none⟩))) (w.alloc (.cells z.cells t)) := by
    simp [execOp, ho, Instr.alloc, run_zero hz, newVar, newRow]
  unfold Oper.wp
  rw [hrun, Oper.upon_value, hd]
  exact ⟨hdef, F, _, _, hk _, s.put he hr hN (.v _), e.trans he, hag, fun _ h => h, fun b hb => .inl (by simp [hb])⟩

/-- A new variable with a value. -/
theorem qBox {o : Oper} {t : TypeId} {x : Operand} {av : AV} {d : Nat} (ho : o.op = .box t x) (hd : o.dst = some d) (hN : d < N) (hx : ev env x = some av) (h1 : oneOf av = true)
    (hk : ∀ b, K ((d, .v (.pointer (some ⟨b, 0, none⟩))) :: env) (.box b (avCells av) :: h)) : AOpQ P N o env h K := by
  intro B F a w Q s e hdef
  have hx := s.ev hx
  obtain ⟨hr, he, hag⟩ := s.r.new (o := .cells (a.eval x).cells t) (x := .box w.heap.size (avCells av)) rfl (box_rep hx h1 (fun b hb => (s.r.sep b hb).1))
  have hrun : (execOp a.eval o).run P w = .ok (.value (.pointer (some ⟨w.heap.size, 0, none⟩))) (w.alloc (.cells (a.eval x).cells t)) := by
    simp [execOp, ho, Instr.box, newVar, newRow]
  unfold Oper.wp
  rw [hrun, Oper.upon_value, hd]
  exact ⟨hdef, F, _, _, hk _, s.put he hr hN (.v _), e.trans he, hag, fun _ h => h, fun b hb => .inl (by simp [hb])⟩

/-! ### Writing into what is owned -/
theorem R.upd {F : Nat → Prop} {w w' : World} {x x' : HA} {h' : List HA} (r : R F h w) (hs : Spl h x h') (ho : x'.own = x.own) (hos : w'.os = w.os) (hout : w'.output = w.output) (htp : w'.tape = w.tape) (hsz : w'.heap.size = w.heap.size)
    (hother : ∀ b, b ∉ x.own → w'.heap[b]? = w.heap[b]?) (hx : HARep F w' x') (hdr : w.drawn ≤ w'.drawn := by exact Nat.le_refl _) : R F (x' :: h') w' ∧ Ext F h w F (x' :: h') w' := by
  have hp := hs.perm
  have r1 := r.perm hp
  have hnd : (x.own ++ owns h').Nodup := by have := r1.nd; rwa [owns_cons] at this
  have hFx : ∀ b, F b → b ∉ x.own := fun b hb hm => (r.sep b hb).2 ((owns_perm hp).mem_iff.2 (by simp [hm]))
  refine ⟨⟨fun y hy => ?_, ?_, ?_, ?_⟩, Ext.permL hp.symm ⟨hos, hout, htp, by omega, fun b hb hn => hother b (fun hm => hn (by simp [hm])), ?_, fun _ h => h, fun _ h => .inl h, hdr⟩⟩
  · rcases List.mem_cons.1 hy with rfl | hy
    · exact hx
    · exact (r1.rep y (by simp [hy])).mono (fun _ h => h) (fun b hb => hother b (hFx b hb)) (fun b hb => hother b (fun hm => (List.nodup_append.1 hnd).2.2 b hm b (List.mem_flatMap.2 ⟨y, hy, hb⟩) rfl))
  · rw [owns_cons, ho]; exact hnd
  · intro b hb
    rw [owns_cons, ho] at hb
    rw [hsz]
    exact r1.lt b (by simpa using hb)
  · intro b hb
    rw [owns_cons, ho, hsz]
    have := r1.sep b hb
    rw [owns_cons] at this
    exact this
  · intro b hb
    rw [owns_cons, ho] at hb
    exact .inl (by simpa using hb)

/-- Cells from a place on are others. -/
def putAll : List AV → List AV → List AV
  | _ :: cs, n :: ns => n :: putAll cs ns
  | cs, [] => cs
  | [], _ => []
def setCells : List AV → Nat → List AV → List AV
  | cs, 0, ns => putAll cs ns
  | c :: cs, p + 1, ns => c :: setCells cs p ns
  | [], _, _ => []

theorem putAll_get : ∀ (cs ns : List AV) (j : Nat), ns.length ≤ cs.length → (putAll cs ns)[j]? = if j < ns.length then ns[j]? else cs[j]?
  | [], [], j, _ => by simp [putAll]
  | c :: cs, [], j, _ => by simp [putAll]
  | [], n :: ns, j, h => by simp at h
  | c :: cs, n :: ns, 0, h => by simp [putAll]
  | c :: cs, n :: ns, j + 1, h => by
    simp only [putAll, List.getElem?_cons_succ, List.length_cons, Nat.add_lt_add_iff_right]
    exact putAll_get cs ns j (by simpa using h)
theorem putAll_length : ∀ (cs ns : List AV), (putAll cs ns).length = cs.length
  | [], [] => rfl
  | c :: cs, [] => rfl
  | [], n :: ns => rfl
  | c :: cs, n :: ns => by simp [putAll, putAll_length cs ns]
theorem setCells_get : ∀ (p : Nat) (cs ns : List AV) (j : Nat), p + ns.length ≤ cs.length → (setCells cs p ns)[j]? = if p ≤ j ∧ j < p + ns.length then ns[j - p]? else cs[j]?
  | 0, cs, ns, j, h => by
    have h2 : setCells cs 0 ns = putAll cs ns := by cases cs <;> rfl
    have h0 : ns.length ≤ cs.length := by omega
    rw [h2, putAll_get _ _ _ h0]
    simp only [Nat.zero_le, true_and, Nat.zero_add, Nat.sub_zero]
  | p + 1, [], ns, j, h => by simp at h
  | p + 1, c :: cs, ns, 0, h => by simp [setCells]
  | p + 1, c :: cs, ns, j + 1, h => by
    simp only [setCells, List.getElem?_cons_succ]
    rw [setCells_get p cs ns j (by simp at h; omega)]
    by_cases hc : p ≤ j ∧ j < p + ns.length
    · rw [if_pos hc, if_pos (by omega)]
      congr 1
      omega
    · rw [if_neg hc, if_neg (by omega)]
theorem setCells_length : ∀ (p : Nat) (cs ns : List AV), (setCells cs p ns).length = cs.length
  | 0, cs, ns => by
    have : setCells cs 0 ns = putAll cs ns := by cases cs <;> rfl
    rw [this, putAll_length]
  | p + 1, [], ns => rfl
  | p + 1, c :: cs, ns => by simp [setCells, setCells_length p cs ns]

theorem run_storeAt {t : TypeId} {n b p : Nat} {g : Bool} {x : Value} {w : World} {arr : Array Value} {ty : TypeId} (ht : tyOf P t = some (n, g)) (hb : w.heap[b]? = some (.cells arr ty (0, 0))) (hn : x.cells.size = n) (hfit : p + n ≤ arr.size) (h1 : ∀ y ∈ x.cells, y.oneCell' = true) :
    (Instr.storeAt t (.pointer (some ⟨b, p, none⟩)) x).run P w = .ok () (w.setRow b (arr.toList.take p ++ x.cells.toList ++ arr.toList.drop (p + n)).toArray) := by
  have hst := run_storeCells_at P b p ty x.cells.toList 0 arr w hb (by simp; omega) (by simpa using h1)
  simp only [Nat.add_zero, Array.length_toList, hn] at hst
  simp [Instr.storeAt, Instr.sureAddr, storeVar, run_sizeOf ht, hn, hst]

theorem splice_get {xs ns : List Value} {p n j : Nat} (hn : ns.length = n) (hfit : p + n ≤ xs.length) : (xs.take p ++ ns ++ xs.drop (p + n))[j]? = if p ≤ j ∧ j < p + n then ns[j - p]? else xs[j]? := by
  rw [List.append_assoc]
  by_cases h1 : j < p
  · rw [List.getElem?_append_left (by simp; omega), List.getElem?_take_of_lt h1, if_neg (by omega)]
  · rw [List.getElem?_append_right (by simp; omega)]
    have hp : (xs.take p).length = p := by simp; omega
    rw [hp]
    by_cases h2 : j < p + n
    · rw [List.getElem?_append_left (by omega), if_pos (by omega)]
    · rw [List.getElem?_append_right (by omega), hn, List.getElem?_drop, if_neg (by omega)]
      congr 1
      omega

/-- A store into a variable of the call's own. -/
theorem oStB {o : Oper} {t : TypeId} {x y : Operand} {n b p : Nat} {g : Bool} {cs : List AV} {av : AV} {h' : List HA} (ho : o.op = .store t x y) (hd : o.dst = none) (hx : ev env x = some (.v (.pointer (some ⟨b, p, none⟩)))) (hy : ev env y = some av)
    (hs : Spl h (.box b cs) h') (ht : tyOf P t = some (n, g)) (hn : (avCells av).length = n) (hp : p + n ≤ cs.length) (h1 : oneOf av = true) (hk : K env (.box b (setCells cs p (avCells av)) :: h')) : AOp P N o env h K := by
  intro B F a w Q s e hdef
  have hr := s.ev hx
  generalize hv : a.eval x = v at hr
  cases hr
  have hy := s.ev hy
  obtain ⟨arr, ty, h2, h3, h4, h5⟩ := s.r.rep _ (spl_mem hs)
  obtain ⟨h6, h7⟩ := rep_cells hy
  have h8 : (a.eval y).cells.size = n := by rw [h6, hn]
  have hrun := run_storeAt (P := P) (p := p) ht h2 h8 (by omega) (rep_one hy h1)
  obtain ⟨hR, hE⟩ := s.r.upd (w' := w.setRow b (arr.toList.take p ++ (a.eval y).cells.toList ++ arr.toList.drop (p + n)).toArray) (x' := .box b (setCells cs p (avCells av))) hs rfl rfl rfl rfl (by simp)
    (fun k hk => setRow_other w b k _ (by simpa [HA.own] using hk)) (by
      have hset : ∀ k, F k → (w.setRow b (arr.toList.take p ++ (a.eval y).cells.toList ++ arr.toList.drop (p + n)).toArray).heap[k]? = w.heap[k]? := fun k hk =>
        setRow_other w b k _ (fun e => (s.r.sep k hk).2 (e ▸ own_box hs))
      refine ⟨_, ty, setRow_heap w b arr _ ty _ h2, ?_, ?_, ?_⟩
      · rw [setCells_length]
        simp only [List.size_toArray, List.length_append, List.length_take, List.length_drop, Array.length_toList]
        omega
      · intro z hz
        simp only [List.mem_toArray, List.mem_append] at hz
        rcases hz with (hz | hz) | hz
        · exact h4 z (by simpa using List.mem_of_mem_take hz)
        · exact rep_one hy h1 z (by simpa using hz)
        · exact h4 z (by simpa using List.mem_of_mem_drop hz)
      · intro j c z hc hz
        rw [setCells_get _ _ _ _ (by omega)] at hc
        rw [List.getElem?_toArray, splice_get (by simpa using h8) (by simp; omega)] at hz
        rw [hn] at hc
        by_cases hj : p ≤ j ∧ j < p + n
        · rw [if_pos hj] at hc hz
          exact (h7 _ c z hc (by simpa using hz)).mono (fun _ h => h) hset
        · rw [if_neg hj] at hc hz
          exact (h5 j c z hc (by simpa using hz)).mono (fun _ h => h) hset)
  unfold Oper.wp
  have hrun2 : (execOp a.eval o).run P w = .ok .skip (w.setRow b (arr.toList.take p ++ (a.eval y).cells.toList ++ arr.toList.drop (p + n)).toArray) := by
    simp only [execOp, ho, hv, Sem.run_bind, hrun, Result.andThen_ok, Sem.run_pure]
  rw [hrun2, Oper.upon_skip, hd]
  exact ⟨hdef, F, env, _, hk, s.go hE hR, e.trans hE⟩

end A
end Go.Proofs.Ytmcannmjielalaa
