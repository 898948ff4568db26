/- Texts that ConfigTextsCard's proof rests on, part 6. -/
import Derived.Laws.StructEq
import Derived.Test.YtgdfppjapnpcgaaDoorS4ConfigTextsCard
set_option linter.unusedVariables false
set_option linter.unusedSimpArgs false
namespace Go.Proofs.YtgdfppjapnpcgaaDoor
namespace A
variable {P : Program} {N : Nat} {env : Env} {h : List HA} {K : Cont} {X : List (Nat × Cont)} {Rt : Cont}
theorem pLenS' {o : Oper} {n : Nat} {es : List (List AV)} (q : APure P N o env (.int es.length)) (hn : es.length = n) : APure P N o env (.int n) := hn ▸ q
/-! ### Weakening within a region -/
theorem oWeak {ops : Array Oper} {rest : List Oper} {env' : Env} {h' : List HA} (hw : Weak N env h env' h') (h1 : AOps P N ops rest env' h' K X Rt) : AOps P N ops rest env h K X Rt := by
 intro B k F a w hr s e d
 obtain ⟨F', s', e'⟩ := hw F a w s
 exact h1 B k F' a w hr s' (e.trans e') d
/-- A call that is handed nothing of what is owned; what it gives is known by what is settled. -/
theorem qCall0 {o : Oper} {d : Nat} {fo : Operand} {xs : Array Operand} {ts : Array TypeId} {f : FuncId} {caps : List AV} {l : List AV} {Q : AV → List HA → Prop} (hop : o.op = .call ⟨.value fo, xs, ts⟩) (hd : o.dst = some d) (hN : d < N)
   (hfo : ev env fo = some (.fn (.func f) caps)) (hl : evs env xs.toList = some l) (t : Triple P f (l ++ caps) [] Q) (hk : ∀ r h', Q r h' → K ((d, r) :: env) (h' ++ h)) : AOpQ P N o env h K := by
 intro B F a w Qx s e hdef
 have hfv := s.ev hfo
 generalize hv : a.eval fo = v at hfv
 cases hfv with
 | fn _ _ cx hcl hcr =>
   unfold Oper.wp
   rw [exec_call hop hv t.1, Oper.upon_enter]
   obtain ⟨hz1, hz2⟩ := reps_evs s xs.toList l hl
   have hr0 : R F [] w := ⟨fun x hx => by simp at hx, by simp, fun b hb => by simp at hb, fun b hb => ⟨(s.r.sep b hb).1, by simp⟩⟩
   refine (t.2 F w _ hr0 ⟨?_, ?_⟩).mono ?_
   ·simpa [hcl] using hz1
   ·intro i av x hi hx
    have hsz : (xs.map a.eval).size = l.length := by simpa using hz1
    rcases Nat.lt_or_ge i l.length with hlt | hge
    ·rw [List.getElem?_append_left hlt] at hi
     rw [Array.getElem?_append_left (by rw [hsz]; exact hlt)] at hx
     exact hz2 i av x hi (by simpa using hx)
    ·rw [List.getElem?_append_right hge] at hi
     rw [Array.getElem?_append_right (by rw [hsz]; exact hge), hsz] at hx
     exact hcr _ av x hi hx
   ·rintro ex w' ⟨r, x, h', F', rfl, hq, hrep, hR', hE⟩
    simp only [hd]
    have hkeep : ∀ b, b < w.heap.size → w'.heap[b]? = w.heap[b]? := fun b hb => hE.keep b hb (by simp)
    have hnew : ∀ b ∈ owns h', w.heap.size ≤ b := fun b hb => (hE.sub b hb).elim (fun h => by simp at h) id
    have hFset : ∀ b, F b → w'.heap[b]? = w.heap[b]? := fun b hb => hkeep b (s.r.sep b hb).1
    have hR2 : R F' (h' ++ h) w' := by
      refine ⟨fun y hy => ?_, ?_, ?_, ?_⟩
      ·rcases List.mem_append.1 hy with hy | hy
       ·exact hR'.rep y hy
       ·exact (s.r.rep y hy).mono hE.mono hFset (fun b hb => hkeep b (s.r.lt b (List.mem_flatMap.2 ⟨y, hy, hb⟩)))
      ·rw [owns_append]
       refine List.nodup_append.2 ⟨hR'.nd, s.r.nd, ?_⟩
       rintro b hb c hc rfl
       have := hnew b hb
       have := s.r.lt b hc
       omega
      ·intro b hb
       rw [owns_append] at hb
       rcases List.mem_append.1 hb with hb | hb
       ·exact hR'.lt b hb
       ·exact Nat.lt_of_lt_of_le (s.r.lt b hb) hE.size
      ·intro b hb
       refine ⟨(hR'.sep b hb).1, fun hm => ?_⟩
       rw [owns_append] at hm
       rcases List.mem_append.1 hm with hm | hm
       ·exact (hR'.sep b hb).2 hm
       ·rcases hE.new b hb with h1 | h1 | h1
        ·exact (s.r.sep b h1).2 hm
        ·simp at h1
        ·have := s.r.lt b hm; omega
    have hE2 : Ext F h w F' (h' ++ h) w' := ⟨hE.os, hE.output, hE.tape, hE.size, fun b hb _ => hkeep b hb, fun b hb => by
      rw [owns_append] at hb
      rcases List.mem_append.1 hb with hb | hb
      ·exact .inr (hnew b hb)
      ·exact .inl hb, hE.mono, fun b hb => (hE.new b hb).imp id (Or.imp (fun h => by simp at h) id)⟩
    exact ⟨hdef, F', _, _, hk r h' hq, s.put hE2 hR2 hN hrep, e.trans hE2, fun b hb => hkeep b (hb.elim (fun h => (s.r.sep b h).1) (fun h => s.r.lt b h)), hE.mono, fun b hb => .inl (by rw [owns_append]; exact List.mem_append_right _ hb)⟩
/-- What is known of rows of values, where what is owned is read as settled. -/
inductive Deep (h : List HA) : List (List AV) → List (List AV) → Prop
 | nil : Deep h [] []
 | row {rs rs' : List (List AV)} : Deep h rs rs' → Deep h ([] :: rs) ([] :: rs')
 | sl {g : Option Nat} {n c e sz : Nat} {es es' : List (List AV)} {r r' : List AV} {rs rs' : List (List AV)} (hm : HA.sl g c e sz es ∈ h) (hn : n = es.length) (hd : Deep h es es') (hr : Deep h (r :: rs) (r' :: rs')) : Deep h ((.v (slV g n c) :: r) :: rs) ((.sl sz es' :: r') :: rs')
 | sp {b : Nat} {cs cs' : List AV} {r r' : List AV} {rs rs' : List (List AV)} (hm : HA.box b cs ∈ h) (hd : Deep h [cs] [cs']) (hr : Deep h (r :: rs) (r' :: rs')) : Deep h ((.v (.pointer (some ⟨b, 0, none⟩)) :: r) :: rs) ((.sp cs' :: r') :: rs')
 | agg {cs cs' : List AV} {r r' : List AV} {rs rs' : List (List AV)} (hd : Deep h [cs] [cs']) (hr : Deep h (r :: rs) (r' :: rs')) : Deep h ((.agg cs :: r) :: rs) ((.agg cs' :: r') :: rs')
 | tup {cs cs' : List AV} {r r' : List AV} {rs rs' : List (List AV)} (hd : Deep h [cs] [cs']) (hr : Deep h (r :: rs) (r' :: rs')) : Deep h ((.tup cs :: r) :: rs) ((.tup cs' :: r') :: rs')
 | fn {f : Fn} {cs cs' : List AV} {r r' : List AV} {rs rs' : List (List AV)} (hd : Deep h [cs] [cs']) (hr : Deep h (r :: rs) (r' :: rs')) : Deep h ((.fn f cs :: r) :: rs) ((.fn f cs' :: r') :: rs')
 | same {a : AV} {r r' : List AV} {rs rs' : List (List AV)} (hr : Deep h (r :: rs) (r' :: rs')) : Deep h ((a :: r) :: rs) ((a :: r') :: rs')
theorem Deep.len {rs rs' : List (List AV)} (d : Deep h rs rs') : rs.length = rs'.length ∧ ∀ (i : Nat) y y', rs[i]? = some y → rs'[i]? = some y' → y.length = y'.length := by
 have key : ∀ {y0 y0' : List AV} {x x' : AV} {q q' : List (List AV)}, ((y0 :: q).length = (y0' :: q').length ∧ ∀ (i : Nat) y y', (y0 :: q)[i]? = some y → (y0' :: q')[i]? = some y' → y.length = y'.length) →
     (((x :: y0) :: q).length = ((x' :: y0') :: q').length ∧ ∀ (i : Nat) y y', ((x :: y0) :: q)[i]? = some y → ((x' :: y0') :: q')[i]? = some y' → y.length = y'.length) := by
   intro y0 y0' x x' q q' ⟨h1, h2⟩
   refine ⟨by simpa using h1, fun i y y' hy hy' => ?_⟩
   cases i with
   | zero =>
     simp only [List.getElem?_cons_zero, Option.some.injEq] at hy hy'
     subst hy; subst hy'
     have := h2 0 y0 y0' rfl rfl
     simp [this]
   | succ i => exact h2 (i + 1) y y' (by simpa using hy) (by simpa using hy')
 induction d with
 | nil => exact ⟨rfl, fun i y y' h => by simp at h⟩
 | row _ ih =>
   refine ⟨by simp [ih.1], fun i y y' hy hy' => ?_⟩
   cases i with
   | zero => simp at hy hy'; subst hy; subst hy'; rfl
   | succ i => exact ih.2 i y y' (by simpa using hy) (by simpa using hy')
 | sl _ _ _ _ _ ih => exact key ih
 | sp _ _ _ _ ih => exact key ih
 | agg _ _ _ ih => exact key ih
 | tup _ _ _ ih => exact key ih
 | fn _ _ _ ih => exact key ih
 | same _ ih => exact key ih
theorem Deep.rep {F : Nat → Prop} {w : World} {rs rs' : List (List AV)} (d : Deep h rs rs') (r : R F h w) : ∀ (i j : Nat) y y' a b x, rs[i]? = some y → rs'[i]? = some y' → y[j]? = some a → y'[j]? = some b → Rep F w a x → Rep (fun k => F k ∨ k ∈ owns h) w b x := by
 have hF : ∀ b, F b → (F b ∨ b ∈ owns h) := fun b h => .inl h
 have key : ∀ {y0 y0' : List AV} {c c' : AV} {q q' : List (List AV)}, (∀ x, Rep F w c x → Rep (fun k => F k ∨ k ∈ owns h) w c' x) → (∀ (i j : Nat) y y' a b x, (y0 :: q)[i]? = some y → (y0' :: q')[i]? = some y' → y[j]? = some a → y'[j]? = some b → Rep F w a x → Rep (fun k => F k ∨ k ∈ owns h) w b x) →
     (∀ (i j : Nat) y y' a b x, ((c :: y0) :: q)[i]? = some y → ((c' :: y0') :: q')[i]? = some y' → y[j]? = some a → y'[j]? = some b → Rep F w a x → Rep (fun k => F k ∨ k ∈ owns h) w b x) := by
   intro y0 y0' c c' q q' h1 h2 i j y y' a b x hy hy' ha hb hx
   cases i with
   | zero =>
     simp only [List.getElem?_cons_zero, Option.some.injEq] at hy hy'
     subst hy; subst hy'
     cases j with
     | zero => simp only [List.getElem?_cons_zero, Option.some.injEq] at ha hb; subst ha; subst hb; exact h1 x hx
     | succ j => exact h2 0 j y0 y0' a b x rfl rfl (by simpa using ha) (by simpa using hb) hx
   | succ i => exact h2 (i + 1) j y y' a b x (by simpa using hy) (by simpa using hy') ha hb hx
 induction d with
 | nil => intro i j y y' a b x hy; simp at hy
 | row _ ih =>
   intro i j y y' a b x hy hy' ha hb hx
   cases i with
   | zero => simp at hy; subst hy; simp at ha
   | succ i => exact ih i j y y' a b x (by simpa using hy) (by simpa using hy') ha hb hx
 | sl hm hn hd _ ih1 ih2 =>
   refine key (fun x hx => ?_) ih2
   subst hn
   cases hx
   obtain ⟨l1, l2⟩ := hd.len
   obtain ⟨xs, h1, h2, h3, h4⟩ := r.rep _ hm
   rw [l1] at h1 ⊢
   refine own_settled (F := fun k => F k ∨ k ∈ owns h) ⟨xs, h1, fun y hy => ?_, h3, fun i j y' b x hi hj hx => ?_⟩ (fun _ h => h) (fun b hb => .inr (List.mem_flatMap.2 ⟨_, hm, by subst hb; simp [HA.own]⟩))
   ·obtain ⟨i, hi⟩ := List.getElem?_of_mem hy
    have hlt : i < _ := (List.getElem?_eq_some_iff.1 hi).1
    rw [← l1] at hlt
    have hq := List.getElem?_eq_getElem hlt
    rw [← l2 i _ y hq hi]
    exact h2 _ (List.mem_of_getElem? hq)
   ·have hlt : i < _ := (List.getElem?_eq_some_iff.1 hi).1
    rw [← l1] at hlt
    have hq := List.getElem?_eq_getElem hlt
    have hlj : j < y'.length := (List.getElem?_eq_some_iff.1 hj).1
    rw [← l2 i _ y' hq hi] at hlj
    have hqj := List.getElem?_eq_getElem hlj
    exact ih1 i j _ y' _ b x hq hi hqj hj (h4 i j _ _ x hq hqj hx)
 | @sp b cs cs' _ _ _ _ hm hd _ ih1 ih2 =>
   refine key (fun x hx => ?_) ih2
   cases hx
   have l2 := hd.len.2 0 _ _ rfl rfl
   obtain ⟨arr, ty, h1, h2, h3, h4⟩ := r.rep _ hm
   have hget : ∀ j, j < arr.size → arr[j]? = some (arr.getD j undef) := fun j hj => by simp [hj]
   refine .sp _ _ 0 (fun j => arr.getD j undef) (.inr (List.mem_flatMap.2 ⟨_, hm, by simp [HA.own]⟩)) (fun j hj => ?_) (fun j hj => h3 _ (Array.mem_of_getElem? (hget j (by omega)))) (fun j b hj => ?_)
   ·rw [Nat.zero_add]
    simp only [World.cell?, h1, Option.isSome_none, Bool.false_eq_true, if_false]
    exact hget j (by omega)
   ·have hlt : j < cs.length := by rw [l2]; exact (List.getElem?_eq_some_iff.1 hj).1
    have hq := List.getElem?_eq_getElem hlt
    exact ih1 0 j cs cs' _ b _ rfl rfl hq hj (h4 j _ _ hq (hget j (by omega)))
 | @agg cs cs' _ _ _ _ hd _ ih1 ih2 =>
   refine key (fun x hx => ?_) ih2
   have l2 := hd.len.2 0 _ _ rfl rfl
   cases hx with
   | agg _ xs hl h1 hR =>
     refine .agg _ xs (by rw [hl, l2]) h1 (fun j b y hj hy => ?_)
     have hlt : j < cs.length := by rw [l2]; exact (List.getElem?_eq_some_iff.1 hj).1
     have hq := List.getElem?_eq_getElem hlt
     exact ih1 0 j cs cs' _ b y rfl rfl hq hj (hR j _ y hq hy)
 | @tup cs cs' _ _ _ _ hd _ ih1 ih2 =>
   refine key (fun x hx => ?_) ih2
   have l2 := hd.len.2 0 _ _ rfl rfl
   cases hx with
   | tup _ xs hl hR =>
     refine .tup _ xs (by rw [hl, l2]) (fun j b y hj hy => ?_)
     have hlt : j < cs.length := by rw [l2]; exact (List.getElem?_eq_some_iff.1 hj).1
     have hq := List.getElem?_eq_getElem hlt
     exact ih1 0 j cs cs' _ b y rfl rfl hq hj (hR j _ y hq hy)
 | @fn f cs cs' _ _ _ _ hd _ ih1 ih2 =>
   refine key (fun x hx => ?_) ih2
   have l2 := hd.len.2 0 _ _ rfl rfl
   cases hx with
   | fn _ _ xs hl hR =>
     refine .fn f _ xs (by rw [hl, l2]) (fun j b y hj hy => ?_)
     have hlt : j < cs.length := by rw [l2]; exact (List.getElem?_eq_some_iff.1 hj).1
     have hq := List.getElem?_eq_getElem hlt
     exact ih1 0 j cs cs' _ b y rfl rfl hq hj (hR j _ y hq hy)
 | same _ ih => exact key (fun x hx => hx.mono hF (fun _ _ => rfl)) ih
/-- Part of what is owned is settled: so a slot's value reads. -/
theorem weak_deep {k : Nat} {a b : AV} {hd hr : List HA} (hk : get env k = some a) (ht : Tk h hd hr) (d : Deep hd [[a]] [[b]]) : Weak N env h ((k, b) :: env) hr := fun F x w s => by
 have r1 := s.r.perm ht.perm
 have hnd := r1.nd
 rw [owns_append] at hnd
 have rd : R F hd w := s.r.sub ht
 have hF' : ∀ b, F b → (F b ∨ b ∈ owns hd) := fun b hb => .inl hb
 have hin : ∀ b ∈ owns hd, b ∈ owns h := fun b hb => (owns_perm ht.perm).mem_iff.2 (by rw [owns_append]; exact List.mem_append_left _ hb)
 have hin2 : ∀ b ∈ owns hr, b ∈ owns h := fun b hb => (owns_perm ht.perm).mem_iff.2 (by rw [owns_append]; exact List.mem_append_right _ hb)
 refine ⟨fun b => F b ∨ b ∈ owns hd, ⟨⟨fun y hy => (r1.rep y (by simp [hy])).mono hF' (fun _ _ => rfl) (fun _ _ => rfl), (List.nodup_append.1 hnd).2.1, fun b hb => s.r.lt b (hin2 b hb), fun b hb => ?_⟩, s.size, fun j av hj => ?_⟩,
   ⟨rfl, rfl, rfl, Nat.le_refl _, fun _ _ _ => rfl, fun b hb => .inl (hin2 b hb), hF', fun b hb => hb.imp id (fun e => .inl (hin b e))⟩⟩
 ·rcases hb with hb | hb
  ·exact ⟨(s.r.sep b hb).1, fun hm => (s.r.sep b hb).2 (hin2 b hm)⟩
  ·exact ⟨s.r.lt b (hin b hb), fun hm => (List.nodup_append.1 hnd).2.2 b hb b hm rfl⟩
 ·by_cases hkj : k = j
  ·subst hkj
   have : Nat.beq k k = true := by simp
   simp only [A.get, this, cond_true, Option.some.injEq] at hj
   subst hj
   exact d.rep rd 0 0 [a] [_] a _ _ rfl rfl rfl rfl (s.env k a hk)
  ·simp only [A.get, beq_no hkj, cond_false] at hj
   exact (s.env j av hj).mono hF' (fun _ _ => rfl)
/-! ### Results that lie in cells -/
inductive ResRd (P : Program) (env : Env) (h : List HA) : ResultVar → AV → Prop
 | tmp {t : Nat} {av : AV} : get env t = some av → ResRd P env h (.tmp t) av
 | cellA {b k t : Nat} {cs : List AV} : get env b = some (.v (.pointer (some ⟨k, 0, none⟩))) → HA.box k cs ∈ h → tyOf P t = some (cs.length, true) → ResRd P env h (.cell b t) (.agg cs)
 | cell1 {b k t : Nat} {av : AV} : get env b = some (.v (.pointer (some ⟨k, 0, none⟩))) → HA.box k [av] ∈ h → tyOf P t = some (1, false) → ResRd P env h (.cell b t) av
 | cast {r : ResultVar} {a b : AV} : ResRd P env h r a → Cast a b → ResRd P env h r b
inductive ResRds (P : Program) (env : Env) (h : List HA) : List ResultVar → List AV → Prop
 | nil : ResRds P env h [] []
 | cons {r : ResultVar} {rs : List ResultVar} {a : AV} {l : List AV} : ResRd P env h r a → ResRds P env h rs l → ResRds P env h (r :: rs) (a :: l)
theorem ResRd.run {F : Nat → Prop} {a : Act} {w : World} (s : Sat N F env h a w) {r : ResultVar} {av : AV} (rd : ResRd P env h r av) :
   ∃ x, ((match r with | .tmp t => (pure (a.tmps.getD t undef) : Sem Value) | .cell b t => do loadVar t (← asAddr (a.tmps.getD b undef))) : Sem Value).run P w = .ok x w ∧ Rep F w av x := by
 induction rd with
 | tmp hg => exact ⟨_, by simp, s.env _ _ hg⟩
 | @cellA b k t cs hg hm ht =>
   have hr := s.env _ _ hg
   generalize hv : a.tmps.getD b undef = v at hr
   cases hr
   obtain ⟨arr, ty, h1, h2, h1', h3⟩ := s.r.rep _ hm
   have hget : ∀ j, j < arr.size → arr[j]? = some (arr.getD j undef) := fun j hj => by simp [hj]
   have hl := run_loadAgg (P := P) (b := k) (o := 0) ht (w := w) (fun j => arr.getD j undef) (fun j hj => by
     rw [Nat.zero_add]
     simp only [World.cell?, h1, Option.isSome_none, Bool.false_eq_true, if_false]
     exact hget j (by omega))
   have key := rep_aggX (F := F) (w := w) (cs := cs) (n := cs.length) (X := fun j => arr.getD j undef) (Nat.le_refl _) (fun j hj => h1' _ (Array.mem_of_getElem? (hget j (by omega)))) (fun j av hj => h3 j av _ hj (hget j (by rw [h2]; exact (List.getElem?_eq_some_iff.1 hj).1)))
   rw [List.take_length] at key
   refine ⟨_, ?_, key⟩
   unfold Instr.loadAt at hl
   simp only [Instr.sureAddr, Sem.run_bind, Sem.run_pure, Result.andThen_ok] at hl
   show (do loadVar t (← asAddr (a.tmps.getD b undef)) : Sem Value).run P w = _
   rw [hv]
   simp only [asAddr, Sem.run_bind, Sem.run_pure, Result.andThen_ok]
   exact hl
 | @cell1 b k t av hg hm ht =>
   have hr := s.env _ _ hg
   generalize hv : a.tmps.getD b undef = v at hr
   cases hr
   obtain ⟨arr, ty, h1, h2, h1', h3⟩ := s.r.rep _ hm
   have hsz : 0 < arr.size := by rw [h2]; simp
   have hget : arr[0]? = some (arr.getD 0 undef) := by simp [hsz]
   have hl := run_loadOne (P := P) (b := k) (o := 0) ht (w := w) (x := arr.getD 0 undef) (by
     simp only [World.cell?, h1, Option.isSome_none, Bool.false_eq_true, if_false]
     exact hget)
   refine ⟨_, ?_, h3 0 av _ rfl hget⟩
   unfold Instr.loadAt at hl
   simp only [Instr.sureAddr, Sem.run_bind, Sem.run_pure, Result.andThen_ok] at hl
   show (do loadVar t (← asAddr (a.tmps.getD b undef)) : Sem Value).run P w = _
   rw [hv]
   simp only [asAddr, Sem.run_bind, Sem.run_pure, Result.andThen_ok]
   exact hl
 | cast _ hc ih => obtain ⟨x, h1, h2⟩ := ih; exact ⟨x, h1, hc _ _ _ h2⟩
theorem ResRds.run {F : Nat → Prop} {a : Act} {w : World} (s : Sat N F env h a w) : ∀ {rs : List ResultVar} {l : List AV}, ResRds P env h rs l →
   ∃ xs : List Value, (rs.mapM fun (r : ResultVar) => (match r with | .tmp t => (pure (a.tmps.getD t undef) : Sem Value) | .cell b t => do loadVar t (← asAddr (a.tmps.getD b undef)))).run P w = .ok xs w ∧
     xs.length = l.length ∧ ∀ (i : Nat) av x, l[i]? = some av → xs[i]? = some x → Rep F w av x
 | _, _, .nil => ⟨[], by simp, rfl, fun i av x h => by simp at h⟩
 | _, _, .cons hr hrs => by
   obtain ⟨xs, hrun, hlen, hrep⟩ := ResRds.run s hrs
   obtain ⟨x0, hx1, hx2⟩ := hr.run s
   refine ⟨x0 :: xs, ?_, by simp [hlen], ?_⟩
   ·rw [List.mapM_cons]; simp only [Sem.run_bind, hx1, Result.andThen_ok, hrun, Sem.run_pure]
   ·intro i av x hi hx
    cases i with
    | zero => simp only [List.getElem?_cons_zero, Option.some.injEq] at hi hx; subst hi; subst hx; exact hx2
    | succ i => simp only [List.getElem?_cons_succ] at hi hx; exact hrep i av x hi hx
def FinR (P : Program) (fn : Func) (Q : AV → List HA → Prop) : Cont := fun env h => ∃ l k r, ResRds P env h fn.results.toList l ∧ Tk h k r ∧ Q (retOf l) k
theorem triple_ofR {f : FuncId} {fn : Func} {c : Code} {args : List AV} {Q : AV → List HA → Prop} (hf : P.funcs[f]? = some fn) (hb : fn.body = some c) (hn : (fn.name == "runtime.NumGoroutine") = false) (hN : fn.ntmps = N) (ha : args.length ≤ N)
   (h1 : AWP P N c (argEnv 0 args) h (FinR P fn Q) [] (FinR P fn Q)) : Triple P f args h Q := by
 refine ⟨⟨fn, hf, hn, by simp [hb]⟩, fun F w vs hr hreps => ?_⟩
 refine (callsIn_wide (n := 0)).1 (callsIn_of_wp_marks hf hb trivial (wpIn_mono (h1 none F _ w (fun l hl => by cases hl) ?_) ?_) rfl)
 ·refine ⟨hr, ?_, ?_⟩
  ·have h5 : vs.size = args.length := hreps.1
   show (vs ++ Array.replicate (fn.ntmps - vs.size) undef).size = N
   rw [Array.size_append, Array.size_replicate, h5, hN]
   omega
  ·intro k av hk
   obtain ⟨_, h3⟩ := get_argEnv args 0 k av hk
   have hlt : k < vs.size := by
     rw [hreps.1]
     exact (List.getElem?_eq_some_iff.1 h3).1
   have : (vs ++ Array.replicate (fn.ntmps - vs.size) undef).getD k undef = vs[k] := by
     simp [Array.getD_eq_getD_getElem?, Array.getElem?_append, hlt]
   show Rep F w av ((vs ++ Array.replicate (fn.ntmps - vs.size) undef).getD k undef)
   rw [this]
   exact hreps.2 k av _ h3 (by simp [hlt])
 ·intro ex a' w' hp
  have key : GoodM N ⟨F, h, w, []⟩ (FinR P fn Q) a' w' → LeavesInM Fence.wide 0 P fn a'.tmps (fun e w' => ∃ r x h'' F', e = .returned x ∧ Q r h'' ∧ Rep F' w' r x ∧ R F' h'' w' ∧ Ext F h w F' h'' w') a'.defers .returning w' := by
    intro hp
    refine results_end (vs0 := 0) rfl hp ?_
    show ∀ F' env' h3 w', FinR P fn Q env' h3 → Sat N F' env' h3 a' w' → Ext F h w F' h3 w' → ∃ v, (results fn a'.tmps).run P w' = .ok v w' ∧ ∃ r x h'' F', Ending.returned v = .returned x ∧ Q r h'' ∧ Rep F' w' r x ∧ R F' h'' w' ∧ Ext F h w F' h'' w'
    rintro F' env' h3 w' ⟨l, h'', hrr, hl, htk, hq⟩ s' e3
    have e' := e3.subR htk
    obtain ⟨xs, hrun, hlen, hrep⟩ := hl.run s'
    refine ⟨(if hsz : xs.length = 1 then xs[0]'(by omega) else .tuple xs.toArray), ?_, retOf l, _, h'', F', rfl, hq, ?_, s'.r.sub htk, e'⟩
    ·unfold results
     rw [← Array.toArray_toList (xs := fn.results), List.mapM_toArray]
     simp only [Sem.run_bind, Sem.run_map]
     erw [hrun]
     simp only [Result.andThen_ok, Sem.run_pure]
     by_cases hsz : xs.length = 1
     ·simp [hsz]
     ·simp [hsz]
    ·split
     ·rename_i hsz
      match l, hlen, hrep with
      | [av], hlen, hrep => exact hrep 0 av _ rfl (by simp)
      | [], hlen, _ => rw [hsz] at hlen; cases hlen
      | _ :: _ :: _, hlen, _ => rw [hsz, List.length_cons, List.length_cons] at hlen; omega
     ·rename_i hsz
      have hl2 : retOf l = .tup l := by
        match l, hlen with
        | [_], hlen => exact absurd hlen hsz
        | [], _ => rfl
        | _ :: _ :: _, _ => rfl
      rw [hl2]
      exact .tup l _ (by simp [hlen]) (fun j av x hj hx => hrep j av x hj (by simpa using hx))
  cases ex with
  | normal => exact key hp
  | ret => exact key hp
  | exit id => obtain ⟨Kx, hl, _⟩ := hp; simp [look] at hl
  | goto l => exact hp.elim
  | panic c => exact hp.elim
  | outgrown => exact hp.elim
/-! ### '==' of structs of numbers, bools and texts -/
inductive EK where
 | i
 | b
 | s
 deriving DecidableEq
def ekOf : TypeDesc → Option EK
 | .int _ => some .i
 | .bool => some .b
 | .string => some .s
 | _ => none
def eqFlds (P : Program) : List Field → Option (List (Nat × EK))
 | [] => some []
 | f :: r => match f.name == "_", tyOf P f.type, (P.underlying f.type).bind ekOf, eqFlds P r with
   | false, some (1, false), some k, some l => some ((f.offset, k) :: l)
   | _, _, _, _ => none
/-- A struct type that is compared cell by cell: where its fields are, and what kind they are. -/
def eqType (P : Program) (t : TypeId) : Option (List (Nat × EK)) :=
 match P.underlying t with
 | some (.struct fs) => if P.stoodInHeld t || P.eqGuardType P.depth t then none else eqFlds P fs.toList
 | _ => none
def eqCell : EK → AV → AV → Option Bool
 | .i, .v (.int k a), .v (.int k' b) => if k = k' then some (a == b) else none
 | .b, .v (.bool a), .v (.bool b) => some (a == b)
 | .s, .v (.string a), .v (.string b) => some (a.toList == b.toList)
 | _, _, _ => none
def eqCells : List (Nat × EK) → List AV → List AV → Option Bool
 | [], _, _ => some true
 | (o, k) :: r, xs, ys => match xs[o]?, ys[o]? with
   | some a, some b => match eqCell k a b, eqCells r xs ys with
     | some p, some q => some (p && q)
     | _, _ => none
   | _, _ => none
theorem run_eqFlds {w : World} {d : Nat} {cs ds : List AV} {xs ys : Array Value} {F : Nat → Prop} {w0 : World} (hx : xs.size = cs.length) (hy : ys.size = ds.length) (rx : ∀ (j : Nat) (av : AV) (x : Value), cs[j]? = some av → xs[j]? = some x → Rep F w0 av x)
   (ry : ∀ (j : Nat) (av : AV) (x : Value), ds[j]? = some av → ys[j]? = some x → Rep F w0 av x) : ∀ (fs : List Field) (l : List (Nat × EK)) (q : Bool), eqFlds P fs = some l → eqCells l cs ds = some q → (Op.eqFields (d + 1) xs ys fs).run P w = .ok q w
 | [], l, q, hl, hq => by
   simp only [eqFlds, Option.some.injEq] at hl
   subst hl
   simp only [eqCells, Option.some.injEq] at hq
   subst hq
   simp [Op.eqFields]
 | f :: r, l, q, hl, hq => by
   simp only [eqFlds] at hl
   split at hl
   case h_2 => simp at hl
   rename_i k l0 h1 h2 h3 h4
   simp only [Option.some.injEq] at hl
   subst hl
   simp only [eqCells] at hq
   split at hq
   case h_2 => simp at hq
   rename_i a b ha hb
   split at hq
   case h_2 => simp at hq
   rename_i p q0 hp hq0
   simp only [Option.some.injEq] at hq
   subst hq
   have ih := run_eqFlds (w := w) (d := d) hx hy rx ry r l0 q0 h4 hq0
   have hla : f.offset < xs.size := by rw [hx]; exact (List.getElem?_eq_some_iff.1 ha).1
   have hlb : f.offset < ys.size := by rw [hy]; exact (List.getElem?_eq_some_iff.1 hb).1
   have hxa := rx _ _ _ ha (Array.getElem?_eq_getElem hla)
   have hyb := ry _ _ _ hb (Array.getElem?_eq_getElem hlb)
   have hpa : (part f.type xs f.offset).run P w = .ok xs[f.offset] w := by simp [part, run_isAgg h2, hla]
   have hpb : (part f.type ys f.offset).run P w = .ok ys[f.offset] w := by simp [part, run_isAgg h2, hlb]
   have hn : f.name ≠ "_" := by simpa using h1
   have heq : (Op.equalIn (d + 1) f.type xs[f.offset] ys[f.offset]).run P w = .ok p w := by
     generalize xs[f.offset] = x at hxa
     generalize ys[f.offset] = y at hyb
     cases hu : P.underlying f.type with
     | none => rw [hu] at h3; simp at h3
     | some dsc =>
       rw [hu] at h3
       simp only [Option.bind_some] at h3
       unfold ekOf at h3
       split at h3
       ·simp only [Option.some.injEq] at h3
        subst h3
        unfold eqCell at hp
        split at hp <;> simp_all
        cases hxa; cases hyb
        rw [run_equalIn_int w d f.type _ _ _ _ hu]
        simp [hp.2]
       ·simp only [Option.some.injEq] at h3
        subst h3
        unfold eqCell at hp
        split at hp <;> simp_all
        cases hxa; cases hyb
        rw [run_equalIn_bool' w d f.type _ _ hu]
        simp [hp]
       ·simp only [Option.some.injEq] at h3
        subst h3
        unfold eqCell at hp
        split at hp <;> simp_all
        cases hxa; cases hyb
        rw [run_equalIn_string w d f.type _ _ hu]
        simp [hp]
       ·simp at h3
   rw [Op.eqFields]
   simp only [if_pos hn, Sem.run_bind, hpa, hpb, heq, Result.andThen_ok]
   cases p
   ·simp
   ·simpa using ih
theorem pEqA {o : Oper} {op : BinOp} {t t' : TypeId} {xo yo : Operand} {cs ds : List AV} {l : List (Nat × EK)} {q q' : Bool} (hop : o.op = .binOp op t xo yo t') (hb : op = .eql ∨ op = .neq) (hx : ev env xo = some (.agg cs)) (hy : ev env yo = some (.agg ds)) (ht : eqType P t = some l) (hq : eqCells l cs ds = some q) (hv : (if op = .eql then q else !q) = q') :
   APure P N o env (.bool q') := by
 subst hv
 intro F h a w s
 have hr := s.ev hx
 have hr' := s.ev hy
 generalize hvx : a.eval xo = vx at hr
 generalize hvy : a.eval yo = vy at hr'
 unfold eqType at ht
 split at ht
 case h_2 => simp at ht
 rename_i fs hu
 split at ht
 case isTrue => simp at ht
 rename_i hg
 simp only [Bool.or_eq_true, not_or, Bool.not_eq_true] at hg
 cases hr with
 | agg _ xs hl h1 hR =>
   cases hr' with
   | agg _ ys hl' h1' hR' =>
     refine ⟨_, .v _, fun w' => ?_⟩
     have he : (Op.equalIn Op.maxDepth t (.agg xs) (.agg ys)).run P w' = .ok q w' := by
       show (Op.equalIn (9999 + 1) t (.agg xs) (.agg ys)).run P w' = .ok q w'
       have hf : P.fieldsOf t = fs := by simp [Program.fieldsOf, hu]
       rw [run_equalIn_struct (P := P) w' 9999 t xs ys (by rw [hf]; exact hu) hg.1, hf]
       exact run_eqFlds (d := 9998) hl hl' hR hR' fs.toList l q ht hq
     rcases hb with rfl | rfl
     ·simp [execOp, hop, hvx, hvy, eqGuard, hg.2, binOp, Op.equal, he]
     ·simp [execOp, hop, hvx, hvy, eqGuard, hg.2, binOp, Op.equal, he]
end A
end Go.Proofs.YtgdfppjapnpcgaaDoor
