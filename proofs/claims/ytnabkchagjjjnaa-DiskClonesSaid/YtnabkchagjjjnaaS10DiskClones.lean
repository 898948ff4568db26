/- Texts that DiskClones's proof rests on, part 11. -/
import Derived.Shelf.Slices.In.SortNone
import Derived.Shelf.Sort.Plain
import Derived.Sort.OwnSortedInts
import Derived.Test.YtnabkchagjjjnaaS9DiskClones
set_option linter.unusedVariables false
set_option linter.unusedSimpArgs false
namespace Go.Proofs.Ytnabkchagjjjnaa
namespace A
open Go.Sort Go.Shelf
def intA (n : Int) : List AV := [.int n]
def sortI (zs : List Int) : List Int := zs.mergeSort fun x y => decide (x ≤ y)
theorem triple_sort {P : Program} {ρ : Ren} {f : FuncId} (Ly : Lays.n189 P ρ) (hf : ρ.f 189 = f) (hb : HasBody P f) (g : Option Nat) (c e : Nat) (zs : List Int) (hz : zs.length < 4611686018427387904) :
    Triple P f [.v (slV g zs.length c)] [.sl g c e 1 (zs.map intA)] (fun r h' => r = .tup [] ∧ h' = [.sl g c e 1 ((sortI zs).map intA)]) := by
  subst hf
  refine ⟨hb, fun F w vs hR hreps => ?_⟩
  obtain ⟨hv1, hv2⟩ := hreps
  obtain ⟨x, rfl⟩ : ∃ x, vs = #[x] := by
    match vs, hv1 with
    | ⟨[x]⟩, _ => exact ⟨x, rfl⟩
  have hx := hv2 0 _ x rfl rfl
  cases hx
  have hha := hR.rep _ (List.mem_singleton.2 rfl)
  obtain ⟨xs, ho, hy, h1, h2⟩ := hha
  have hlen : (zs.map intA).length = zs.length := List.length_map _
  rw [hlen] at ho
  have hsl : (sortI zs).length = zs.length := List.length_mergeSort zs
  have hxs : xs = zs.map (Value.int .i64) := by
    apply List.ext_getElem?
    intro j
    by_cases hj : j < zs.length
    · have hjx : j < xs.length := by rw [ho.1]; omega
      have := h2 j 0 [.int zs[j]] (.int zs[j]) xs[j] (by simp [hj, intA]) rfl (by simp [hjx])
      rw [List.getElem?_eq_getElem hjx, List.getElem?_map, List.getElem?_eq_getElem hj]
      generalize xs[j] = y at this
      cases this
      rfl
    · rw [List.getElem?_eq_none (by rw [ho.1]; omega), List.getElem?_eq_none (by simp; omega)]
  subst hxs
  have rep0 : ∀ (F : Nat → Prop) (w : World) (ts : List Int) (i j : Nat) (y : List AV) (av : AV) (x : Value), (ts.map intA)[i]? = some y → y[j]? = some av → (ts.map (Value.int .i64))[i * 1 + j]? = some x → Rep F w av x := by
    intro F w ts i j y av x hi hj hx
    rw [List.getElem?_map, Option.map_eq_some_iff] at hi
    obtain ⟨z, hz, rfl⟩ := hi
    match j with
    | 0 => simp [intA] at hj; subst hj; simp [hz] at hx; subst hx; exact .v _
    | j + 1 => simp [intA] at hj
  match g with
  | none =>
    have hn : zs = [] := by
      rcases ho.2 with ⟨_, h⟩ | ⟨b, _, _, h, _⟩
      · exact List.eq_nil_of_length_eq_zero h
      · simp [slV] at h
    subst hn
    refine (Any.slices_Sort_int_none Ly none c w).mono ?_
    rintro ex w' ⟨rfl, rfl⟩
    exact ⟨.tup [], .tuple #[], _, F, rfl, ⟨rfl, rfl⟩, .tup _ _ rfl (fun j av x hj => by simp at hj), by rw [show sortI [] = [] by simp [sortI]]; exact hR, by rw [show sortI [] = [] by simp [sortI]]; exact .refl _ _ _⟩
  | some b =>
    rcases ho.2 with ⟨h, _⟩ | ⟨g', cap, cur, hv, _, hg, hnc, hcm, hcs, htake⟩
    · simp [slV] at h
    · simp only [slV, Option.map_some, Value.slice.injEq, Option.some.injEq, Addr.mk.injEq, and_true, true_and] at hv
      obtain ⟨rfl, rfl⟩ := hv
      rw [Nat.mul_one] at htake
      have hlt : b < w.heap.size := hR.lt b (by simp [HA.own])
      refine (Any.slices_Sort_int Ly b 0 c zs w (holds_of_blockI hg htake) hlt hz).mono ?_
      rintro ex w' ⟨rfl, n, os, rfl⟩
      have hrow := ownsRow_sortedI (n := n) (os := os) (base := 0) (ss := zs) (ts := sortI zs) hsl (Nat.zero_le _) hg hnc hcm hcs
      have hgr := grownBy_sortedI (n := n) (os := os) (g := b) (w := w) (sortI zs).toArray
      have hset : ∀ k, F k → (grow (putRow (Value.int .i64) (Sort.ahead w n) b 0 (sortI zs).toArray) os).heap[k]? = w.heap[k]? := fun k hk => hgr.block k (hR.sep k hk).1 (fun e => (hR.sep k hk).2 (by simp at e; simp [HA.own, e]))
      refine ⟨.tup [], .tuple #[], _, F, rfl, ⟨rfl, rfl⟩, .tup _ _ rfl (fun j av x hj => by simp at hj), ⟨fun y hy => ?_, by simp [HA.own], fun k hk => ?_, fun k hk => ⟨Nat.lt_of_lt_of_le (hR.sep k hk).1 hgr.size, fun hm => (hR.sep k hk).2 (by simpa [HA.own] using hm)⟩⟩, ⟨hgr.os, hgr.output, hgr.tape, hgr.size, fun k hk hn => hgr.block k hk (fun e => hn (by simp at e; simp [HA.own, e])), fun k hk => .inl (by simpa [HA.own] using hk), fun _ h => h, fun _ h => .inl h, (by show w.drawn ≤ w.drawn + n; omega)⟩⟩
      · rw [List.mem_singleton] at hy
        subst hy
        have e1 : ((sortI zs).map intA).length = zs.length := by rw [List.length_map, hsl]
        refine ⟨(sortI zs).map (Value.int .i64), by rw [e1]; exact hrow, fun y hy => ?_, fun x hx => ?_, rep0 _ _ _⟩
        · obtain ⟨z, _, rfl⟩ := List.mem_map.1 hy; rfl
        · obtain ⟨z, _, rfl⟩ := List.mem_map.1 hx; rfl
      · have : k = b := by simpa [HA.own] using hk
        subst this
        exact Nat.lt_of_lt_of_le hlt hgr.size
/-! ### Keys in whatever order, sorted -/
theorem sortI_perm {a b : List Int} (p : a.Perm b) : sortI a = sortI b := by
  refine List.Perm.eq_of_pairwise (le := fun x y => decide (x ≤ y) = true) (fun x y _ _ h1 h2 => ?_) ?_ ?_ ?_
  · simp at h1 h2; omega
  · exact List.pairwise_mergeSort (fun a b c h1 h2 => by simp at *; omega) (fun a b => by simp; omega) a
  · exact List.pairwise_mergeSort (fun a b c h1 h2 => by simp at *; omega) (fun a b => by simp; omega) b
  · exact (List.mergeSort_perm _ _).trans (p.trans (List.mergeSort_perm _ _).symm)
theorem sortI_length (a : List Int) : (sortI a).length = a.length := List.length_mergeSort a
theorem sortI_sorted (a : List Int) : (sortI a).Pairwise (· ≤ ·) := (List.pairwise_mergeSort (le := fun x y => decide (x ≤ y)) (fun a b c h1 h2 => by simp at *; omega) (fun a b => by simp; omega) a).imp (fun h => by simpa using h)
/-- A list that is strictly sorted and has the same elements. -/
theorem sortI_eq {a b : List Int} (hn : a.Nodup) (hb : b.Pairwise (· < ·)) (hm : ∀ x, x ∈ a ↔ x ∈ b) : sortI a = b := by
  have hbn : b.Nodup := hb.imp (fun h e => by omega)
  refine List.Perm.eq_of_pairwise (le := fun x y => x ≤ y) (fun x y _ _ h1 h2 => by omega) (sortI_sorted a) (hb.imp (fun h => by omega)) ?_
  exact (List.mergeSort_perm _ _).trans ((List.perm_ext_iff_of_nodup hn hbn).2 hm)
def keyAt (kvs : List (Int × AV)) (i : Nat) : Int := (kvs.getD i (0, .v undef)).1
theorem keyAt_get {kvs : List (Int × AV)} {i : Nat} {kv : Int × AV} (h : kvs[i]? = some kv) : keyAt kvs i = kv.1 := by simp [keyAt, List.getD, h]
def KNx (kvs : List (Int × AV)) (pre : List (List AV)) (x : List AV) : Prop := ∃ (ks : List Int) (k : Int), pre = ks.map intA ∧ x = intA k ∧ ks.length < kvs.length
def KE (kvs : List (Int × AV)) (xs : List (List AV)) : Prop := ∃ ks : List Int, xs = ks.map intA ∧ ks.Perm (kvs.map Prod.fst)
theorem intA_inj {a b : List Int} (h : a.map intA = b.map intA) : a = b := by
  refine (List.map_inj_right (fun x y h => ?_)).1 h
  simpa [intA] using h
def Idx (n : Nat) (idx : List Nat) : Prop := idx.Nodup ∧ ∀ i ∈ idx, i < n
theorem Idx.nil {n : Nat} : Idx n [] := ⟨.nil, fun i h => by simp at h⟩
theorem Idx.len : ∀ {n : Nat} {idx : List Nat}, Idx n idx → idx.length ≤ n
  | 0, [], _ => Nat.le_refl _
  | 0, x :: l, h => by have := h.2 x (by simp); omega
  | n + 1, idx, h => by
    have h1 : Idx n (idx.erase n) := ⟨h.1.erase n, fun i hi => by
      obtain ⟨h2, h3⟩ := (List.Nodup.mem_erase_iff h.1).1 hi
      have := h.2 i h3
      omega⟩
    have h2 := h1.len
    rw [List.length_erase] at h2
    split at h2 <;> omega
theorem Idx.add {n i : Nat} {idx : List Nat} (h : Idx n idx) (hi : i < n) (hn : i ∉ idx) : Idx n (idx ++ [i]) :=
  ⟨List.nodup_append.2 ⟨h.1, by simp, fun a ha b hb e => by simp at hb; subst hb; subst e; exact hn ha⟩, fun j hj => by
    rcases List.mem_append.1 hj with hj | hj
    · exact h.2 j hj
    · simp at hj; omega⟩
theorem Idx.lt {n i : Nat} {idx : List Nat} (h : Idx n idx) (hi : i < n) (hn : i ∉ idx) : idx.length < n := by
  have := (h.add hi hn).len
  simp at this
  omega
theorem Idx.all {n : Nat} {idx : List Nat} (h : Idx n idx) (ha : ∀ i, i < n → i ∈ idx) : idx.Perm (List.range n) :=
  (List.perm_ext_iff_of_nodup h.1 List.nodup_range).2 fun i => ⟨fun hi => List.mem_range.2 (h.2 i hi), fun hi => ha i (List.mem_range.1 hi)⟩
theorem keyAt_range (kvs : List (Int × AV)) : (List.range kvs.length).map (keyAt kvs) = kvs.map Prod.fst := by
  apply List.ext_getElem?
  intro j
  by_cases hj : j < kvs.length
  · simp [hj, keyAt, List.getD]
  · rw [List.getElem?_eq_none (by simp; omega), List.getElem?_eq_none (by simp; omega)]
theorem Idx.ke {kvs : List (Int × AV)} {idx : List Nat} (h : Idx kvs.length idx) (ha : ∀ i, i < kvs.length → i ∈ idx) : KE kvs (idx.map fun i => intA (keyAt kvs i)) :=
  ⟨idx.map (keyAt kvs), by simp, by rw [← keyAt_range]; exact (h.all ha).map _⟩
theorem Idx.knx {kvs : List (Int × AV)} {idx : List Nat} {i : Nat} {kv : Int × AV} (h : Idx kvs.length idx) (hk : kvs[i]? = some kv) (hn : i ∉ idx) : KNx kvs (idx.map fun i => intA (keyAt kvs i)) (intA kv.1) :=
  ⟨idx.map (keyAt kvs), kv.1, by simp, rfl, by rw [List.length_map]; exact h.lt (List.getElem?_eq_some_iff.1 hk).1 hn⟩
end A
end Go.Proofs.Ytnabkchagjjjnaa
set_option linter.unusedVariables false
set_option linter.unusedSimpArgs false
namespace Go.Proofs.Ytnabkchagjjjnaa
namespace A
variable {P : Program} {N : Nat} {env : Env} {h : List HA} {K : Cont} {X : List (Nat × Cont)} {Rt : Cont}
theorem run_eqSlR (d : Nat) {t e : TypeId} (hu : P.underlying t = some (.slice e)) (p : Option Addr) (n c : Nat) (w : World) : (Op.equalIn (d + 1) t (.slice p n c) (.slice none 0 0)).run P w = .ok p.isNone w := by
  cases p <;> simp [Op.equalIn, run_underlying' hu]
/-- A slice with something in it is not nil. -/
theorem pSlNe {o : Oper} {op : BinOp} {t t' : TypeId} {xo : Operand} {sz : Nat} {es : List (List AV)} {q : Bool} (hop : o.op = .binOp op t xo (.const (.slice none 0 0)) t') (hb : op = .eql ∨ op = .neq) (hx : ev env xo = some (.sl sz es)) (ht : isSl P t = true) (hne : es ≠ []) (hv : (if op = .eql then false else true) = q) : APure P N o env (.bool q) := by
  subst hv
  obtain ⟨e, hu⟩ := isSl_spec ht
  intro F h a w st
  have hr := st.ev hx
  generalize hv : a.eval xo = x at hr
  have hc : a.eval (.const (.slice none 0 0)) = .slice none 0 0 := rfl
  cases hr with
  | sl0 => exact absurd rfl hne
  | sl _ _ b o' c X hF hcc hz hX h1 hR =>
    refine ⟨_, .v _, fun w' => ?_⟩
    have he : (Op.equal t (.slice (some ⟨b, o', none⟩) es.length c) (.slice none 0 0)).run P w' = .ok false w' := run_eqSlR 9999 hu _ _ _ w'
    rcases hb with rfl | rfl
    · simp [execOp, hop, hv, hc, eqGuard, binOp, he]
    · simp [execOp, hop, hv, hc, eqGuard, binOp, he]
/-- What has something in it lies in a block. -/
theorem sl_some {F : Nat → Prop} {w : World} {g : Option Nat} {c e sz : Nat} {es : List (List AV)} (hr : HARep F w (.sl g c e sz es)) (hne : es ≠ []) : ∃ b, g = some b := by
  obtain ⟨xs, ⟨_, h2⟩, _⟩ := hr
  rcases h2 with ⟨_, h⟩ | ⟨b, _, _, h, _⟩
  · exact absurd (List.eq_nil_of_length_eq_zero h) hne
  · cases g with
    | none => simp [slV] at h
    | some b => exact ⟨b, rfl⟩
theorem oSome {ops : Array Oper} {rest : List Oper} {g : Option Nat} {c e sz : Nat} {es : List (List AV)} {h' : List HA} (hs : Spl h (.sl g c e sz es) h') (hne : es ≠ []) (h1 : ∀ b, g = some b → AOps P N ops rest env h K X Rt) : AOps P N ops rest env h K X Rt := by
  intro B k F a w hr s e d
  obtain ⟨b, hb⟩ := sl_some (s.r.rep _ (spl_mem hs)) hne
  exact h1 b hb B k F a w hr s e d
theorem aSome {x : Code} {g : Option Nat} {c e sz : Nat} {es : List (List AV)} {h' : List HA} (hs : Spl h (.sl g c e sz es) h') (hne : es ≠ []) (h1 : ∀ b, g = some b → AWP P N x env h K X Rt) : AWP P N x env h K X Rt := by
  intro ro F a w k s
  obtain ⟨b, hb⟩ := sl_some (s.r.rep _ (spl_mem hs)) hne
  exact h1 b hb ro F a w k s
end A
end Go.Proofs.Ytnabkchagjjjnaa
set_option linter.unusedVariables false
set_option linter.unusedSimpArgs false
namespace Go.Proofs.Ytnabkchagjjjnaa
namespace A
variable {P : Program} {N : Nat} {env : Env} {h : List HA} {K : Cont} {X : List (Nat × Cont)} {Rt : Cont}
theorem weak_settleS {k n c e sz : Nat} {g : Option Nat} {es : List (List AV)} {h' : List HA} (hk : get env k = some (.v (slV g n c))) (hs : Spl h (.sl g c e sz es) h') (hn : n = es.length) {F : Nat → Prop} {a : Act} {w : World} (s : Sat N F env h a w) :
    Sat N (fun b => F b ∨ g = some b) ((k, .sl sz es) :: env) h' a w ∧ Ext F h w (fun b => F b ∨ g = some b) h' w ∧ ∀ b ∈ owns h, b ∈ owns h' ∨ (F b ∨ g = some b) := by
  subst hn
  have r1 := s.r.perm hs.perm
  have hr := r1.rep (.sl g c e sz es) (by simp)
  have hF' : ∀ b, F b → (F b ∨ g = some b) := fun b hb => .inl hb
  have hgo : ∀ b, g = some b → b ∈ (HA.sl g c e sz es).own := fun b hb => by subst hb; simp [HA.own]
  have hgo2 : ∀ b, b ∈ (HA.sl g c e sz es).own → g = some b := fun b hb => by cases g <;> simp [HA.own] at hb; rw [hb]
  have hnd := r1.nd
  rw [owns_cons] at hnd
  refine ⟨⟨⟨fun x hx => (r1.rep x (by simp [hx])).mono hF' (fun _ _ => rfl) (fun _ _ => rfl), (List.nodup_append.1 hnd).2.1, fun b hb => r1.lt b (by simp [hb]), fun b hb => ?_⟩, s.size, fun j av hj => ?_⟩, ⟨rfl, rfl, rfl, Nat.le_refl _, fun _ _ _ => rfl, fun b hb => .inl ((owns_perm hs.perm).mem_iff.2 (by simp [hb])), hF', fun b hb => hb.imp id (fun e => .inl ((owns_perm hs.perm).mem_iff.2 (by simp [hgo b e]))), Nat.le_refl _⟩, fun b hb => ?_⟩
  · rcases hb with hb | hb
    · have := r1.sep b hb; rw [owns_cons] at this; exact ⟨this.1, fun hm => this.2 (List.mem_append_right _ hm)⟩
    · exact ⟨r1.lt b (by simp [hgo b hb]), fun hm => (List.nodup_append.1 hnd).2.2 b (hgo b hb) b hm rfl⟩
  · by_cases hkj : k = j
    · subst hkj
      have : Nat.beq k k = true := by simp
      simp only [A.get, this, cond_true, Option.some.injEq] at hj
      subst hj
      have hv := s.env k _ hk
      generalize hq : a.tmps.getD k undef = v at hv
      cases hv
      exact own_settled hr hF' (fun b hb => .inr hb)
    · simp only [A.get, beq_no hkj, cond_false] at hj
      exact (s.env j av hj).mono hF' (fun _ _ => rfl)
  · have := (owns_perm hs.perm).mem_iff.1 hb
    rw [owns_cons] at this
    rcases List.mem_append.1 this with h1 | h1
    · exact .inr (.inr (hgo2 b h1))
    · exact .inl h1
theorem eSettle {ops : Array Oper} {ds : List Nat} {m : Nat} {l : Array Bool} {E0 : Env} {h0 : List HA} {k n c e sz : Nat} {g : Option Nat} {es : List (List AV)} {h' : List HA} (hk : get env k = some (.v (slV g n c))) (hs : Spl h (.sl g c e sz es) h') (hn : n = es.length)
    (h1 : ADraw2 P N ops ds m l E0 h0 ((k, .sl sz es) :: env) h' K X Rt) : ADraw2 P N ops ds m l E0 h0 env h K X Rt := by
  intro B F0 w0 F a w s0 s ex hdef hF hO hS
  obtain ⟨s1, e1, o1⟩ := weak_settleS hk hs hn s
  refine h1 B F0 w0 _ a w s0 s1 (ex.trans e1) hdef (fun b hb => .inl (hF b hb)) (fun b hb => ?_) hS
  rcases hO b hb with h2 | h2
  · exact o1 b h2
  · exact .inr (.inl h2)
theorem Deep.refl : ∀ {rs : List (List AV)}, Deep h rs rs
  | [] => .nil
  | [] :: rs => .row Deep.refl
  | (_ :: r) :: rs => .same (Deep.refl (rs := r :: rs))
/-- Arguments that are known otherwise. -/
inductive Casts : List AV → List AV → Prop
  | nil : Casts [] []
  | cons {a b : AV} {l m : List AV} : Cast a b → Casts l m → Casts (a :: l) (b :: m)
theorem Casts.reps {F : Nat → Prop} {w : World} {l m : List AV} (c : Casts l m) {vs : Array Value} (h : Reps F w l vs) : Reps F w m vs := by
  have key : l.length = m.length ∧ ∀ (i : Nat) a b, l[i]? = some a → m[i]? = some b → Cast a b := by
    clear h
    induction c with
    | nil => exact ⟨rfl, fun i a b h => by simp at h⟩
    | cons hc _ ih =>
      refine ⟨by simp [ih.1], fun i a b ha hb => ?_⟩
      cases i with
      | zero => simp at ha hb; subst ha; subst hb; exact hc
      | succ i => exact ih.2 i a b (by simpa using ha) (by simpa using hb)
  refine ⟨h.1.trans key.1, fun i av x hi hx => ?_⟩
  have hlt : i < l.length := by rw [key.1]; exact (List.getElem?_eq_some_iff.1 hi).1
  have hq := List.getElem?_eq_getElem hlt
  exact key.2 i _ av hq hi F w x (h.2 i _ x hq hx)
theorem Triple.casts {f : FuncId} {l m : List AV} {Q : AV → List HA → Prop} (c : Casts l m) (t : Triple P f m h Q) : Triple P f l h Q := ⟨t.1, fun F w vs hr ha => t.2 F w vs hr (c.reps ha)⟩
end A
end Go.Proofs.Ytnabkchagjjjnaa
set_option linter.unusedVariables false
set_option linter.unusedSimpArgs false
namespace Go.Proofs.Ytnabkchagjjjnaa
namespace A
open Go.Proofs.YtnabkchagjjjnaaW.PrintLast (rtab waitsOk anyT takeW any_of take_ofW one_of readyT done_of)
variable {P : Program} {N : Nat} {env : Env} {h : List HA} {K : Cont} {X : List (Nat × Cont)} {Rt : Cont}
section
variable {ops : Array Oper} {o : Oper} {rest : List Oper} {d j dj : Nat} {av : AV} {want : Bool} {x : Value}
theorem sp (hr : APure P N o env av) (k : AOps P N ops rest ((d, av) :: env) h K X Rt) (hg : o.guard = none := by rfl) (hd : o.dst = some d := by rfl) (hN : d < N := by decide) : AOps P N ops (o :: rest) env h K X Rt := oP hg hr hd hN k
theorem sr (hr : ARead P N o env h av) (k : AOps P N ops rest ((d, av) :: env) h K X Rt) (hg : o.guard = none := by rfl) (hd : o.dst = some d := by rfl) (hN : d < N := by decide) : AOps P N ops (o :: rest) env h K X Rt := oR hg hr hd hN k
theorem sa (k : AOp P N o env h (fun env' h' => AOps P N ops rest env' h' K X Rt)) (hg : o.guard = none := by rfl) : AOps P N ops (o :: rest) env h K X Rt := oA hg k
theorem sq (k : AOpQ P N o env h (fun env' h' => AOps P N ops rest env' h' K X Rt)) (hg : o.guard = none := by rfl) : AOps P N ops (o :: rest) env h K X Rt := oQ hg k
theorem gp (hr : APure P N o env av) (k : AOps P N ops rest ((d, av) :: env) h K X Rt) (hg : o.guard = some (j, want) := by rfl) (hj : (ops[j]?).bind (·.dst) = some dj := by rfl) (hx : get env dj = some (.v x) := by rfl) (hw : wants x want = true := by rfl) (hd : o.dst = some d := by rfl) (hN : d < N := by decide) : AOps P N ops (o :: rest) env h K X Rt := oGP hg hj hx hw hr hd hN k
theorem gr (hr : ARead P N o env h av) (k : AOps P N ops rest ((d, av) :: env) h K X Rt) (hg : o.guard = some (j, want) := by rfl) (hj : (ops[j]?).bind (·.dst) = some dj := by rfl) (hx : get env dj = some (.v x) := by rfl) (hw : wants x want = true := by rfl) (hd : o.dst = some d := by rfl) (hN : d < N := by decide) : AOps P N ops (o :: rest) env h K X Rt := oGR hg hj hx hw hr hd hN k
theorem ga (k : AOp P N o env h (fun env' h' => AOps P N ops rest env' h' K X Rt)) (hg : o.guard = some (j, want) := by rfl) (hj : (ops[j]?).bind (·.dst) = some dj := by rfl) (hx : get env dj = some (.v x) := by rfl) (hw : wants x want = true := by rfl) : AOps P N ops (o :: rest) env h K X Rt := oGT hg hj hx hw k
theorem gf (k : AOps P N ops rest ((d, .v undef) :: env) h K X Rt) (hg : o.guard = some (j, want) := by rfl) (hj : (ops[j]?).bind (·.dst) = some dj := by rfl) (hx : get env dj = some (.v x) := by rfl) (hw : wants x want = false := by rfl) (hd : o.dst = some d := by rfl) (hN : d < N := by decide) : AOps P N ops (o :: rest) env h K X Rt := oGF hg hj hx hw hd hN k
end
section
variable {o : Oper}
theorem pM {y : Operand} {av : AV} (ho : o.op = .move y := by rfl) (hx : ev env y = some av := by rfl) : APure P N o env av := pMv (.inl ho) hx
theorem pMa {y : Operand} {av : AV} (ho : o.op = .assign y := by rfl) (hx : ev env y = some av := by rfl) : APure P N o env av := pMv (.inr ho) hx
theorem pK {c y z : Operand} {b : Bool} {av : AV} (ho : o.op = .pick c y z := by rfl) (hc : ev env c = some (.bool b) := by rfl) (hx : ev env (cond b y z) = some av := by rfl) : APure P N o env av := pPick ho hc hx
theorem pNv {y : Operand} {b p : Nat} {s : Option Nat} (ho : o.op = .nilCheck y := by rfl) (hx : ev env y = some (.v (.pointer (some ⟨b, p, s⟩))) := by rfl) : APure P N o env (.v (.pointer (some ⟨b, p, s⟩))) := pNilV ho hx
theorem pNs {y : Operand} {cs : List AV} (ho : o.op = .nilCheck y := by rfl) (hx : ev env y = some (.sp cs) := by rfl) : APure P N o env (.sp cs) := pNilS ho hx
theorem pFb {s : TypeId} {y : Operand} {f off n b p : Nat} {g : Bool} (hf : fieldOf P s f = some (off, n, g)) (ho : o.op = .fieldAddr s y f := by rfl) (hx : ev env y = some (.v (.pointer (some ⟨b, p, none⟩))) := by rfl) : APure P N o env (.v (.pointer (some ⟨b, p + off, none⟩))) := pFldB ho hx hf
theorem pFs {s : TypeId} {y : Operand} {f off n : Nat} {g : Bool} {cs : List AV} (hf : fieldOf P s f = some (off, n, g)) (ho : o.op = .fieldAddr s y f := by rfl) (hx : ev env y = some (.sp cs) := by rfl) : APure P N o env (.sp (cs.drop off)) := pFldS ho hx hf
theorem pB {op : BinOp} {t t' : TypeId} {xo yo : Operand} {x y v : Value} (ho : o.op = .binOp op t xo yo t' := by rfl) (hx : ev env xo = some (.v x) := by rfl) (hy : ev env yo = some (.v y) := by rfl) (hb : binVal op x y = some v := by rfl) : APure P N o env (.v v) := pBin ho hx hy hb rfl
theorem pAd {t t' : TypeId} {xo yo : Operand} {x y : Int} (ho : o.op = .binOp .add t xo yo t' := by rfl) (hx : ev env xo = some (.int x) := by rfl) (hy : ev env yo = some (.int y) := by rfl) (h1 : -9223372036854775808 ≤ x + y := by omega) (h2 : x + y < 9223372036854775808 := by omega) : APure P N o env (.int (x + y)) := pAdd ho hx hy h1 h2
theorem pSu {t t' : TypeId} {xo yo : Operand} {x y : Int} (ho : o.op = .binOp .sub t xo yo t' := by rfl) (hx : ev env xo = some (.int x) := by rfl) (hy : ev env yo = some (.int y) := by rfl) (h1 : -9223372036854775808 ≤ x - y := by omega) (h2 : x - y < 9223372036854775808 := by omega) : APure P N o env (.int (x - y)) := pSub ho hx hy h1 h2
theorem pX {xo : Operand} {i : Nat} {vs : List AV} {av : AV} (ho : o.op = .extract xo i := by rfl) (hx : ev env xo = some (.tup vs) := by rfl) (hi : vs[i]? = some av := by rfl) : APure P N o env av := pExt ho hx hi
theorem pNo {t : TypeId} {xo : Operand} {b : Bool} (ho : o.op = .unOp .not t xo := by rfl) (hx : ev env xo = some (.bool b) := by rfl) : APure P N o env (.bool (!b)) := pNot ho hx
theorem pLv {t : TypeId} {xo : Operand} {ad : Option Addr} {n c : Nat} (ht : isSl P t = true) (ho : o.op = .call ⟨.builtin .len, #[xo], #[t]⟩ := by rfl) (hx : ev env xo = some (.v (.slice ad n c)) := by rfl) : APure P N o env (.int n) := pLenV ho hx ht
theorem pLm {t : TypeId} {xo : Operand} {sz : Nat} {α : Type} {f : α → List AV} {l : List α} (ht : isSl P t = true) (ho : o.op = .call ⟨.builtin .len, #[xo], #[t]⟩ := by rfl) (hx : ev env xo = some (.sl sz (l.map f)) := by rfl) : APure P N o env (.int l.length) := pLenS' (pLenS ho hx ht) (List.length_map _)
end
section
variable {o : Oper} {t : TypeId} {y : Operand} {n b p : Nat} {cs : List AV} {av : AV} {h' : List HA}
theorem rS1 (ht : tyOf P t = some (n, false)) (ho : o.op = .load t y := by rfl) (hx : ev env y = some (.sp cs) := by rfl) (hn : cs[0]? = some av := by rfl) : ARead P N o env h av := rLdS1 ho hx ht hn
theorem rSW {f : List AV} (ht : tyOf P t = some (n, true)) (hn : f.length = n) (ho : o.op = .load t y := by rfl) (hx : ev env y = some (.sp f) := by rfl) : ARead P N o env h (.agg f) := by
  have := rLdSA (N := N) (h := h) ho hx ht (show n ≤ f.length by omega)
  rwa [List.take_of_length_le (by omega)] at this
theorem rB1 (ht : tyOf P t = some (n, false)) (ho : o.op = .load t y := by rfl) (hx : ev env y = some (.v (.pointer (some ⟨b, p, none⟩))) := by rfl) (hs : Spl h (.box b cs) h' := by repeat constructor) (hn : cs[p]? = some av := by rfl) : ARead P N o env h av := rLdB1 ho hx hs ht hn
theorem rBW (ht : tyOf P t = some (n, true)) (ho : o.op = .load t y := by rfl) (hx : ev env y = some (.v (.pointer (some ⟨b, 0, none⟩))) := by rfl) (hs : Spl h (.box b cs) h' := by repeat constructor) (hn : cs.length = n := by rfl) : ARead P N o env h (.agg cs) := by
  have := rLdBA (N := N) (p := 0) ho hx hs ht (show 0 + n ≤ cs.length by omega)
  rwa [List.drop_zero, List.take_of_length_le (by omega)] at this
end
section
variable {ops : Array Oper} {T : Bool × List (List Nat × List Nat)} {Bs ds : List Nat} {n d j dj : Nat} {o : Oper} {l : Array Bool} {av : AV} {want : Bool} {x : Value} {E0 : Env} {h0 : List HA}
abbrev upd (l : Array Bool) (i : Nat) : Array Bool := l.setIfInBounds i true
theorem dp (HT : Tab ops T Bs) (i : Nat) (hi : ops[i]? = some o) (hr : APure P N o env av) (k : ADraw P N ops ds n (upd l i) ((d, av) :: env) h K X Rt) (hg : o.guard = none := by rfl) (hd : o.dst = some d := by rfl) (hc : anyT T l.toList (upd l i).toList i = true := by kernel_rfl) (hN : d < N := by decide) : ADraw P N ops ds (n + 1) l env h K X Rt := dPure _ hi hg hd (HT.any hc) hr hN k
theorem dr (HT : Tab ops T Bs) (i : Nat) (hi : ops[i]? = some o) (hr : ARead P N o env h av) (k : ADraw P N ops ds n (upd l i) ((d, av) :: env) h K X Rt) (hg : o.guard = none := by rfl) (hd : o.dst = some d := by rfl) (hc : takeW T Bs ds l.toList (upd l i).toList i = true := by kernel_rfl) (hN : d < N := by decide) : ADraw P N ops ds (n + 1) l env h K X Rt := dTake _ hi hg hd (HT.take hc) hr hN k
theorem dpG (HT : Tab ops T Bs) (i : Nat) (hi : ops[i]? = some o) (hr : APure P N o env av) (k : ADraw P N ops ds n (upd l i) ((d, av) :: env) h K X Rt) (hg : o.guard = some (j, want) := by rfl) (hj : (ops[j]?).bind (·.dst) = some dj := by rfl) (hx : get env dj = some (.v x) := by rfl) (hw : wants x want = true := by rfl) (hd : o.dst = some d := by rfl) (hc : anyT T l.toList (upd l i).toList i = true := by kernel_rfl) (hN : d < N := by decide) : ADraw P N ops ds (n + 1) l env h K X Rt := dPureG _ hi hg hj hx hw hd (HT.any hc) hr hN k
theorem drG (HT : Tab ops T Bs) (i : Nat) (hi : ops[i]? = some o) (hr : ARead P N o env h av) (k : ADraw P N ops ds n (upd l i) ((d, av) :: env) h K X Rt) (hg : o.guard = some (j, want) := by rfl) (hj : (ops[j]?).bind (·.dst) = some dj := by rfl) (hx : get env dj = some (.v x) := by rfl) (hw : wants x want = true := by rfl) (hd : o.dst = some d := by rfl) (hc : takeW T Bs ds l.toList (upd l i).toList i = true := by kernel_rfl) (hN : d < N := by decide) : ADraw P N ops ds (n + 1) l env h K X Rt := dTakeG _ hi hg hj hx hw hd (HT.take hc) hr hN k
theorem dE (HT : Tab ops T Bs) (k : K env h) (hr : (readyT T.2 l.toList == []) = true := by kernel_rfl) : ADraw P N ops ds n l env h K X Rt := dEnd (HT.done hr) k
-- behind the first call: what hangs on nothing new
theorem ep (HT : Tab ops T Bs) (i : Nat) (hi : ops[i]? = some o) (hr : APure P N o E0 av) (k : ADraw2 P N ops ds n (upd l i) ((d, av) :: E0) h0 ((d, av) :: env) h K X Rt) (hg : o.guard = none := by rfl) (hd : o.dst = some d := by rfl) (hc : anyT T l.toList (upd l i).toList i = true := by kernel_rfl) (hN : d < N := by decide) : ADraw2 P N ops ds (n + 1) l E0 h0 env h K X Rt := ePureB _ hi hg hd (HT.any hc) hr hN k
theorem er (HT : Tab ops T Bs) (i : Nat) (hi : ops[i]? = some o) (hr : ARead P N o E0 h0 av) (k : ADraw2 P N ops ds n (upd l i) ((d, av) :: E0) h0 ((d, av) :: env) h K X Rt) (hg : o.guard = none := by rfl) (hd : o.dst = some d := by rfl) (hc : takeW T Bs ds l.toList (upd l i).toList i = true := by kernel_rfl) (hN : d < N := by decide) : ADraw2 P N ops ds (n + 1) l E0 h0 env h K X Rt := eTake _ hi hg hd (HT.take hc) hr hN k
theorem epG (HT : Tab ops T Bs) (i : Nat) (hi : ops[i]? = some o) (hr : APure P N o E0 av) (k : ADraw2 P N ops ds n (upd l i) ((d, av) :: E0) h0 ((d, av) :: env) h K X Rt) (hg : o.guard = some (j, want) := by rfl) (hj : (ops[j]?).bind (·.dst) = some dj := by rfl) (hx : get env dj = some (.v x) := by rfl) (hw : wants x want = true := by rfl) (hd : o.dst = some d := by rfl) (hc : anyT T l.toList (upd l i).toList i = true := by kernel_rfl) (hN : d < N := by decide) : ADraw2 P N ops ds (n + 1) l E0 h0 env h K X Rt := ePureBG _ hi hg hj hx hw hd (HT.any hc) hr hN k
theorem erG (HT : Tab ops T Bs) (i : Nat) (hi : ops[i]? = some o) (hr : ARead P N o E0 h0 av) (k : ADraw2 P N ops ds n (upd l i) ((d, av) :: E0) h0 ((d, av) :: env) h K X Rt) (hg : o.guard = some (j, want) := by rfl) (hj : (ops[j]?).bind (·.dst) = some dj := by rfl) (hx : get env dj = some (.v x) := by rfl) (hw : wants x want = true := by rfl) (hd : o.dst = some d := by rfl) (hc : takeW T Bs ds l.toList (upd l i).toList i = true := by kernel_rfl) (hN : d < N := by decide) : ADraw2 P N ops ds (n + 1) l E0 h0 env h K X Rt := eTakeG _ hi hg hj hx hw hd (HT.take hc) hr hN k
-- what hangs on a call's result
theorem ef (HT : Tab ops T Bs) (i : Nat) (hi : ops[i]? = some o) (hr : APure P N o env av) (k : ADraw2 P N ops ds n (upd l i) E0 h0 ((d, av) :: env) h K X Rt) (hg : o.guard = none := by rfl) (hd : o.dst = some d := by rfl) (hf : get E0 d = none := by rfl) (hc : anyT T l.toList (upd l i).toList i = true := by kernel_rfl) (hN : d < N := by decide) : ADraw2 P N ops ds (n + 1) l E0 h0 env h K X Rt := ePureF _ hi hg hd hf (HT.any hc) hr hN k
theorem efG (HT : Tab ops T Bs) (i : Nat) (hi : ops[i]? = some o) (hr : APure P N o env av) (k : ADraw2 P N ops ds n (upd l i) E0 h0 ((d, av) :: env) h K X Rt) (hg : o.guard = some (j, want) := by rfl) (hj : (ops[j]?).bind (·.dst) = some dj := by rfl) (hx : get env dj = some (.v x) := by rfl) (hw : wants x want = true := by rfl) (hd : o.dst = some d := by rfl) (hf : get E0 d = none := by rfl) (hc : anyT T l.toList (upd l i).toList i = true := by kernel_rfl) (hN : d < N := by decide) : ADraw2 P N ops ds (n + 1) l E0 h0 env h K X Rt := ePureGF _ hi hg hj hx hw hd hf (HT.any hc) hr hN k
theorem e1 (HT : Tab ops T Bs) (i : Nat) (hi : ops[i]? = some o) (k : AOpQ P N o env h (fun env' h' => ADraw2 P N ops ds n (upd l i) E0 h0 env' h' K X Rt)) (hg : o.guard = none := by rfl) (hd : o.dst = some d := by rfl) (hf : get E0 d = none := by rfl) (hc : (readyT T.2 l.toList == [i] && l.toList.set i true == (upd l i).toList) = true := by kernel_rfl) (hds : i ∉ ds := by decide) (hN : d < N := by decide) : ADraw2 P N ops ds (n + 1) l E0 h0 env h K X Rt := eOneF _ hi hg hd hf (HT.one hc) hds hN k
theorem e1G (HT : Tab ops T Bs) (i : Nat) (hi : ops[i]? = some o) (k : AOpQ P N o env h (fun env' h' => ADraw2 P N ops ds n (upd l i) E0 h0 env' h' K X Rt)) (hg : o.guard = some (j, want) := by rfl) (hj : (ops[j]?).bind (·.dst) = some dj := by rfl) (hx : get env dj = some (.v x) := by rfl) (hw : wants x want = true := by rfl) (hd : o.dst = some d := by rfl) (hf : get E0 d = none := by rfl) (hc : (readyT T.2 l.toList == [i] && l.toList.set i true == (upd l i).toList) = true := by kernel_rfl) (hds : i ∉ ds := by decide) (hN : d < N := by decide) : ADraw2 P N ops ds (n + 1) l E0 h0 env h K X Rt := eOneGF _ hi hg hj hx hw hd hf (HT.one hc) hds hN k
theorem f1 (HT : Tab ops T Bs) (i : Nat) (hi : ops[i]? = some o) (k : AOp P N o env h (fun env' h' => ADraw3 P N ops ds n (upd l i) env' h' K X Rt)) (hg : o.guard = none := by rfl) (hc : (readyT T.2 l.toList == [i] && l.toList.set i true == (upd l i).toList) = true := by kernel_rfl) (hds : i ∈ ds := by decide) : ADraw3 P N ops ds (n + 1) l env h K X Rt := fOne _ hi hg (HT.one hc) hds k
theorem fp (HT : Tab ops T Bs) (i : Nat) (hi : ops[i]? = some o) (hr : APure P N o env av) (k : ADraw3 P N ops ds n (upd l i) ((d, av) :: env) h K X Rt) (hg : o.guard = none := by rfl) (hd : o.dst = some d := by rfl) (hc : anyT T l.toList (upd l i).toList i = true := by kernel_rfl) (hN : d < N := by decide) : ADraw3 P N ops ds (n + 1) l env h K X Rt := fPure _ hi hg hd (HT.any hc) hr hN k
theorem fE (HT : Tab ops T Bs) (k : K env h) (hr : (readyT T.2 l.toList == []) = true := by kernel_rfl) : ADraw3 P N ops ds n l env h K X Rt := fEnd (HT.done hr) k
theorem eE (HT : Tab ops T Bs) (k : K env h) (hr : (readyT T.2 l.toList == []) = true := by kernel_rfl) : ADraw2 P N ops ds n l E0 h0 env h K X Rt := eLast (fEnd (HT.done hr) k)
end
section
variable {ops : Array Oper} {rest : List Oper} {ds : List Nat} {n : Nat} {l : Array Bool} {E0 : Env} {h0 : List HA} {α : Type} {f : α → List AV} {es : List α} {sz m : Nat} {k : IntKind} {v : Int}
end
/-! ### Loops, of which only what turns is said -/
theorem Tk.join {h t r : List HA} (k : Tk h t r) : Tk h (t ++ r) [] := by
  induction k with
  | nil => exact tk_refl
  | cons s _ ih => exact .cons s ih
theorem loopF {α : Type} {c : Code} {kept : Env} {rest : List HA} (I : α → Prop) (U : α → Env) (H : α → List HA) (m : α → Nat) (t0 : α) (hI : I t0) (hs : EnvSub env (U t0 ++ kept)) (ht : Tk h (H t0) rest)
    (h1 : ∀ t, I t → AWP P N c (U t ++ kept) (H t ++ rest) (fun env' h' => ∃ t', I t' ∧ m t' < m t ∧ EnvSub env' (U t' ++ kept) ∧ ∃ r, Tk h' (H t' ++ rest) r) X Rt) : AWP P N (.loop c) env h K X Rt :=
  aLoopI I (fun t => (U t ++ kept, H t ++ rest)) m t0 hI (weak_sub hs ht.join) (fun t hi => aMono (h1 t hi) (fun _ _ ⟨t', hi', hm, he, _, hh⟩ => ⟨t', hi', hm, weak_sub he hh⟩) (fun _ _ h => h))
/-- A slice of its own. -/
def Own (e : TypeId) (sz : Nat) (es : List (List AV)) (H : List HA) : AV → List HA → Prop := fun q h' => ∃ g c, q = .v (slV g es.length c) ∧ h' = .sl g c e sz es :: H
/-- What comes back, and what is left. -/
def Is (r : AV) (H : List HA) : AV → List HA → Prop := fun q h' => q = r ∧ h' = H
section
variable {o : Oper} {d : Nat} {fo : Operand} {xs : Array Operand} {ts : Array TypeId} {f : FuncId} {caps l l' : List AV} {Q : AV → List HA → Prop} {hin hfr : List HA} {H : List HA} {v : Value} {x : AV}
/-- It comes back with x, and leaves nothing. -/
theorem ci (hop : o.op = .call ⟨.value fo, xs, ts⟩) (hfo : ev env fo = some (.fn (.func f) caps)) (hl : evs env xs.toList = some l) (t : Triple P f (l ++ caps) [] (Is x [])) (k : K ((d, x) :: env) h) (hd : o.dst = some d := by rfl) (hN : d < N := by decide) : AOpQ P N o env h K := qCall0 hop hd hN hfo hl t (fun r h' ⟨hr, hh⟩ => by subst hr; subst hh; exact k)
theorem ca (hop : o.op = .call ⟨.value fo, xs, ts⟩) (hfo : ev env fo = some (.fn (.func f) caps)) (hl : evs env xs.toList = some l) (t : Triple P f (l ++ caps) hin Q) (k : ∀ r h', Q r h' → K ((d, r) :: env) (h' ++ hfr)) (hd : o.dst = some d := by rfl) (hN : d < N := by decide) (ht : Tk h hin hfr := by repeat constructor) : AOp P N o env h K := aCall hop hd hN hfo hl ht t k
/-- It comes back with x, and leaves H of what it was given. -/
theorem cai (hop : o.op = .call ⟨.value fo, xs, ts⟩) (hfo : ev env fo = some (.fn (.func f) caps)) (hl : evs env xs.toList = some l) (t : Triple P f (l ++ caps) hin (Is x H)) (k : K ((d, x) :: env) (H ++ hfr)) (hd : o.dst = some d := by rfl) (hN : d < N := by decide) (ht : Tk h hin hfr := by repeat constructor) : AOp P N o env h K := aCall hop hd hN hfo hl ht t (fun r h' ⟨hr, hh⟩ => by subst hr; subst hh; exact k)
/-- It comes back with a slice of its own. -/
theorem co {e : TypeId} {sz : Nat} {es : List (List AV)} (hop : o.op = .call ⟨.value fo, xs, ts⟩) (hfo : ev env fo = some (.fn (.func f) caps)) (hl : evs env xs.toList = some l) (t : Triple P f (l ++ caps) hin (Own e sz es H)) (k : ∀ g c, K ((d, .v (slV g es.length c)) :: env) (.sl g c e sz es :: H ++ hfr)) (hd : o.dst = some d := by rfl) (hN : d < N := by decide) (ht : Tk h hin hfr := by repeat constructor) : AOp P N o env h K := aCall hop hd hN hfo hl ht t (fun r h' ⟨g, c, hr, hh⟩ => by subst hr; subst hh; exact k g c)
variable {fn : Func} {r : List HA}
theorem finIs (hr : rets env fn.results.toList = some l) (hq : retOf l = x) (ht : Tk h H r := by repeat constructor) : Fin fn (Is x H) env h := ⟨l, H, r, hr, ht, hq, rfl⟩
theorem finOwn {e : TypeId} {sz n c : Nat} {g : Option Nat} {es es' : List (List AV)} (hr : rets env fn.results.toList = some [.v (slV g n c)]) (he : es' = es) (ht : Tk h (.sl g c e sz es' :: H) r := by repeat constructor) (hn : n = es'.length := by first | rfl | (simp; done) | (simp; omega)) : Fin fn (Own e sz es H) env h := ⟨_, _, r, hr, ht, g, c, by subst he; subst hn; rfl, by subst he; rfl⟩
end
end A
end Go.Proofs.Ytnabkchagjjjnaa
set_option linter.unusedVariables false
set_option linter.unusedSimpArgs false
namespace Go.Proofs.Ytnabkchagjjjnaa
namespace A
variable {P : Program} {N : Nat} {env : Env} {h : List HA} {K : Cont} {X : List (Nat × Cont)} {Rt : Cont}
def updF {β : Type} (f : Int → β) (m : Int) (v : β) : Int → β := fun i => if i = m then v else f i
@[simp] theorem updF_same {β : Type} (f : Int → β) (m : Int) (v : β) : updF f m v m = v := by simp [updF]
section
variable {β : Type} {c : β → List AV} {sz : Nat} (hc : ∀ v, (c v).length = sz)
include hc
end
section
variable {o : Oper} {t : TypeId} {y : Operand} {b n sz p : Nat} {β : Type} {g : β → AV} {c : β → List AV} {f : Int → β} {i : Int} {pre post : List AV} {h' : List HA}
end
section
variable {o : Oper} {t : TypeId} {x y : Operand} {b n sz p : Nat} {β : Type} {g : β → AV} {c : β → List AV} {f : Int → β} {i : Int} {v : β} {pre post : List AV} {h' : List HA} {gg : Bool}
end
end A
end Go.Proofs.Ytnabkchagjjjnaa
set_option linter.unusedVariables false
set_option linter.unusedSimpArgs false
namespace Go.Proofs.Ytnabkchagjjjnaa
namespace A
variable {P : Program} {N : Nat} {env : Env} {h : List HA} {K : Cont} {X : List (Nat × Cont)} {Rt : Cont}
theorem oAppT {α : Type} {fC : α → List AV} {out : List α} (xs : List α) {o : Oper} {t t' e : TypeId} {x y : Operand} {sz by_ d n c : Nat} {g : Option Nat} {h' : List HA} (ho : o.op = .call ⟨.builtin .append, #[x, y], #[t, t']⟩) (hx : ev env x = some (.v (slV g n c))) (hs : Spl h (.sl g c e sz (out.map fC)) h')
    (hy : SrcIs env h y sz (xs.map fC)) (ht : elemOf P t = some (e, sz, by_)) (ht' : isSl P t' = true) (k : ∀ g' c', K ((d, .v (slV g' (out ++ xs).length c')) :: env) (.sl g' c' e sz ((out ++ xs).map fC) :: h'))
    (hd : o.dst = some d := by rfl) (hN : d < N := by decide) (hn : n = out.length := by first | rfl | simp) (hz : ∀ a, (fC a).length = sz := by exact (fun _ => rfl)) (hb : out.length + xs.length ≤ 100000000 := by first | omega | (simp; omega) | (simp at *; omega)) (hb2 : by_ ≤ 1000000 := by decide) : AOp P N o env h K := by
  refine oApp ho hd hN hx hs (by rw [List.length_map]; exact hn) hy ht ht' (fun z hm => ?_) (by simp; omega) ?_ (fun g' c' => ?_)
  · obtain ⟨a, _, rfl⟩ := List.mem_map.1 hm; exact hz a
  · rw [List.length_map, List.length_map]
    calc (out.length + xs.length) * by_ ≤ 100000000 * 1000000 := Nat.mul_le_mul hb hb2
      _ ≤ _ := by decide
  · have e1 : (out.map fC).length + (xs.map fC).length = (out ++ xs).length := by simp
    rw [e1, ← List.map_append]
    exact k g' c'
section
variable {o : Oper} {t t' : TypeId} {xo yo : Operand} {x y n : Int} {k k' k0 : IntKind}
end
section
variable {o : Oper} {t t' : TypeId} {xo yo : Operand} {n : Nat} {l : List (Nat × EQ)} {β : Type} [BEq β] {c : β → AV} {f g : Int → β}
end
section
variable {o : Oper} {t t' : TypeId} {xo yo : Operand} {cs ds : List AV} {q : Bool}
end
theorem setCells_all {cs ns : List AV} (h : cs.length = ns.length) : setCells cs 0 ns = ns := by
  apply List.ext_getElem?
  intro j
  rw [setCells_get _ _ _ _ (by omega)]
  by_cases hj : j < ns.length
  · rw [if_pos ⟨Nat.zero_le _, by omega⟩, Nat.sub_zero]
  · rw [if_neg (by omega), List.getElem?_eq_none (by omega), List.getElem?_eq_none (by omega)]
theorem oStW {o : Oper} {t : TypeId} {x y : Operand} {n b : Nat} {g : Bool} {cs : List AV} {av : AV} {h' : List HA} (ho : o.op = .store t x y) (hd : o.dst = none) (hx : ev env x = some (.v (.pointer (some ⟨b, 0, none⟩)))) (hy : ev env y = some av)
    (hs : Spl h (.box b cs) h') (ht : tyOf P t = some (n, g)) (k : K env (.box b (avCells av) :: h')) (hc : cs.length = n := by rfl) (hn : (avCells av).length = n := by first | rfl | exact arrF_len one_len) (h1 : oneOf av = true := by rfl) : AOp P N o env h K :=
  oStB ho hd hx hy hs ht hn (by omega) h1 (by rw [setCells_all (by omega)]; exact k)
section
variable {o : Oper} {t : TypeId} {y : Operand} {n b c e sz j : Nat} {α : Type} {fC : α → List AV} {l : List α} {a : α} {i : Int} {av : AV} {h' : List HA}
end
end A
end Go.Proofs.Ytnabkchagjjjnaa
set_option linter.unusedVariables false
set_option linter.unusedSimpArgs false
namespace Go.Proofs.Ytnabkchagjjjnaa
namespace A
variable {P : Program} {N : Nat} {env : Env} {h : List HA} {K : Cont} {X : List (Nat × Cont)} {Rt : Cont}
section
variable {β : Type}
end
theorem pMax {o : Oper} {xo yo : Operand} {ts : Array TypeId} {k k' : IntKind} {x y : Int} (ho : o.op = .call ⟨.builtin .max, #[xo, yo], ts⟩ := by rfl) (hx : ev env xo = some (.v (.int k x)) := by rfl) (hy : ev env yo = some (.v (.int k' y)) := by rfl) : APure P N o env (.v (.int k (max x y))) := pMax2 ho hx hy (by split <;> omega)
section
variable {o : Oper} {t kt et : TypeId} {x i y : Operand} {b : Nat} {n : Int} {β : Type} {c : β → AV} {m : List (Int × β)} {z : Value} {h' : List HA} {v z0 : β}
end
end A
end Go.Proofs.Ytnabkchagjjjnaa
set_option linter.unusedVariables false
set_option linter.unusedSimpArgs false
set_option linter.unusedSectionVars false
namespace Go.Proofs.Ytnabkchagjjjnaa
namespace A
variable {P : Program} {N : Nat} {env : Env} {h : List HA} {K : Cont} {X : List (Nat × Cont)} {Rt : Cont}
/-! ### Maps whose values are slices of one's own -/
structure SlE (α : Type) where
  g : Option Nat
  c : Nat
  l : List α
section
variable {α : Type} {e : TypeId} {sz : Nat} {f : α → List AV}
end
end A
end Go.Proofs.Ytnabkchagjjjnaa
