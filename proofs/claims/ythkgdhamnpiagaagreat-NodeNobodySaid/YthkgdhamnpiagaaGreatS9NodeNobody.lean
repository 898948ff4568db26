/- Texts that NodeNobody's proof rests on, part 10. -/
import Derived.Laws.OwnMore
import Derived.Maps.RangeRun
import Derived.Test.YthkgdhamnpiagaaGreatS8NodeNobody
set_option linter.unusedVariables false
set_option linter.unusedSimpArgs false
namespace Go.Proofs.YthkgdhamnpiagaaGreat
namespace A
variable {P : Program} {N : Nat} {env : Env} {h : List HA} {K : Cont} {X : List (Nat × Cont)} {Rt : Cont}
/-! ### Ranges over maps -/
theorem R.same {F : Nat → Prop} {h k : List HA} {w : World} (r : R F h w) (nd : (owns k).Nodup) (sub : ∀ b ∈ owns k, b ∈ owns h) (hx : ∀ x ∈ k, HARep F w x) : R F k w :=
 ⟨hx, nd, fun b hb => r.lt b (sub b hb), fun b hb => ⟨(r.sep b hb).1, fun hm => (r.sep b hb).2 (sub b hm)⟩⟩
theorem Ext.same {F : Nat → Prop} {h k : List HA} {w : World} (sub : ∀ b ∈ owns k, b ∈ owns h) : Ext F h w F k w :=
 ⟨rfl, rfl, rfl, Nat.le_refl _, fun _ _ _ => rfl, fun b hb => .inl (sub b hb), fun _ h => h, fun _ h => .inl h, Nat.le_refl _⟩
theorem oRange {o : Oper} {t kt et : TypeId} {x : Operand} {d b : Nat} {kvs : List (Int × AV)} {h' : List HA} (ho : o.op = .range t x) (hd : o.dst = some d) (hN : d < N) (hx : ev env x = some (.v (.map (some b)))) (hs : Spl h (.map b kvs) h') (hm : P.underlying t = some (.map kt et))
   (hk : ∀ r, K ((d, .v (.pointer (some ⟨r, 0, none⟩))) :: env) (.mapIt b r kvs [] :: h')) : AOp P N o env h K := by
 intro B F a w Q s e hdef
 have hr := s.ev hx
 generalize hv : a.eval x = v at hr
 cases hr
 obtain ⟨ents, clock, h1, h2, h3, h4⟩ := s.r.rep _ (spl_mem hs)
 have hrun : (execOp a.eval o).run P w = .ok (.value (.pointer (some ⟨w.heap.size, 0, none⟩))) (w.alloc (.mapIter (some b) clock #[] clock)) := by
   simp [execOp, ho, hv, run_range_map w t kt et b ents clock hm h1]
 obtain ⟨hR, hE, hag⟩ := s.r.new (o := .mapIter (some b) clock #[] clock) (x := .obj w.heap.size (.mapIter (some b) clock #[] clock)) rfl (heap_new w _)
 have hlt := s.r.lt b (own_map hs)
 have p1 : (owns (HA.obj w.heap.size (.mapIter (some b) clock #[] clock) :: h)).Perm (owns (HA.mapIt b w.heap.size kvs [] :: h')) := by
   have hp : (owns h).Perm (b :: owns h') := owns_perm hs.perm
   show (w.heap.size :: owns h).Perm (b :: w.heap.size :: owns h')
   exact (hp.cons _).trans (List.Perm.swap _ _ _)
 have hset : ∀ k, F k → (w.alloc (.mapIter (some b) clock #[] clock)).heap[k]? = w.heap[k]? := fun k hk => heap_old w _ k (s.r.sep k hk).1
 have hR2 : R F (.mapIt b w.heap.size kvs [] :: h') (w.alloc (.mapIter (some b) clock #[] clock)) := by
   refine hR.same (p1.nodup_iff.1 hR.nd) (fun k hk => p1.mem_iff.2 hk) (fun y hy => ?_)
   rcases List.mem_cons.1 hy with rfl | hy
   ·exact ⟨ents, clock, #[], by rw [heap_old w _ b hlt]; exact h1, h2, fun i kv e a b => ⟨(h3 i kv e a b).1, (h3 i kv e a b).2.1.mono (fun _ h => h) hset, (h3 i kv e a b).2.2⟩, h4, heap_new w _, rfl, fun j i hj => by simp at hj⟩
   ·exact hR.rep y (by simp [hs.perm.mem_iff, hy])
 have hE2 : Ext F h w F (.mapIt b w.heap.size kvs [] :: h') (w.alloc (.mapIter (some b) clock #[] clock)) := hE.trans (.same fun k hk => p1.mem_iff.2 hk)
 unfold Oper.wp
 rw [hrun, Oper.upon_value, hd]
 exact ⟨hdef, F, _, _, hk _, s.put hE2 hR2 hN (.v _), e.trans hE2⟩
/-- What a step of the range tells: it is over, all were handed out; or it hands out one that was not. -/
def NextR (kvs : List (Int × AV)) (idx : List Nat) (t : Bool) (ks : List AV) (idx' : List Nat) : Prop :=
 (t = false ∧ ks = [] ∧ idx' = idx ∧ ∀ i, i < kvs.length → i ∈ idx) ∨ (t = true ∧ ∃ i kv, kvs[i]? = some kv ∧ i ∉ idx ∧ ks = [.int kv.1, kv.2] ∧ idx' = idx ++ [i])
theorem NextR.no {kvs : List (Int × AV)} {idx idx' : List Nat} {t : Bool} {ks : List AV} (n : NextR kvs idx t ks idx') (ht : t = false) : ks = [] ∧ idx' = idx ∧ ∀ i, i < kvs.length → i ∈ idx := by
 rcases n with ⟨_, h⟩ | ⟨h, _⟩
 ·exact h
 ·rw [ht] at h; cases h
theorem NextR.yes {kvs : List (Int × AV)} {idx idx' : List Nat} {t : Bool} {ks : List AV} (n : NextR kvs idx t ks idx') (ht : t = true) : ∃ i kv, kvs[i]? = some kv ∧ i ∉ idx ∧ ks = [.int kv.1, kv.2] ∧ idx' = idx ++ [i] := by
 rcases n with ⟨h, _⟩ | ⟨_, h⟩
 ·rw [ht] at h; cases h
 ·exact h
theorem own_mapIt {b r : Nat} {kvs : List (Int × AV)} {idx : List Nat} {h' : List HA} (hs : Spl h (.mapIt b r kvs idx) h') : b ∈ owns h ∧ r ∈ owns h := ⟨owns_spl hs (by simp [HA.own]), owns_spl hs (by simp [HA.own])⟩
theorem mapIt_ne {F : Nat → Prop} {w : World} {b r : Nat} {kvs : List (Int × AV)} {idx : List Nat} {h' : List HA} (hr : R F h w) (hs : Spl h (.mapIt b r kvs idx) h') : b ≠ r := by
 have := (owns_perm hs.perm).nodup_iff.1 hr.nd
 intro e
 simp [HA.own, e] at this
theorem oNextR {o : Oper} {x : Operand} {d b r : Nat} {kvs : List (Int × AV)} {idx : List Nat} {h' : List HA} (ho : o.op = .next x false) (hd : o.dst = some d) (hN : d < N) (hx : ev env x = some (.v (.pointer (some ⟨r, 0, none⟩)))) (hs : Spl h (.mapIt b r kvs idx) h')
   (hk : ∀ t ks idx', NextR kvs idx t ks idx' → K ((d, .tup (.bool t :: ks)) :: env) (.mapIt b r kvs idx' :: h')) : AOp P N o env h K := by
 intro B F a w Q s e hdef
 have hr := s.ev hx
 generalize hv : a.eval x = v at hr
 cases hr
 obtain ⟨ents, clock, seen, h1, h2, h3, h4, h5, h6, h7⟩ := s.r.rep _ (spl_mem hs)
 have hlt : ∀ {i x}, ents[i]? = some x → i < kvs.length := fun hi => by rw [← h2]; exact (Array.getElem?_eq_some_iff.1 hi).1
 have hold : ∀ x ∈ ents.toList, x.born < clock := fun x hx => by
   obtain ⟨i, hi⟩ := List.mem_iff_getElem?.1 hx
   have hi : ents[i]? = some x := by simpa using hi
   exact (h3 i _ x (List.getElem?_eq_getElem (hlt hi)) hi).2.2
 unfold Oper.wp
 rcases run_next_at (P := P) w o.type r b clock clock seen ents clock h5 h1 hold (Nat.le_refl _) with ⟨h0, hrun⟩ | ⟨en, hen, w1, hw1, hrun⟩
 ·have hrun2 : (execOp a.eval o).run P w = .ok (.value (.tuple #[.bool false])) w := by simp [execOp, ho, hv, hrun]
  rw [hrun2, Oper.upon_value, hd]
  have hall : ∀ i, i < kvs.length → i ∈ idx := fun i hi => by
    have hi2 : i < ents.size := by omega
    have hno : seen.contains ents[i].born = true := by
      cases hc : seen.contains ents[i].born with
      | true => rfl
      | false =>
        have : ents[i] ∈ leftOf ents seen := by unfold leftOf; simp only [Array.mem_filter]; exact ⟨Array.getElem_mem hi2, by rw [hc]; rfl⟩
        have := Array.size_pos_of_mem this
        omega
    rw [Array.contains_iff_mem] at hno
    obtain ⟨j, hj, hje⟩ := Array.getElem_of_mem hno
    have hjl : j < idx.length := by omega
    obtain ⟨e', he1, he2⟩ := h7 j _ (List.getElem?_eq_getElem hjl)
    rw [Array.getElem?_eq_getElem hj, hje] at he2
    have := h4 i _ _ e' (Array.getElem?_eq_getElem hi2) he1 (Option.some.inj he2)
    rw [this]
    exact List.getElem_mem hjl
  exact ⟨hdef, F, _, _, hk false [] idx (.inl ⟨rfl, rfl, rfl, hall⟩), s.put (Ext.permR hs.perm (.refl F h w)) (s.r.perm hs.perm) hN (.tup _ _ rfl (fun j av x hj hx => by
    match j with
    | 0 => simp at hj hx; subst hj; subst hx; exact .v _
    | j + 1 => simp at hj)), e.permR hs.perm⟩
 ·have hin : en ∈ ents ∧ seen.contains en.born = false := by
    have : en ∈ leftOf ents seen := by simpa using hen
    unfold leftOf at this
    simpa only [Array.mem_filter, Bool.not_eq_true'] using this
  obtain ⟨i, hi, hie⟩ := Array.getElem_of_mem hin.1
  have hi1 : ents[i]? = some en := by rw [Array.getElem?_eq_getElem hi, hie]
  have hil := hlt hi1
  have hni : i ∉ idx := fun hm => by
    obtain ⟨j, hj⟩ := List.mem_iff_getElem?.1 hm
    obtain ⟨e', he1, he2⟩ := h7 j i hj
    rw [hi1] at he1
    cases he1
    have : seen.contains en.born = true := by rw [Array.contains_iff_mem]; exact Array.mem_of_getElem? he2
    rw [hin.2] at this
    cases this
  obtain ⟨g1, g2, g3⟩ := h3 i _ en (List.getElem?_eq_getElem hil) hi1
  have hrun2 : (execOp a.eval o).run P w = .ok (.value (.tuple #[.bool true, en.key, en.val])) (Go.ChangeMaps.setBlock w1 r (.mapIter (some b) clock (seen.push en.born) clock)) := by simp [execOp, ho, hv, hrun]
  have hwh : w1.heap = w.heap ∧ w1.os = w.os ∧ w1.output = w.output ∧ w1.tape = w.tape ∧ w.drawn ≤ w1.drawn := by rcases hw1 with rfl | rfl <;> exact ⟨rfl, rfl, rfl, rfl, by first | exact Nat.le_refl _ | exact Nat.le_succ _⟩
  have hbr := mapIt_ne s.r hs
  have hrlt := s.r.lt r (own_mapIt hs).2
  have hoth : ∀ k, k ≠ r → (Go.ChangeMaps.setBlock w1 r (.mapIter (some b) clock (seen.push en.born) clock)).heap[k]? = w.heap[k]? := fun k hk => by
    show (w1.heap.setIfInBounds r _)[k]? = _
    rw [hwh.1, Array.getElem?_setIfInBounds, if_neg (Ne.symm hk)]
  have hown : (Go.ChangeMaps.setBlock w1 r (.mapIter (some b) clock (seen.push en.born) clock)).heap[r]? = some (.mapIter (some b) clock (seen.push en.born) clock) := by
    show (w1.heap.setIfInBounds r _)[r]? = _
    rw [hwh.1]
    simp [hrlt]
  have hset : ∀ k, F k → (Go.ChangeMaps.setBlock w1 r (.mapIter (some b) clock (seen.push en.born) clock)).heap[k]? = w.heap[k]? := fun k hk => hoth k (fun e => (s.r.sep k hk).2 (e ▸ (own_mapIt hs).2))
  obtain ⟨hR, hE⟩ := s.r.upd (hdr := hwh.2.2.2.2) (w' := Go.ChangeMaps.setBlock w1 r (.mapIter (some b) clock (seen.push en.born) clock)) (x' := .mapIt b r kvs (idx ++ [i])) hs rfl hwh.2.1 hwh.2.2.1 hwh.2.2.2.1 (by show (w1.heap.setIfInBounds r _).size = _; rw [hwh.1]; simp)
    (fun k hk => hoth k (fun e => hk (by simp [HA.own, e])))
    ⟨ents, clock, seen.push en.born, by rw [hoth b hbr]; exact h1, h2, fun i kv e a b => ⟨(h3 i kv e a b).1, (h3 i kv e a b).2.1.mono (fun _ h => h) hset, (h3 i kv e a b).2.2⟩, h4, hown, by simp [h6], fun j k hj => by
      by_cases hjl : j < idx.length
      ·rw [List.getElem?_append_left hjl] at hj
       obtain ⟨e', he1, he2⟩ := h7 j k hj
       exact ⟨e', he1, by rw [Array.getElem?_push, if_neg (by omega)]; exact he2⟩
      ·rw [List.getElem?_append_right (by omega)] at hj
       have hj0 : j = idx.length := by
         have := (List.getElem?_eq_some_iff.1 hj).1
         simp at this
         omega
       subst hj0
       simp at hj
       subst hj
       exact ⟨en, hi1, by rw [Array.getElem?_push, if_pos h6.symm]⟩⟩
  rw [hrun2, Oper.upon_value, hd]
  refine ⟨hdef, F, _, _, hk true _ _ (.inr ⟨rfl, i, kvs[i], List.getElem?_eq_getElem hil, hni, rfl, rfl⟩), s.put hE hR hN (.tup _ _ rfl (fun j av x hj hx => ?_)), e.trans hE⟩
  match j with
  | 0 => simp at hj hx; subst hj; subst hx; exact .v _
  | 1 => simp at hj hx; subst hj; subst hx; rw [g1]; exact .v _
  | 2 => simp at hj hx; subst hj; subst hx; exact g2.mono (fun _ h => h) hset
  | j + 3 => simp at hj
theorem rEntry {o : Oper} {x : Operand} {b r i : Nat} {kv : Int × AV} {kvs : List (Int × AV)} {idx : List Nat} {h' : List HA} (ho : o.op = .entry x) (hx : ev env x = some (.v (.pointer (some ⟨r, 0, none⟩)))) (hs : Spl h (.mapIt b r kvs (idx ++ [i])) h') (hk : kvs[i]? = some kv) :
   ARead P N o env h (.tup [.int kv.1, kv.2]) := by
 intro F a w s
 have hr := s.ev hx
 generalize hv : a.eval x = v at hr
 cases hr
 obtain ⟨ents, clock, seen, h1, h2, h3, h4, h5, h6, h7⟩ := s.r.rep _ (spl_mem hs)
 obtain ⟨en, he1, he2⟩ := h7 idx.length i (by simp)
 obtain ⟨bs, c, rfl⟩ := Array.eq_push_of_size_ne_zero (xs := seen) (by rw [h6]; simp)
 have hbs : bs.size = idx.length := by simpa using h6
 rw [Array.getElem?_push, if_pos hbs.symm] at he2
 obtain rfl := Option.some.inj he2
 obtain ⟨g1, g2, _⟩ := h3 i kv en hk he1
 have hnd : (ents.toList.map (·.born)).Nodup := by
   rw [List.nodup_iff_pairwise_ne, List.pairwise_iff_getElem]
   intro p q hp hq hlt he
   simp only [List.getElem_map, List.length_map] at he hp hq
   have := h4 p q _ _ (Array.getElem?_eq_getElem (by simpa using hp)) (Array.getElem?_eq_getElem (by simpa using hq)) (by simpa using he)
   omega
 refine ⟨.tuple #[en.key, en.val], .tup _ _ rfl (fun j av x hj hx => ?_), fun w' hw => ?_⟩
 ·match j with
  | 0 => simp at hj hx; subst hj; subst hx; rw [g1]; exact .v _
  | 1 => simp at hj hx; subst hj; subst hx; exact g2
  | j + 2 => simp at hj
 ·have k1 := (hw r (.inr (own_mapIt hs).2)).trans h5
  have k2 := (hw b (.inr (own_mapIt hs).1)).trans h1
  have hrun := run_entry_at (P := P) w' r b clock bs ents clock en k1 k2 (by simpa using Array.mem_of_getElem? he1) hnd
  simp [execOp, ho, hv, hrun]
/-- The range is over: the map is a map again. -/
theorem weak_unmap {b r : Nat} {kvs : List (Int × AV)} {idx : List Nat} {h' : List HA} (hs : Spl h (.mapIt b r kvs idx) h') : Weak N env h env (.map b kvs :: h') := by
 intro F a w s
 have hp : (owns h).Perm (b :: r :: owns h') := owns_perm hs.perm
 have sub : ∀ k ∈ owns (HA.map b kvs :: h'), k ∈ owns h := fun k hk => by
   have hk : k ∈ b :: owns h' := hk
   refine hp.mem_iff.2 ?_
   simp only [List.mem_cons] at hk ⊢
   exact hk.imp id .inr
 have nd : (owns (HA.map b kvs :: h')).Nodup := by
   have := hp.nodup_iff.1 s.r.nd
   show (b :: owns h').Nodup
   simp only [List.nodup_cons, List.mem_cons, not_or] at this ⊢
   exact ⟨this.1.2, this.2.2⟩
 refine ⟨F, ⟨s.r.same nd sub (fun y hy => ?_), s.size, s.env⟩, .same sub⟩
 rcases List.mem_cons.1 hy with rfl | hy
 ·obtain ⟨ents, clock, seen, h1, h2, h3, h4, _⟩ := s.r.rep _ (spl_mem hs)
  exact ⟨ents, clock, h1, h2, h3, h4⟩
 ·exact s.r.rep y (hs.perm.mem_iff.2 (by simp [hy]))
/-! ### Maps that are cleared, keys that are deleted -/
theorem oClearM {o : Oper} {t kt et : TypeId} {x : Operand} {b : Nat} {kvs : List (Int × AV)} {h' : List HA} (ho : o.op = .call ⟨.builtin .clear, #[x], #[t]⟩) (hd : o.dst = none) (hx : ev env x = some (.v (.map (some b)))) (hs : Spl h (.map b kvs) h') (hm : mapOf P t = some (kt, et))
   (hk : K env (.map b [] :: h')) : AOp P N o env h K := by
 intro B F a w Q s ex hdef
 obtain ⟨h1, h2⟩ := mapOf_spec hm
 have hr := s.ev hx
 generalize hv : a.eval x = v at hr
 cases hr
 obtain ⟨ents, clock, h3, h4, h5⟩ := map_ents (s.r.rep _ (spl_mem hs))
 have hobj : (getObj b).run P w = .ok (.map ents clock) w := by simp only [getObj, Sem.run, h3]
 have hset : ∀ obj, (setObj b obj).run P w = .ok () { w with heap := w.heap.setIfInBounds b obj } := fun obj => by simp only [setObj, Sem.run, h3]
 obtain ⟨hR, hE⟩ := map_set (kvs' := []) (ents' := #[]) (clock' := clock) s.r hs rfl (fun i kv e a => by simp at a) (fun i j e f a => by simp at a)
 have hrun : (execOp a.eval o).run P w = .ok (.value (.tuple #[])) { w with heap := w.heap.setIfInBounds b (.map #[] clock) } := by
   simp [execOp, ho, resolve, invoke, builtin, hv, Builtin.clear_, run_underlying' h1, hobj, hset]
 unfold Oper.wp
 rw [hrun, Oper.upon_value, hd]
 exact ⟨hdef, F, env, _, hk, s.go hE hR, ex.trans hE⟩
/-! ### Slices that are made -/
theorem qMake {o : Oper} {t e : TypeId} {x y : Operand} {k1 k2 : IntKind} {d n sz by_ : Nat} {nx ny : Int} {zs : List AV} {z : Value} (ho : o.op = .makeSlice t x y) (hd : o.dst = some d) (hN : d < N) (hx : ev env x = some (.v (.int k1 nx))) (hy : ev env y = some (.v (.int k2 ny))) (hnx : nx = (n : Nat)) (hny : ny = (n : Nat))
   (ht : elemOf P t = some (e, sz, by_)) (hz : zeroOf P e = some z) (h1 : z.cells.toList.all (·.oneCell') = true) (hzs : zs.length = sz)
   (hrep : ∀ (F : Nat → Prop) (w : World) (j : Nat) av x, zs[j]? = some av → z.cells[j]? = some x → Rep F w av x) (hb : by_ * n ≤ 281474976710656) (hmx : n ≤ 9223372036854775807)
   (hk : ∀ b, K ((d, .v (slV (some b) n n)) :: env) (.sl (some b) n e sz (List.replicate n zs) :: h)) : AOpQ P N o env h K := by
 subst hnx
 subst hny
 intro B F a w Q s ex hdef
 obtain ⟨hu, i, z', hi, hzz, hisz, hzs', h0, hby⟩ := elemOf_spec ht
 have hze : z' = z := by
   unfold zeroOf at hz
   rw [hi, Option.bind_some, hzz] at hz
   exact Option.some.inj hz
 subst hze
 have hxv := s.ev hx
 have hyv := s.ev hy
 generalize hv : a.eval x = vx at hxv
 generalize hv2 : a.eval y = vy at hyv
 cases hxv
 cases hyv
 have hbb : ((i.bytes : Nat) : Int) * ((n : Nat) : Int) ≤ 281474976710656 := by
   rw [hby]
   have h : ((by_ * n : Nat) : Int) ≤ 281474976710656 := by omega
   rwa [Int.natCast_mul] at h
 have hr := run_make (P := P) w t e i z' hu hi hzz k1 k2 n n (by omega) (Int.le_refl _) hbb (by omega)
 simp only [Int.toNat_natCast, hisz] at hr
 have hcell : ∀ i j, i < n → j < sz → (madeCells z'.cells (n * sz))[i * sz + j]? = z'.cells[j]? := fun i j hi hj => by
   have hlt := idx_lt hi hj
   have hm : (i * sz + j) % z'.cells.size = j := by rw [hzs', Nat.mul_comm, Nat.mul_add_mod, Nat.mod_eq_of_lt hj]
   simp only [madeCells, Array.getElem?_map, Array.getElem?_range, hlt, if_true, Option.map_some, hm]
   simp [hzs', hj]
 obtain ⟨hR, hE, hag⟩ := s.r.new (o := .cells (madeCells z'.cells (n * sz)) e) (x := .sl (some w.heap.size) n e sz (List.replicate n zs)) rfl (by
   have e1 : (List.replicate n zs).length = n := by simp
   rw [HARep, e1]
   refine ⟨(madeCells z'.cells (n * sz)).toList, World.ownsRow_lit w _ n (Nat.zero_le _) (by simp only [maxLen]; omega) (size_madeCells _ _), ?_, ?_, ?_⟩
   ·intro y hy
    rw [List.eq_of_mem_replicate hy, hzs]
   ·intro x hx
    obtain ⟨k, hk'⟩ := List.mem_iff_getElem?.1 hx
    have hk2 : (madeCells z'.cells (n * sz))[k]? = some x := by simpa using hk'
    have hklt : k < n * sz := by have := (Array.getElem?_eq_some_iff.1 hk2).1; rwa [size_madeCells] at this
    have hdiv : k / sz < n := (Nat.div_lt_iff_lt_mul h0).2 hklt
    have := hcell (k / sz) (k % sz) hdiv (Nat.mod_lt _ h0)
    rw [Nat.mul_comm (k / sz) sz, Nat.div_add_mod, hk2] at this
    exact List.all_eq_true.1 h1 x (by simpa using Array.mem_of_getElem? this.symm)
   ·intro i j y av x hi hj hx
    have hil : i < n := by have := (List.getElem?_eq_some_iff.1 hi).1; simpa using this
    have hy : y = zs := List.eq_of_mem_replicate (List.mem_of_getElem? hi)
    subst hy
    have hjl : j < sz := by rw [← hzs]; exact (List.getElem?_eq_some_iff.1 hj).1
    have hx2 : (madeCells z'.cells (n * sz))[i * sz + j]? = some x := by simpa using hx
    rw [hcell i j hil hjl] at hx2
    exact hrep _ _ j av x hj hx2)
 have hrun : (execOp a.eval o).run P w = .ok (.value (slV (some w.heap.size) n n)) (w.alloc (.cells (madeCells z'.cells (n * sz)) e)) := by
   simp [execOp, ho, hv, hv2, hr, slV]
 unfold Oper.wp
 rw [hrun, Oper.upon_value, hd]
 exact ⟨hdef, F, _, _, hk _, s.put hE hR hN (.v _), ex.trans hE, hag, fun _ h => h, fun b hb => .inl (by simp [hb])⟩
/-! ### Cells of an owned slice that are written -/
theorem row_of {F : Nat → Prop} {w : World} {b c e sz : Nat} {es : List (List AV)} (hr : HARep F w (.sl (some b) c e sz es)) : ∃ (cur : Array Value), w.heap[b]? = some (.cells cur e (0, 0)) ∧ es.length ≤ c ∧ c ≤ maxLen ∧ cur.size = c * sz ∧ (∀ y ∈ es, y.length = sz) ∧
   (∀ x ∈ cur.toList.take (es.length * sz), x.oneCell' = true) ∧ ∀ (i j : Nat) y av x, es[i]? = some y → y[j]? = some av → cur[i * sz + j]? = some x → Rep F w av x := by
 obtain ⟨xs, ⟨h1, h2⟩, h3, h4, h5⟩ := hr
 rcases h2 with ⟨hv, _⟩ | ⟨g', cap, cur, hv, _, hg, hnc, hcm, hcs, htake⟩
 ·simp [slV] at hv
 ·simp only [slV, Option.map_some, Value.slice.injEq, Option.some.injEq, Addr.mk.injEq, and_true, true_and] at hv
  obtain ⟨rfl, rfl⟩ := hv
  refine ⟨cur, hg, hnc, hcm, hcs, h3, by rw [htake]; exact h4, fun i j y av x hi hj hx => h5 i j y av x hi hj ?_⟩
  have hil := (List.getElem?_eq_some_iff.1 hi).1
  have hjl : j < sz := by rw [← h3 y (List.mem_of_getElem? hi)]; exact (List.getElem?_eq_some_iff.1 hj).1
  rw [← htake, List.getElem?_take_of_lt (idx_lt hil hjl)]
  simpa using hx
/-- A part of the cells is written. -/
theorem R.wrote {F : Nat → Prop} {w : World} {b c e sz : Nat} {es es' : List (List AV)} {h' : List HA} (r : R F h w) (hs : Spl h (.sl (some b) c e sz es) h') {cur cells : Array Value} {q : Nat} (hg : w.heap[b]? = some (.cells cur e (0, 0))) (hfit : q + cells.size ≤ es.length * sz) (h1 : ∀ x ∈ cells, x.oneCell' = true)
   (hl : es'.length = es.length) (hz : ∀ y ∈ es', y.length = sz)
   (hnew : ∀ (i j : Nat) y av, es'[i]? = some y → y[j]? = some av → (q ≤ i * sz + j ∧ i * sz + j < q + cells.size ∧ ∀ x, cells[i * sz + j - q]? = some x → Rep F w av x) ∨ (¬ (q ≤ i * sz + j ∧ i * sz + j < q + cells.size) ∧ ∃ y0, es[i]? = some y0 ∧ y0[j]? = some av)) :
   R F (.sl (some b) c e sz es' :: h') (w.setRow b (cur.toList.take q ++ cells.toList ++ cur.toList.drop (q + cells.size)).toArray) ∧ Ext F h w F (.sl (some b) c e sz es' :: h') (w.setRow b (cur.toList.take q ++ cells.toList ++ cur.toList.drop (q + cells.size)).toArray) := by
 obtain ⟨cur2, hg2, hnc, hcm, hcs, hzz, hone, hrep⟩ := row_of (r.rep _ (spl_mem hs))
 rw [hg] at hg2
 cases hg2
 have hcl : es.length * sz ≤ cur.size := by rw [hcs]; exact Nat.mul_le_mul_right _ hnc
 have hset : ∀ k, F k → (w.setRow b (cur.toList.take q ++ cells.toList ++ cur.toList.drop (q + cells.size)).toArray).heap[k]? = w.heap[k]? := fun k hk => setRow_other w b k _ (fun e => (r.sep k hk).2 (e ▸ own_sl hs))
 have hget : ∀ k, (cur.toList.take q ++ cells.toList ++ cur.toList.drop (q + cells.size))[k]? = if q ≤ k ∧ k < q + cells.size then cells[k - q]? else cur[k]? := fun k => by
   rw [splice_get (n := cells.size) (by simp) (by simp; omega)]
   simp
 refine r.upd (x' := .sl (some b) c e sz es') hs rfl rfl rfl rfl (by simp) (fun k hk => setRow_other w b k _ (by simpa [HA.own] using hk)) ?_
 rw [HARep, hl]
 refine ⟨(cur.toList.take q ++ cells.toList ++ cur.toList.drop (q + cells.size)).take (es.length * sz), ⟨?_, .inr ⟨b, c, _, rfl, Nat.zero_le _, setRow_heap w b cur _ e _ hg, hnc, hcm, ?_, rfl⟩⟩, hz, ?_, ?_⟩
 ·simp only [List.length_take, List.length_append, List.length_drop, Array.length_toList]
  omega
 ·simp only [List.size_toArray, List.length_append, List.length_take, List.length_drop, Array.length_toList]
  omega
 ·intro x hx
  obtain ⟨k, hk⟩ := List.mem_iff_getElem?.1 hx
  have hkl : k < es.length * sz := by have := (List.getElem?_eq_some_iff.1 hk).1; simp at this; omega
  rw [List.getElem?_take_of_lt hkl, hget] at hk
  split at hk
  ·exact h1 x (Array.mem_of_getElem? hk)
  ·exact hone x (List.mem_of_getElem? (i := k) (by rw [List.getElem?_take_of_lt hkl]; simpa using hk))
 ·intro i j y av x hi hj hx
  have hil : i < es.length := by rw [← hl]; exact (List.getElem?_eq_some_iff.1 hi).1
  have hjl : j < sz := by rw [← hz y (List.mem_of_getElem? hi)]; exact (List.getElem?_eq_some_iff.1 hj).1
  rw [List.getElem?_take_of_lt (idx_lt hil hjl), hget] at hx
  rcases hnew i j y av hi hj with ⟨a1, a2, a3⟩ | ⟨a1, y0, a2, a3⟩
  ·rw [if_pos ⟨a1, a2⟩] at hx
   exact (a3 x hx).mono (fun _ h => h) hset
  ·rw [if_neg a1] at hx
   exact (hrep i j y0 av x a2 a3 hx).mono (fun _ h => h) hset
/-- A store into an element of a slice of the call's own. -/
theorem oStS {o : Oper} {t : TypeId} {x y : Operand} {n b q c e sz i j : Nat} {g : Bool} {es : List (List AV)} {yy : List AV} {av : AV} {h' : List HA} (ho : o.op = .store t x y) (hd : o.dst = none) (hx : ev env x = some (.v (.pointer (some ⟨b, q, none⟩)))) (hy : ev env y = some av)
   (hs : Spl h (.sl (some b) c e sz es) h') (ht : tyOf P t = some (n, g)) (hn : (avCells av).length = n) (hq : q = i * sz + j) (he : es[i]? = some yy) (hp : j + n ≤ sz) (h1 : oneOf av = true) (hk : K env (.sl (some b) c e sz (es.set i (setCells yy j (avCells av))) :: h')) : AOp P N o env h K := by
 subst hq
 intro B F a w Q s ex hdef
 have hr := s.ev hx
 generalize hv : a.eval x = v at hr
 cases hr
 have hy := s.ev hy
 obtain ⟨cur, hg, hnc, hcm, hcs, hzz', hone, hrep⟩ := row_of (s.r.rep _ (spl_mem hs))
 obtain ⟨h6, h7⟩ := rep_cells hy
 have hil := (List.getElem?_eq_some_iff.1 he).1
 have hyl := hzz' yy (List.mem_of_getElem? he)
 have h8 : (a.eval y).cells.size = n := by rw [h6, hn]
 have hend : i * sz + sz ≤ es.length * sz := by have := Nat.mul_le_mul_right sz (show i + 1 ≤ es.length by omega); rwa [Nat.add_mul, Nat.one_mul] at this
 have hcl : es.length * sz ≤ cur.size := by rw [hcs]; exact Nat.mul_le_mul_right _ hnc
 have hrun := run_storeAt (P := P) (p := i * sz + j) ht hg h8 (by omega) (rep_one hy h1)
 rw [← h8] at hrun
 obtain ⟨hR, hE⟩ := s.r.wrote (es' := es.set i (setCells yy j (avCells av))) (cells := (a.eval y).cells) (q := i * sz + j) hs hg (by omega) (rep_one hy h1) (by simp) (by
   intro z hz
   rcases List.mem_or_eq_of_mem_set hz with hz | rfl
   ·exact hzz' z hz
   ·rw [setCells_length, hyl]) (by
   intro i2 j2 z av2 hi2 hj2
   by_cases hii : i = i2
   ·subst hii
    rw [List.getElem?_set_self hil] at hi2
    obtain rfl := Option.some.inj hi2
    rw [setCells_get _ _ _ _ (by rw [hn, hyl]; exact hp)] at hj2
    rw [hn] at hj2
    by_cases hj : j ≤ j2 ∧ j2 < j + n
    ·rw [if_pos hj] at hj2
     refine .inl ⟨by omega, by omega, fun x hx => h7 _ av2 x hj2 ?_⟩
     rwa [show i * sz + j2 - (i * sz + j) = j2 - j by omega] at hx
    ·rw [if_neg hj] at hj2
     exact .inr ⟨by omega, yy, he, hj2⟩
   ·rw [List.getElem?_set_ne hii] at hi2
    have hj2l : j2 < sz := by rw [← hzz' z (List.mem_of_getElem? hi2)]; exact (List.getElem?_eq_some_iff.1 hj2).1
    refine .inr ⟨fun hh => ?_, z, hi2, hj2⟩
    rcases Nat.lt_or_gt_of_ne hii with h | h
    ·have := Nat.mul_le_mul_right sz (show i + 1 ≤ i2 by omega)
     rw [Nat.add_mul, Nat.one_mul] at this
     omega
    ·have := Nat.mul_le_mul_right sz (show i2 + 1 ≤ i by omega)
     rw [Nat.add_mul, Nat.one_mul] at this
     omega)
 have hrun2 : (execOp a.eval o).run P w = .ok .skip (w.setRow b (cur.toList.take (i * sz + j) ++ (a.eval y).cells.toList ++ cur.toList.drop (i * sz + j + (a.eval y).cells.size)).toArray) := by
   simp only [execOp, ho, hv, Sem.run_bind, hrun, Result.andThen_ok, Sem.run_pure]
 unfold Oper.wp
 rw [hrun2, Oper.upon_skip, hd]
 exact ⟨hdef, F, env, _, hk, s.go hE hR, ex.trans hE⟩
end A
end Go.Proofs.YthkgdhamnpiagaaGreat
