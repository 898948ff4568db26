/- Maps from whole numbers to values of one kind: reads, writes, keys taken away. Over any program. -/
import Derived.Test.YtmcannmjielalaaAbs24
import Derived.Test.YtmcannmjielalaaAbs18
set_option linter.unusedVariables false
set_option linter.unusedSimpArgs false
namespace Go.Proofs.Ytmcannmjielalaa
namespace A

variable {P : Program} {N : Nat} {env : Env} {h : List HA} {K : Cont} {X : List (Nat × Cont)} {Rt : Cont}

/-! ### Lists of keys and values -/
section
variable {β : Type}
def mGet : List (Int × β) → Int → Option β
  | [], _ => none
  | (k, v) :: t, n => if n = k then some v else mGet t n
def mPut : List (Int × β) → Int → β → List (Int × β)
  | [], n, v => [(n, v)]
  | (k, u) :: t, n, v => if n = k then (n, v) :: t else (k, u) :: mPut t n v
def mDel : List (Int × β) → Int → List (Int × β)
  | [], _ => []
  | (k, u) :: t, n => if n = k then t else (k, u) :: mDel t n
def mKeys (m : List (Int × β)) : List Int := m.map Prod.fst
def kvM (c : β → AV) (m : List (Int × β)) : List (Int × AV) := m.map fun p => (p.1, c p.2)
theorem kvM_get (c : β → AV) (n : Int) : ∀ m : List (Int × β), kvGet (kvM c m) n = (mGet m n).map c
  | [] => rfl
  | (k, v) :: t => by
    show (if n = k then some (c v) else kvGet (kvM c t) n) = _
    rw [kvM_get c n t]
    simp only [mGet]
    split <;> rfl
theorem kvM_put (c : β → AV) (n : Int) (v : β) : ∀ m : List (Int × β), kvPut (kvM c m) n (c v) = kvM c (mPut m n v)
  | [] => rfl
  | (k, u) :: t => by
    show (if n = k then (n, c v) :: kvM c t else (k, c u) :: kvPut (kvM c t) n (c v)) = _
    rw [kvM_put c n v t]
    simp only [mPut]
    split <;> rfl
theorem kvM_del (c : β → AV) (n : Int) : ∀ m : List (Int × β), kvDel (kvM c m) n = kvM c (mDel m n)
  | [] => rfl
  | (k, u) :: t => by
    show (if n = k then kvM c t else (k, c u) :: kvDel (kvM c t) n) = _
    rw [kvM_del c n t]
    simp only [mDel]
    split <;> rfl
theorem kvM_len (c : β → AV) (m : List (Int × β)) : (kvM c m).length = m.length := List.length_map _
theorem kvM_keys (c : β → AV) (m : List (Int × β)) : (kvM c m).map Prod.fst = mKeys m := by simp [kvM, mKeys, List.map_map, Function.comp_def]
theorem mGet_put {n k : Int} {v : β} : ∀ {m : List (Int × β)}, mGet (mPut m k v) n = if n = k then some v else mGet m n
  | [] => by simp [mPut, mGet]
  | (j, u) :: t => by
    simp only [mPut]
    by_cases h : k = j
    · subst h
      rw [if_pos rfl]
      simp only [mGet]
      split <;> rfl
    · rw [if_neg h]
      simp only [mGet, mGet_put (m := t)]
      by_cases h2 : n = j
      · subst h2; rw [if_pos rfl, if_neg (fun e => h e.symm), if_pos rfl]
      · rw [if_neg h2, if_neg h2]
theorem mGet_mem {n : Int} : ∀ {m : List (Int × β)}, (mGet m n).isSome = true ↔ n ∈ mKeys m
  | [] => by simp [mGet, mKeys]
  | (k, v) :: t => by
    have ih := mGet_mem (n := n) (m := t)
    simp only [mGet, mKeys, List.map_cons, List.mem_cons]
    by_cases h : n = k
    · subst h; simp
    · rw [if_neg h, ih]; simp [h, mKeys]
theorem mPut_keys {n k : Int} {v : β} {m : List (Int × β)} : n ∈ mKeys (mPut m k v) ↔ n = k ∨ n ∈ mKeys m := by
  rw [← mGet_mem, mGet_put, ← mGet_mem]
  split <;> simp_all
theorem mPut_nodup {k : Int} {v : β} : ∀ {m : List (Int × β)}, (mKeys m).Nodup → (mKeys (mPut m k v)).Nodup
  | [], _ => by simp [mPut, mKeys]
  | (j, u) :: t, h => by
    have h' := List.nodup_cons.1 (show (j :: mKeys t).Nodup from h)
    simp only [mPut]
    by_cases hk : k = j
    · subst hk; rw [if_pos rfl]; exact h
    · rw [if_neg hk]
      refine List.nodup_cons.2 ⟨fun hm => ?_, mPut_nodup h'.2⟩
      rcases mPut_keys.1 hm with e | e
      · exact hk e.symm
      · exact h'.1 e
theorem mDel_get {n k : Int} : ∀ {m : List (Int × β)}, (mKeys m).Nodup → mGet (mDel m k) n = if n = k then none else mGet m n
  | [], _ => by simp [mDel, mGet]
  | (j, u) :: t, h => by
    have h' := List.nodup_cons.1 (show (j :: mKeys t).Nodup from h)
    have hj : mGet t j = none := by
      cases hg : mGet t j with
      | none => rfl
      | some v => exact absurd (mGet_mem.1 (by rw [hg]; rfl)) h'.1
    simp only [mDel]
    by_cases hk : k = j
    · subst hk
      rw [if_pos rfl]
      by_cases h2 : n = k
      · subst h2; rw [if_pos rfl, hj]
      · rw [if_neg h2]; simp only [mGet]; rw [if_neg h2]
    · rw [if_neg hk]
      simp only [mGet, mDel_get h'.2]
      by_cases h2 : n = j
      · subst h2; rw [if_pos rfl, if_neg (fun e => hk e.symm), if_pos rfl]
      · rw [if_neg h2, if_neg h2]
theorem mDel_nodup {k : Int} {m : List (Int × β)} (h : (mKeys m).Nodup) : (mKeys (mDel m k)).Nodup := by
  have hs : ∀ m : List (Int × β), (mDel m k).Sublist m := fun m => by
    induction m with
    | nil => exact .slnil
    | cons p t ih =>
      obtain ⟨j, u⟩ := p
      simp only [mDel]
      split
      · exact List.sublist_cons_self _ _
      · exact ih.cons_cons _
  exact h.sublist ((hs m).map Prod.fst)
theorem mPut_len {k : Int} {v : β} : ∀ {m : List (Int × β)}, (mPut m k v).length ≤ m.length + 1
  | [] => by simp [mPut]
  | (j, u) :: t => by
    have := mPut_len (k := k) (v := v) (m := t)
    simp only [mPut]
    split <;> simp <;> omega
/-- Keys without repetition, all from a range: not too many. -/
theorem nodup_len {l : List Int} (h : l.Nodup) {n : Nat} (hr : ∀ x ∈ l, 0 ≤ x ∧ x < n) : l.length ≤ n := by
  have h2 : (l.map Int.toNat).Nodup := by
    rw [List.nodup_iff_pairwise_ne, List.pairwise_map]
    rw [List.nodup_iff_pairwise_ne] at h
    refine (List.pairwise_iff_getElem.2 fun i j hi hj hij => ?_)
    have := List.pairwise_iff_getElem.1 h i j hi hj hij
    have a := hr _ (List.getElem_mem hi)
    have b := hr _ (List.getElem_mem hj)
    omega
  have h3 := Idx.len (n := n) (idx := l.map Int.toNat) ⟨h2, fun i hi => by
    obtain ⟨x, hx, rfl⟩ := List.mem_map.1 hi
    have := hr x hx
    omega⟩
  simpa using h3
theorem mLen {m : List (Int × β)} (h : (mKeys m).Nodup) {n : Nat} (hr : ∀ x ∈ mKeys m, 0 ≤ x ∧ x < n) : m.length ≤ n := by
  have := nodup_len h hr
  simpa [mKeys] using this
end

theorem pMin {o : Oper} {xo yo : Operand} {ts : Array TypeId} {k k' : IntKind} {x y : Int} (ho : o.op = .call ⟨.builtin .min, #[xo, yo], ts⟩ := by rfl) (hx : ev env xo = some (.v (.int k x)) := by rfl) (hy : ev env yo = some (.v (.int k' y)) := by rfl) : APure P N o env (.v (.int k (min x y))) := pMin2 ho hx hy (by split <;> omega)
theorem pMax {o : Oper} {xo yo : Operand} {ts : Array TypeId} {k k' : IntKind} {x y : Int} (ho : o.op = .call ⟨.builtin .max, #[xo, yo], ts⟩ := by rfl) (hx : ev env xo = some (.v (.int k x)) := by rfl) (hy : ev env yo = some (.v (.int k' y)) := by rfl) : APure P N o env (.v (.int k (max x y))) := pMax2 ho hx hy (by split <;> omega)

/-! ### Operations -/
section
variable {o : Oper} {t kt et : TypeId} {x i y : Operand} {b : Nat} {n : Int} {β : Type} {c : β → AV} {m : List (Int × β)} {z : Value} {h' : List HA} {v z0 : β}
theorem rMG (hm : mapOf P t = some (kt, et)) (hz : zeroOf P et = some z) (z0 : β) (hc : Cast (.v z) (c z0)) (ho : o.op = .lookup t x i false := by rfl) (hx : ev env x = some (.v (.map (some b))) := by rfl) (hi : ev env i = some (.int n) := by rfl) (hs : Spl h (.map b (kvM c m)) h' := by repeat constructor) : ARead P N o env h (c ((mGet m n).getD z0)) :=
  rCast (rLook ho hx hi hs hm hz rfl) (by rw [kvM_get]; cases mGet m n with | none => exact hc | some v => exact .refl)
theorem rMGo (hm : mapOf P t = some (kt, et)) (hz : zeroOf P et = some z) (z0 : β) (hc : Cast (.v z) (c z0)) (ho : o.op = .lookup t x i true := by rfl) (hx : ev env x = some (.v (.map (some b))) := by rfl) (hi : ev env i = some (.int n) := by rfl) (hs : Spl h (.map b (kvM c m)) h' := by repeat constructor) : ARead P N o env h (.tup [c ((mGet m n).getD z0), .bool (mGet m n).isSome]) :=
  rCast (rLookOk ho hx hi hs hm hz rfl) (by
    rw [kvM_get]
    intro F w x hx
    cases hg : mGet m n with
    | some v => rw [hg] at hx; exact hx
    | none =>
      rw [hg] at hx
      cases hx with
      | tup _ xs hl hR =>
        refine .tup _ xs hl (fun j av y hj hy => ?_)
        match j with
        | 0 => simp at hj; subst hj; exact hc F w y (hR 0 _ y rfl hy)
        | 1 => simp at hj; subst hj; exact hR 1 _ y rfl hy
        | j + 2 => simp at hj)
theorem oMP (ho : o.op = .mapUpdate t x i y) (hd : o.dst = none) (hx : ev env x = some (.v (.map (some b)))) (hi : ev env i = some (.int n)) (hm : mapOf P t = some (kt, et)) (k : K env (.map b (kvM c (mPut m n v)) :: h')) (hs : Spl h (.map b (kvM c m)) h' := by repeat constructor) (hy : ev env y = some (c v) := by rfl) : AOp P N o env h K :=
  oMapSet ho hd hx hi hy hs hm (by rw [kvM_put]; exact k)
/-- 'delete(m, k)' -/
theorem oMapDel {kvs : List (Int × AV)} {tk : TypeId} (ho : o.op = .call ⟨.builtin .delete, #[x, i], #[t, tk]⟩) (hd : o.dst = none) (hx : ev env x = some (.v (.map (some b)))) (hi : ev env i = some (.int n)) (hs : Spl h (.map b kvs) h') (hm : mapOf P t = some (kt, et))
    (hk : K env (.map b (kvDel kvs n) :: h')) : AOp P N o env h K := by
  intro B F a w Q s ex hdef
  obtain ⟨h1, h2⟩ := mapOf_spec hm
  have hr := s.ev hx
  have hri := s.ev hi
  generalize hv : a.eval x = v at hr
  generalize hvi : a.eval i = vi at hri
  cases hr
  cases hri
  obtain ⟨ents, clock, h3, h4, h5⟩ := map_ents (s.r.rep _ (spl_mem hs))
  obtain ⟨hl, hel⟩ := ents_to h4
  simp only [Array.length_toList, Array.getElem?_toList] at hl hel
  have hobj : (getObj b).run P w = .ok (.map ents clock) w := by simp only [getObj, Sem.run, h3]
  have hset : ∀ obj, (setObj b obj).run P w = .ok () { w with heap := w.heap.setIfInBounds b obj } := fun obj => by simp only [setObj, Sem.run, h3]
  unfold Oper.wp
  rcases find_ents (n := n) 0 h4 with ⟨h6, h7⟩ | ⟨j, e, av0, h6, h8, h9, h10, h11⟩
  · have hrun : (execOp a.eval o).run P w = .ok (.value (.tuple #[])) { w with heap := w.heap.setIfInBounds b (.map ents clock) } := by
      simp [execOp, ho, resolve, invoke, builtin, hv, hvi, Builtin.delete_, run_underlying' h1, hobj, run_checkKey h2, run_findKey h2 h6, hset]
    obtain ⟨hR, hE⟩ := map_set (kvs' := kvDel kvs n) (ents' := ents) (clock' := clock) s.r hs (by rw [kvDel_none h7]; exact hl) (fun i kv e hkv he => by rw [kvDel_none h7] at hkv; exact hel i kv e hkv he) h5
    rw [hrun, Oper.upon_value, hd]
    exact ⟨hdef, F, env, _, hk, s.go hE hR, ex.trans hE⟩
  · simp only [Array.getElem?_toList] at h8
    have hjl := (Array.getElem?_eq_some_iff.1 h8).1
    have hrun : (execOp a.eval o).run P w = .ok (.value (.tuple #[])) { w with heap := w.heap.setIfInBounds b (.map (ents.eraseIdxIfInBounds j) clock) } := by
      simp [execOp, ho, resolve, invoke, builtin, hv, hvi, Builtin.delete_, run_underlying' h1, hobj, run_checkKey h2, run_findKey h2 h6, hset]
    have her : (ents.eraseIdxIfInBounds j).toList = ents.toList.eraseIdx j := by simp [Array.eraseIdxIfInBounds, hjl]
    have hget : ∀ i, (ents.eraseIdxIfInBounds j)[i]? = (ents.toList.eraseIdx j)[i]? := fun i => by rw [← her, Array.getElem?_toList]
    obtain ⟨hR, hE⟩ := map_set (kvs' := kvDel kvs n) (ents' := ents.eraseIdxIfInBounds j) (clock' := clock) s.r hs (by
        rw [kvDel_old h9 h11, List.length_eraseIdx, ← Array.length_toList, her, List.length_eraseIdx, Array.length_toList, hl]) (fun i kv e hkv he => by
        rw [kvDel_old h9 h11, List.getElem?_eraseIdx] at hkv
        rw [hget, List.getElem?_eraseIdx] at he
        simp only [Array.getElem?_toList] at he
        split at hkv
        · rename_i hij; rw [if_pos hij] at he; exact hel i kv e hkv he
        · rename_i hij; rw [if_neg hij] at he; exact hel (i + 1) kv e hkv he) (fun i k e f hi hk hb => by
        rw [hget, List.getElem?_eraseIdx] at hi hk
        simp only [Array.getElem?_toList] at hi hk
        split at hi <;> split at hk
        · exact h5 i k e f hi hk hb
        · have := h5 i (k + 1) e f hi hk hb; omega
        · have := h5 (i + 1) k e f hi hk hb; omega
        · have := h5 (i + 1) (k + 1) e f hi hk hb; omega)
    rw [hrun, Oper.upon_value, hd]
    exact ⟨hdef, F, env, _, hk, s.go hE hR, ex.trans hE⟩
theorem oMD {tk : TypeId} (ho : o.op = .call ⟨.builtin .delete, #[x, i], #[t, tk]⟩) (hd : o.dst = none) (hx : ev env x = some (.v (.map (some b)))) (hi : ev env i = some (.int n)) (hm : mapOf P t = some (kt, et)) (k : K env (.map b (kvM c (mDel m n)) :: h')) (hs : Spl h (.map b (kvM c m)) h' := by repeat constructor) : AOp P N o env h K :=
  oMapDel ho hd hx hi hs hm (by rw [kvM_del]; exact k)
theorem oMapIns {kvs : List (Int × AV)} {av : AV} (ho : o.op = .insert t x i y) (hd : o.dst = none) (hx : ev env x = some (.v (.map (some b)))) (hi : ev env i = some (.int n)) (hy : ev env y = some av) (hs : Spl h (.map b kvs) h') (hm : mapOf P t = some (kt, et)) (hk : K env (.map b (kvPut kvs n av) :: h')) : AOp P N o env h K := by
  have key := oMapSet (N := N) (o := { o with op := .mapUpdate t x i y }) rfl hd hx hi hy hs hm hk
  intro B F a w Q s e hdef
  have := key B F a w Q s e hdef
  unfold Oper.wp at this ⊢
  have he : execOp a.eval o = execOp a.eval { o with op := .mapUpdate t x i y } := by simp [execOp, ho]
  rw [he]
  exact this
theorem oMI (ho : o.op = .insert t x i y) (hd : o.dst = none) (hx : ev env x = some (.v (.map (some b)))) (hi : ev env i = some (.int n)) (hm : mapOf P t = some (kt, et)) (k : K env (.map b (kvM c (mPut m n v)) :: h')) (hs : Spl h (.map b (kvM c m)) h' := by repeat constructor) (hy : ev env y = some (c v) := by rfl) : AOp P N o env h K :=
  oMapIns ho hd hx hi hy hs hm (by rw [kvM_put]; exact k)
/-- A map without keys. -/
theorem qMM {d : Nat} (c : β → AV) (ho : o.op = .makeMap t none) (k : ∀ b, K ((d, .v (.map (some b))) :: env) (.map b (kvM c []) :: h)) (hd : o.dst = some d := by rfl) (hN : d < N := by decide) : AOpQ P N o env h K := qMakeMap ho hd hN k
theorem rMGi {m : List (Int × Int)} (hm : mapOf P t = some (kt, et)) (hz : zeroOf P et = some (.int .i64 0)) (ho : o.op = .lookup t x i false := by rfl) (hx : ev env x = some (.v (.map (some b))) := by rfl) (hi : ev env i = some (.int n) := by rfl) (hs : Spl h (.map b (kvM inA m)) h' := by repeat constructor) : ARead P N o env h (.int ((mGet m n).getD 0)) := rMG (c := inA) hm hz 0 .refl ho hx hi hs
theorem rMGb {m : List (Int × Bool)} (hm : mapOf P t = some (kt, et)) (hz : zeroOf P et = some (.bool false)) (ho : o.op = .lookup t x i false := by rfl) (hx : ev env x = some (.v (.map (some b))) := by rfl) (hi : ev env i = some (.int n) := by rfl) (hs : Spl h (.map b (kvM boA m)) h' := by repeat constructor) : ARead P N o env h (.bool ((mGet m n).getD false)) := rMG (c := boA) hm hz false .refl ho hx hi hs
theorem rMGs {α : Type} {f : α → List AV} {sz : Nat} {m : List (Int × List α)} (hm : mapOf P t = some (kt, et)) (hz : zeroOf P et = some (.slice none 0 0)) (ho : o.op = .lookup t x i false := by rfl) (hx : ev env x = some (.v (.map (some b))) := by rfl) (hi : ev env i = some (.int n) := by rfl) (hs : Spl h (.map b (kvM (fun l => AV.sl sz (l.map f)) m)) h' := by repeat constructor) : ARead P N o env h (.sl sz (((mGet m n).getD []).map f)) := rMG (c := fun l => AV.sl sz (l.map f)) hm hz [] cast_nil ho hx hi hs
theorem rMGio {m : List (Int × Int)} (hm : mapOf P t = some (kt, et)) (hz : zeroOf P et = some (.int .i64 0)) (ho : o.op = .lookup t x i true := by rfl) (hx : ev env x = some (.v (.map (some b))) := by rfl) (hi : ev env i = some (.int n) := by rfl) (hs : Spl h (.map b (kvM inA m)) h' := by repeat constructor) : ARead P N o env h (.tup [.int ((mGet m n).getD 0), .bool (mGet m n).isSome]) := rMGo (c := inA) hm hz 0 .refl ho hx hi hs
theorem rMGbo {m : List (Int × Bool)} (hm : mapOf P t = some (kt, et)) (hz : zeroOf P et = some (.bool false)) (ho : o.op = .lookup t x i true := by rfl) (hx : ev env x = some (.v (.map (some b))) := by rfl) (hi : ev env i = some (.int n) := by rfl) (hs : Spl h (.map b (kvM boA m)) h' := by repeat constructor) : ARead P N o env h (.tup [.bool ((mGet m n).getD false), .bool (mGet m n).isSome]) := rMGo (c := boA) hm hz false .refl ho hx hi hs
theorem rMGso {α : Type} {f : α → List AV} {sz : Nat} {m : List (Int × List α)} (hm : mapOf P t = some (kt, et)) (hz : zeroOf P et = some (.slice none 0 0)) (ho : o.op = .lookup t x i true := by rfl) (hx : ev env x = some (.v (.map (some b))) := by rfl) (hi : ev env i = some (.int n) := by rfl) (hs : Spl h (.map b (kvM (fun l => AV.sl sz (l.map f)) m)) h' := by repeat constructor) : ARead P N o env h (.tup [.sl sz (((mGet m n).getD []).map f), .bool (mGet m n).isSome]) := rMGo (c := fun l => AV.sl sz (l.map f)) hm hz [] cast_nil ho hx hi hs
end

end A
end Go.Proofs.Ytmcannmjielalaa
