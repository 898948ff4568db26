/- Texts that EcmpLeast's proof rests on, part 12. -/
import Derived.WideKeyRuns
import Derived.Test.YtmcannmjielalaaS10EcmpLeast
set_option linter.unusedVariables false
set_option linter.unusedSimpArgs false
set_option linter.unusedSectionVars false
namespace Go.Proofs.Ytmcannmjielalaa
namespace A
variable {P : Program} {N : Nat} {env : Env} {h : List HA} {K : Cont} {X : List (Nat × Cont)} {Rt : Cont}
section
variable {κ β : Type} [DecidableEq κ]
end
def keyV {κ : Type} (kf : κ → List Value) (a : κ) : Value := .agg (kf a).toArray
def keyA {κ : Type} (kf : κ → List Value) (a : κ) : AV := .agg ((kf a).map .v)
theorem rep_keyV {κ : Type} {kf : κ → List Value} {a : κ} (h1 : (kf a).all (·.oneCell') = true) (F : Nat → Prop) (w : World) : Rep F w (keyA kf a) (keyV kf a) :=
  .agg _ _ (by simp) (fun x hx => List.all_eq_true.1 h1 x (by simpa using hx)) (fun j av x hj hx => by
    rw [List.getElem?_map] at hj
    simp only [List.getElem?_toArray] at hx
    rw [hx] at hj
    simp at hj
    subst hj
    exact .v _)
section
variable {xs : Array Value}
end
section
variable {κ : Type} [DecidableEq κ] {kf : κ → List Value} {kt : TypeId} {n : Nat} {l : List (Nat × EQ)}
variable {β : Type} {c : β → AV}
variable {o : Oper} {t et : TypeId} {x i y : Operand} {b : Nat} {m : List (κ × β)} {a : κ} {z : Value} {h' : List HA} {v : β}
theorem cast_key {κ : Type} {kf : κ → List Value} {a : κ} (h1 : (kf a).all (·.oneCell') = true) : Cast (.v (keyV kf a)) (keyA kf a) := fun F w x hx => by cases hx; exact rep_keyV h1 F w
end
end A
end Go.Proofs.Ytmcannmjielalaa
set_option linter.unusedVariables false
set_option linter.unusedSimpArgs false
set_option linter.unusedSectionVars false
namespace Go.Proofs.Ytmcannmjielalaa
namespace A
variable {P : Program} {N : Nat} {env : Env} {h : List HA} {K : Cont} {X : List (Nat × Cont)} {Rt : Cont}
/-- A whole element of a slice of one's own. -/
theorem oStE {o : Oper} {t : TypeId} {x y : Operand} {b c e sz : Nat} {g : Bool} {α : Type} {fC : α → List AV} {l : List α} {a : α} {i : Int} {av : AV} {h' : List HA} (ho : o.op = .store t x y) (hd : o.dst = none) (hx : ev env x = some (.v (.pointer (some ⟨b, 0 + i.toNat * sz, none⟩)))) (hy : ev env y = some av)
    (ht : tyOf P t = some (sz, g)) (hk : K env (.sl (some b) c e sz ((l.set i.toNat a).map fC) :: h')) (hs : Spl h (.sl (some b) c e sz (l.map fC)) h' := by repeat constructor) (ha : avCells av = fC a := by rfl) (hn : ∀ z, (fC z).length = sz := by intro z; rfl) (h1 : oneOf av = true := by rfl) (hi : i.toNat < l.length := by omega) : AOp P N o env h K := by
  obtain ⟨z, hz⟩ : ∃ z, l[i.toNat]? = some z := ⟨_, List.getElem?_eq_getElem hi⟩
  refine oStS (j := 0) (yy := fC z) ho hd hx hy hs ht (by rw [ha, hn]) (by omega) (map_get hz) (by omega) h1 ?_
  rw [ha, setCells_all (by rw [hn, hn])]
  rw [← List.map_set]
  exact hk
/-! ### Maps whose values are slices of one's own -/
structure SlE (α : Type) where
  g : Option Nat
  c : Nat
  l : List α
def slE {α : Type} (s : SlE α) : AV := .v (slV s.g s.l.length s.c)
def slH {α : Type} (e : TypeId) (sz : Nat) (f : α → List AV) (s : SlE α) : HA := .sl s.g s.c e sz (s.l.map f)
def msH {α : Type} (e : TypeId) (sz : Nat) (f : α → List AV) (m : List (Int × SlE α)) : List HA := m.map fun p => slH e sz f p.2
section
variable {α : Type} {e : TypeId} {sz : Nat} {f : α → List AV}
theorem mDel_perm {β : Type} {n : Int} {v : β} : ∀ {m : List (Int × β)}, mGet m n = some v → m.Perm ((n, v) :: mDel m n)
  | [], h => by cases h
  | (k, u) :: t, h => by
    simp only [mGet] at h
    simp only [mDel]
    split at h
    · rename_i e; cases h; subst e; rw [if_pos rfl]
    · rename_i hne; rw [if_neg hne]; exact ((mDel_perm h).cons _).trans (.swap _ _ _)
theorem mPut_perm {β : Type} {n : Int} {v : β} : ∀ {m : List (Int × β)}, (mPut m n v).Perm ((n, v) :: mDel m n)
  | [] => .refl _
  | (k, u) :: t => by
    simp only [mPut, mDel]
    by_cases h : n = k
    · rw [if_pos h, if_pos h]
    · rw [if_neg h, if_neg h]; exact ((mPut_perm (m := t)).cons _).trans (.swap _ _ _)
theorem mDel_none {β : Type} {n : Int} : ∀ {m : List (Int × β)}, mGet m n = none → mDel m n = m
  | [], _ => rfl
  | (k, u) :: t, h => by
    simp only [mGet] at h
    split at h
    · cases h
    · rename_i hne; simp only [mDel]; rw [if_neg hne, mDel_none h]
def sl0 {α : Type} : SlE α := ⟨none, 0, []⟩
def slAt {α : Type} (m : List (Int × SlE α)) (n : Int) : SlE α := (mGet m n).getD sl0
theorem msH_put {m : List (Int × SlE α)} {n : Int} {s : SlE α} : (msH e sz f (mPut m n s)).Perm (slH e sz f s :: msH e sz f (mDel m n)) := (mPut_perm (n := n) (v := s) (m := m)).map _
/-- The slice at a key, nil where there is none. -/
theorem weak_takeS {h0 : List HA} {m : List (Int × SlE α)} (n : Int) : Weak N env (h0 ++ msH e sz f m) env (.sl (slAt m n).g (slAt m n).c e sz ((slAt m n).l.map f) :: (h0 ++ msH e sz f (mDel m n))) := by
  show Weak N env (h0 ++ msH e sz f m) env (slH e sz f (slAt m n) :: (h0 ++ msH e sz f (mDel m n)))
  unfold slAt
  cases hm : mGet m n with
  | none => rw [mDel_none hm]; exact weak_nil e sz
  | some s =>
    refine weak_perm ?_
    have h1 : (msH e sz f m).Perm (slH e sz f s :: msH e sz f (mDel m n)) := (mDel_perm hm).map _
    exact (h1.append_left h0).trans (List.perm_middle)
theorem weak_putS {h0 : List HA} {m : List (Int × SlE α)} {n : Int} {g : Option Nat} {c : Nat} {l : List α} : Weak N env (.sl g c e sz (l.map f) :: (h0 ++ msH e sz f (mDel m n))) env (h0 ++ msH e sz f (mPut m n ⟨g, c, l⟩)) :=
  weak_perm ((List.perm_middle.symm).trans (((msH_put (s := ⟨g, c, l⟩)).symm).append_left h0))
theorem slAt_put {m : List (Int × SlE α)} {n k : Int} {s : SlE α} : slAt (mPut m n s) k = if k = n then s else slAt m k := by
  unfold slAt
  rw [mGet_put]
  split <;> rfl
/-- A slice that a map holds is not written any more. -/
theorem weak_settleE {b j n c : Nat} {k : Int} {g : Option Nat} {es : List (List AV)} {kvs : List (Int × AV)} {h' : List HA} (hp : h.Perm (.map b kvs :: .sl g c e sz es :: h')) (hj : kvs[j]? = some (k, .v (slV g n c))) (hn : n = es.length) : Weak N env h env (.map b (kvs.set j (k, .sl sz es)) :: h') := fun F a w s => by
  subst hn
  have r1 := s.r.perm hp
  have hr := r1.rep (.sl g c e sz es) (by simp)
  have hF' : ∀ b, F b → (F b ∨ g = some b) := fun b hb => .inl hb
  have hgo : ∀ b, g = some b → b ∈ (HA.sl g c e sz es).own := fun b hb => by subst hb; simp [HA.own]
  have hnd := r1.nd
  have hown : (owns (HA.map b kvs :: HA.sl g c e sz es :: h')).Perm ((HA.sl g c e sz es).own ++ owns (HA.map b kvs :: h')) := by
    simp only [owns_cons]
    rw [← List.append_assoc, ← List.append_assoc]
    exact List.perm_append_comm.append_right _
  have hnd2 := (hown.nodup_iff).1 hnd
  refine ⟨fun b => F b ∨ g = some b, ⟨⟨fun x hx => ?_, (List.nodup_append.1 hnd2).2.1, fun b' hb => r1.lt b' (hown.mem_iff.2 (List.mem_append_right _ hb)), fun b' hb => ?_⟩, s.size, fun j av hj => (s.env j av hj).mono hF' (fun _ _ => rfl)⟩, ⟨rfl, rfl, rfl, Nat.le_refl _, fun _ _ _ => rfl, fun b' hb => .inl ((owns_perm hp).mem_iff.2 (hown.mem_iff.2 (List.mem_append_right _ hb))), hF', fun b' hb => hb.imp id (fun e => .inl ((owns_perm hp).mem_iff.2 (hown.mem_iff.2 (List.mem_append_left _ (hgo b' e))))), Nat.le_refl _⟩⟩
  · rcases List.mem_cons.1 hx with rfl | hx
    · obtain ⟨ents, clock, h1, h2, h3, h4⟩ := r1.rep (.map b kvs) (by simp)
      refine ⟨ents, clock, h1, by rw [List.length_set]; exact h2, fun i kv en hi he => ?_, h4⟩
      by_cases hij : j = i
      · subst hij
        rw [List.getElem?_set_self (List.getElem?_eq_some_iff.1 hj).1] at hi
        cases hi
        obtain ⟨a1, a2, a3⟩ := h3 j _ en hj he
        refine ⟨a1, ?_, a3⟩
        simp only at a2 ⊢
        generalize hq : en.val = v at a2
        cases a2
        exact own_settled hr hF' (fun b hb => .inr hb)
      · rw [List.getElem?_set_ne hij] at hi
        obtain ⟨a1, a2, a3⟩ := h3 i kv en hi he
        exact ⟨a1, a2.mono hF' (fun _ _ => rfl), a3⟩
    · exact (r1.rep x (by simp [hx])).mono hF' (fun _ _ => rfl) (fun _ _ => rfl)
  · rcases hb with hb | hb
    · have := r1.sep b' hb; exact ⟨this.1, fun hm => this.2 (hown.mem_iff.2 (List.mem_append_right _ hm))⟩
    · exact ⟨r1.lt b' (hown.mem_iff.2 (List.mem_append_left _ (hgo b' hb))), fun hm => (List.nodup_append.1 hnd2).2.2 b' (hgo b' hb) b' hm rfl⟩
def slS {α : Type} (sz : Nat) (f : α → List AV) (l : List α) : AV := .sl sz (l.map f)
def msL {α : Type} (m : List (Int × SlE α)) : List (Int × List α) := m.map fun p => (p.1, p.2.l)
theorem msL_get {m : List (Int × SlE α)} (n : Int) : mGet (msL m) n = (mGet m n).map (·.l) := by
  induction m with
  | nil => rfl
  | cons p t ih =>
    obtain ⟨k, s⟩ := p
    show (if n = k then some s.l else mGet (msL t) n) = Option.map _ (if n = k then some s else mGet t n)
    rw [ih]
    split <;> rfl
theorem weak_settleMS {b : Nat} {m : List (Int × SlE α)} : Weak N env (.map b (kvM slE m) :: msH e sz f m) env [.map b (kvM (slS sz f) (msL m))] := by
  have key : ∀ (pre : List (Int × AV)) (m : List (Int × SlE α)), Weak N env (.map b (pre ++ kvM slE m) :: msH e sz f m) env [.map b (pre ++ kvM (slS sz f) (msL m))] := fun pre m => by
    induction m generalizing pre with
    | nil => exact weak_refl
    | cons p t ih =>
      obtain ⟨k, s⟩ := p
      have h1 : (pre ++ kvM slE ((k, s) :: t))[pre.length]? = some (k, .v (slV s.g s.l.length s.c)) := by
        rw [List.getElem?_append_right (Nat.le_refl _), Nat.sub_self]; rfl
      refine (weak_settleE (b := b) (e := e) (sz := sz) (es := s.l.map f) (h' := msH e sz f t) (.refl _) h1 (by rw [List.length_map])).trans ?_
      have h2 : (pre ++ kvM slE ((k, s) :: t)).set pre.length (k, .sl sz (s.l.map f)) = (pre ++ [(k, slS sz f s.l)]) ++ kvM slE t := by
        rw [List.set_append_right _ _ (Nat.le_refl _), Nat.sub_self, List.append_assoc]
        rfl
      rw [h2]
      have h3 : pre ++ kvM (slS sz f) (msL ((k, s) :: t)) = (pre ++ [(k, slS sz f s.l)]) ++ kvM (slS sz f) (msL t) := by
        rw [List.append_assoc]; rfl
      rw [h3]
      exact ih _
  have := key [] m
  simpa using this
end
/-! ### Parts of a slice of one's own -/
theorem pSlO {o : Oper} {t : TypeId} {x : Operand} {lo hi : Option Operand} {g : Option Nat} {sz n c l m : Nat} (ho : o.op = .slice t x lo hi none) (hx : ev env x = some (.v (slV g n c))) (ht : elemSize P t = some sz) (hl : BoundIs env lo 0 l) (hm : BoundIs env hi n m)
    (h1 : l ≤ m) (h2 : m ≤ c) : APure P N o env (.v (.slice (if c = l then g.map fun b => ⟨b, 0, none⟩ else g.map fun b => ⟨b, l * sz, none⟩) (m - l) (c - l))) := by
  intro F h a w st
  have hr := st.ev hx
  generalize hv : a.eval x = v at hr
  cases hr
  obtain ⟨el, g', hu, hs⟩ := elemSize_spec ht
  refine ⟨_, .v _, fun w' => ?_⟩
  simp only [execOp, ho, hv, Instr.sliceAt, Instr.slice, Sem.run_bind, Sem.run_pure, Result.andThen_ok, run_underlying' hu, Option.map_none, slV]
  have := run_bounds (P := P) st hl (len := n) (cap := c) hm h1 h2 true w'
  simp only [this, Result.andThen_ok, run_sizeOf hs, Sem.run_bind, Sem.run_pure]
  cases g <;> simp [add_none]
theorem pSlHi {o : Oper} {t : TypeId} {x : Operand} {hi : Option Operand} {g : Option Nat} {sz n c m : Nat} (ho : o.op = .slice t x none hi none) (hx : ev env x = some (.v (slV g n c))) (ht : elemSize P t = some sz) (hm : BoundIs env hi n m) (h2 : m ≤ c) : APure P N o env (.v (slV g m c)) := by
  have h := pSlO (P := P) (N := N) ho hx ht (bdN rfl) hm (Nat.zero_le _) h2
  have e : (Value.slice (if c = 0 then g.map fun b => (⟨b, 0, none⟩ : Addr) else g.map fun b => ⟨b, 0 * sz, none⟩) (m - 0) (c - 0)) = slV g m c := by
    rw [Nat.zero_mul]; simp [slV]
  rw [e] at h
  exact h
def tailV (g : Option Nat) (n c i sz : Nat) : Value := .slice (if c = i then g.map fun b => ⟨b, 0, none⟩ else g.map fun b => ⟨b, i * sz, none⟩) (n - i) (c - i)
theorem pSlLo {o : Oper} {t : TypeId} {x : Operand} {lo : Option Operand} {g : Option Nat} {sz n c i : Nat} (ho : o.op = .slice t x lo none none) (hx : ev env x = some (.v (slV g n c))) (ht : elemSize P t = some sz) (hl : BoundIs env lo 0 i) (h1 : i ≤ n) (h2 : n ≤ c) : APure P N o env (.v (tailV g n c i sz)) :=
  pSlO ho hx ht hl (bdN rfl) h1 h2
theorem own_cap {F : Nat → Prop} {w : World} {g : Option Nat} {c e sz : Nat} {es : List (List AV)} (hr : HARep F w (.sl g c e sz es)) : es.length ≤ c ∧ (g = none → c = 0 ∧ es = []) := by
  obtain ⟨xs, ⟨h1, h2⟩, h3, h4, h5⟩ := hr
  rcases h2 with ⟨hv, hn⟩ | ⟨g', cap, cur, hv, _, hg, hnc, hcm, hcs, htake⟩
  · cases g with
    | none =>
      simp [slV] at hv
      have : es = [] := hv.1
      subst this
      exact ⟨Nat.zero_le _, fun _ => ⟨hv.2, rfl⟩⟩
    | some b => simp [slV] at hv
  · cases g with
    | none => simp [slV] at hv
    | some b => simp [slV] at hv; exact ⟨by omega, fun h => by cases h⟩
theorem aCap {cd : Code} {g : Option Nat} {c e sz : Nat} {es : List (List AV)} {h' : List HA} (hs : Spl h (.sl g c e sz es) h') (k : es.length ≤ c → AWP P N cd env h K X Rt) : AWP P N cd env h K X Rt := by
  intro ro F a w hro s
  exact k (own_cap (s.r.rep _ (spl_mem hs))).1 ro F a w hro s
theorem weak_cut {g : Option Nat} {c e sz : Nat} {es : List (List AV)} {h' : List HA} (m : Nat) (hs : Spl h (.sl g c e sz es) h') : Weak N env h env (.sl g c e sz (es.take m) :: h') := by
  intro F a w s
  have hp : (owns h).Perm ((HA.sl g c e sz es).own ++ owns h') := owns_perm hs.perm
  have e1 : (HA.sl g c e sz (es.take m)).own = (HA.sl g c e sz es).own := by cases g <;> rfl
  have sub : ∀ k ∈ owns (HA.sl g c e sz (es.take m) :: h'), k ∈ owns h := fun k hk => by
    rw [owns_cons, e1] at hk
    exact hp.mem_iff.2 hk
  have nd : (owns (HA.sl g c e sz (es.take m) :: h')).Nodup := by
    rw [owns_cons, e1]
    exact hp.nodup_iff.1 s.r.nd
  refine ⟨F, ⟨s.r.same nd sub (fun y hy => ?_), s.size, s.env⟩, .same sub⟩
  rcases List.mem_cons.1 hy with rfl | hy
  · obtain ⟨xs, ⟨h1, h2⟩, h3, h4, h5⟩ := s.r.rep _ (spl_mem hs)
    have hle : (es.take m).length ≤ es.length := by rw [List.length_take]; omega
    have hmul : (es.take m).length * sz ≤ es.length * sz := Nat.mul_le_mul_right _ hle
    refine ⟨xs.take ((es.take m).length * sz), ⟨by rw [List.length_take, h1]; omega, ?_⟩, fun y hy => h3 y (List.mem_of_mem_take hy), fun x hx => h4 x (List.mem_of_mem_take hx), fun i j y av x hi hj hx => ?_⟩
    · rcases h2 with ⟨hv, hn⟩ | ⟨g', cap, cur, hv, h0, hg, hnc, hcm, hcs, htake⟩
      · left
        have h0 : (es.take m).length = 0 := by omega
        refine ⟨?_, h0⟩
        simp only [slV, Value.slice.injEq] at hv ⊢
        exact ⟨hv.1, by omega, hv.2.2⟩
      · right
        refine ⟨g', cap, cur, ?_, h0, hg, by omega, hcm, hcs, ?_⟩
        · simp only [slV, Value.slice.injEq] at hv ⊢
          exact ⟨hv.1, trivial, hv.2.2⟩
        · rw [← htake, List.take_take, Nat.min_eq_left hmul]
    · have hil := (List.getElem?_eq_some_iff.1 hi).1
      rw [List.getElem?_take] at hi
      have hi2 : es[i]? = some y := by
        split at hi
        · exact hi
        · cases hi
      refine h5 i j y av x hi2 hj ?_
      rw [List.getElem?_take] at hx
      split at hx
      · exact hx
      · cases hx
  · exact s.r.rep y (hs.perm.mem_iff.2 (by simp [hy]))
/-- 'clear' of the tail of a slice of one's own. -/
theorem oClearT {o : Oper} {t e : TypeId} {x : Operand} {g : Option Nat} {n c i sz by_ : Nat} {es : List (List AV)} {zs : List AV} {z : Value} {h' : List HA} (ho : o.op = .call ⟨.builtin .clear, #[x], #[t]⟩) (hd : o.dst = none) (hx : ev env x = some (.v (tailV g n c i sz))) (hs : Spl h (.sl g c e sz es) h') (hn : n = es.length) (hi : i ≤ n)
    (ht : elemOf P t = some (e, sz, by_)) (hz : zeroOf P e = some z) (h1 : z.cells.toList.all (·.oneCell') = true) (hzs : zs.length = sz)
    (hrep : ∀ (F : Nat → Prop) (w : World) (j : Nat) av x, zs[j]? = some av → z.cells[j]? = some x → Rep F w av x)
    (hk : K env (.sl g c e sz (es.take i ++ List.replicate (n - i) zs) :: h')) : AOp P N o env h K := by
  subst hn
  intro B F a w Q s ex hdef
  obtain ⟨hu, ii, z', hii, hzz, hisz, hzs', h0, hby⟩ := elemOf_spec ht
  have hze : z' = z := by
    unfold zeroOf at hz
    rw [hii, Option.bind_some, hzz] at hz
    exact Option.some.inj hz
  subst hze
  have hxv := s.ev hx
  generalize hv : a.eval x = vx at hxv
  cases hxv
  have hown := own_cap (s.r.rep _ (spl_mem hs))
  by_cases hni : es.length = i
  · have hsame : es.take i ++ List.replicate (es.length - i) zs = es := by rw [← hni, Nat.sub_self, List.take_length]; simp
    rw [hsame] at hk
    have hsl : ∀ q : Option Addr, (Builtin.clear_ #[t] 0 #[.slice q 0 (c - i)]).run P w = .ok (.tuple #[]) w := fun q => by
      cases q <;> simp [Builtin.clear_, run_underlying hu]
    have ht0 : tailV g es.length c i sz = .slice (if c = i then g.map fun b => ⟨b, 0, none⟩ else g.map fun b => ⟨b, i * sz, none⟩) 0 (c - i) := by rw [tailV, hni, Nat.sub_self]
    have hrun : (execOp a.eval o).run P w = .ok (.value (.tuple #[])) w := by
      generalize (if c = i then g.map fun b => (⟨b, 0, none⟩ : Addr) else g.map fun b => ⟨b, i * sz, none⟩) = q at ht0
      cases q <;> simp [execOp, ho, resolve, invoke, builtin, hv, ht0, Builtin.clear_, run_underlying hu]
    have hR : R F (.sl g c e sz es :: h') w := s.r.perm hs.perm
    have hE : Ext F h w F (.sl g c e sz es :: h') w := Ext.permR hs.perm (.refl F h w)
    unfold Oper.wp
    rw [hrun, Oper.upon_value, hd]
    exact ⟨hdef, F, env, _, hk, s.go hE hR, ex.trans hE⟩
  · cases g with
    | none => have := (hown.2 rfl).2; subst this; simp at hni hi; omega
    | some b =>
      obtain ⟨cur, hg, hnc, hcm, hcs, hzz', hone, hrp⟩ := row_of (s.r.rep _ (spl_mem hs))
      have hci : ¬ c = i := by omega
      have htv : tailV (some b) es.length c i sz = .slice (some ⟨b, i * sz, none⟩) (es.length - i) (c - i) := by rw [tailV, if_neg hci]; rfl
      have hmul : i * sz + (es.length - i) * sz = es.length * sz := by rw [← Nat.add_mul]; congr 1; omega
      have hcl : es.length * sz ≤ cur.size := by rw [hcs]; exact Nat.mul_le_mul_right _ hnc
      have hsize : (Builtin.zeroCells z'.cells (es.length - i)).size = (es.length - i) * sz := by rw [size_zeroCells', hzs']
      have hcell : ∀ k, k < (es.length - i) * sz → (Builtin.zeroCells z'.cells (es.length - i))[k]? = z'.cells[k % sz]? := fun k hk => by
        have hm : k % sz < z'.cells.size := by rw [hzs']; exact Nat.mod_lt _ h0
        simp only [Builtin.zeroCells, Array.getElem?_map, hzs']
        rw [Array.getElem?_eq_getElem (by simpa using hk)]
        simp only [Array.getElem_range, Option.map_some]
        rw [Array.getElem?_eq_getElem hm]
        exact congrArg some (getElem!_pos z'.cells (k % sz) hm)
      have hz1 : ∀ x ∈ Builtin.zeroCells z'.cells (es.length - i), x.oneCell' = true := fun x hx => by
        obtain ⟨k, hk⟩ := Array.mem_iff_getElem?.1 hx
        have hkl : k < (es.length - i) * sz := by have := (Array.getElem?_eq_some_iff.1 hk).1; omega
        rw [hcell k hkl] at hk
        exact List.all_eq_true.1 h1 x (by simpa using Array.mem_of_getElem? hk)
      have hst := run_storeCells_at P b (i * sz) e (Builtin.zeroCells z'.cells (es.length - i)).toList 0 cur w hg (by simp only [Array.length_toList, hsize]; omega) (by simpa using hz1)
      simp only [Nat.add_zero, Array.length_toList] at hst
      have hrun : (execOp a.eval o).run P w = .ok (.value (.tuple #[])) (w.setRow b (cur.toList.take (i * sz) ++ (Builtin.zeroCells z'.cells (es.length - i)).toList ++ cur.toList.drop (i * sz + (Builtin.zeroCells z'.cells (es.length - i)).size)).toArray) := by
        obtain ⟨k, hk2⟩ : ∃ k, es.length - i = k + 1 := ⟨es.length - i - 1, by omega⟩
        rw [hk2] at hst htv ⊢
        simp [execOp, ho, resolve, invoke, builtin, hv, htv, Builtin.clear_, run_underlying hu, zeroValue, typeInfo, hii, hzz, hst]
      obtain ⟨hR, hE⟩ := s.r.wrote (es' := es.take i ++ List.replicate (es.length - i) zs) (cells := Builtin.zeroCells z'.cells (es.length - i)) (q := i * sz) hs hg (by omega) hz1 (by simp; omega) (by
        intro y hy
        rcases List.mem_append.1 hy with hy | hy
        · exact hzz' y (List.mem_of_mem_take hy)
        · rw [List.eq_of_mem_replicate hy, hzs]) (by
        intro k j y av hk hj
        have hyl : y.length = sz := by
          rcases List.mem_append.1 (List.mem_of_getElem? hk) with hy | hy
          · exact hzz' y (List.mem_of_mem_take hy)
          · rw [List.eq_of_mem_replicate hy, hzs]
        have hjl : j < sz := by rw [← hyl]; exact (List.getElem?_eq_some_iff.1 hj).1
        have hil : (es.take i).length = i := by rw [List.length_take]; omega
        by_cases hki : k < i
        · right
          have h3 := Nat.mul_le_mul_right sz (show k + 1 ≤ i by omega)
          rw [Nat.add_mul, Nat.one_mul] at h3
          refine ⟨by omega, y, ?_, hj⟩
          rw [List.getElem?_append_left (by omega), List.getElem?_take_of_lt hki] at hk
          exact hk
        · left
          have hkl : k < es.length := by
            have := (List.getElem?_eq_some_iff.1 hk).1
            simp at this
            omega
          have h3 := Nat.mul_le_mul_right sz (show i ≤ k by omega)
          have h4 := idx_lt hkl hjl
          refine ⟨by omega, by omega, fun x hx => ?_⟩
          have hy : y = zs := by
            rw [List.getElem?_append_right (by omega)] at hk
            exact List.eq_of_mem_replicate (List.mem_of_getElem? hk)
          subst hy
          rw [hcell _ (by omega)] at hx
          have hmod : (k * sz + j - i * sz) % sz = j := by
            have : k * sz + j - i * sz = (k - i) * sz + j := by rw [Nat.sub_mul]; omega
            rw [this, Nat.mul_comm, Nat.mul_add_mod, Nat.mod_eq_of_lt hjl]
          rw [hmod] at hx
          exact hrep F w j av x hj hx)
      unfold Oper.wp
      rw [hrun, Oper.upon_value, hd]
      exact ⟨hdef, F, env, _, hk, s.go hE hR, ex.trans hE⟩
end A
end Go.Proofs.Ytmcannmjielalaa
