/- Texts that BridgeFinds's proof rests on, part 9. -/
import Derived.ChangeKeysEq
import Derived.Test.YtnabkchagjjjnaaS7BridgeFinds
set_option linter.unusedVariables false
set_option linter.unusedSimpArgs false
namespace Go.Proofs.Ytnabkchagjjjnaa
namespace A
variable {P : Program} {N : Nat} {env : Env} {h : List HA} {K : Cont} {X : List (Nat × Cont)} {Rt : Cont}
/-! ### nilCheck -/
theorem pNilV {o : Oper} {x : Operand} {b p : Nat} {s : Option Nat} (ho : o.op = .nilCheck x) (hx : ev env x = some (.v (.pointer (some ⟨b, p, s⟩)))) : APure P N o env (.v (.pointer (some ⟨b, p, s⟩))) := by
  intro F h a w st
  have hr := st.ev hx
  generalize hv : a.eval x = v at hr
  cases hr
  exact ⟨_, .v _, fun w' => by simp [execOp, ho, hv]⟩
/-! ### A pointer against nil -/
def ptrNil : Value → Option Bool
  | .pointer p => some p.isNone
  | _ => none
def isPtrT (P : Program) (t : TypeId) : Bool := match P.underlying t with | some (.pointer _) => true | _ => false
theorem run_eqPtrR (d : Nat) {t e : TypeId} (hu : P.underlying t = some (.pointer e)) (p : Option Addr) (w : World) : (Op.equalIn (d + 1) t (.pointer p) (.pointer none)).run P w = .ok p.isNone w := by
  cases p <;> simp [Op.equalIn, run_underlying' hu]
theorem run_eqPtrL (d : Nat) {t e : TypeId} (hu : P.underlying t = some (.pointer e)) (p : Option Addr) (w : World) : (Op.equalIn (d + 1) t (.pointer none) (.pointer p)).run P w = .ok p.isNone w := by
  cases p <;> simp [Op.equalIn, run_underlying' hu]
/-! ### '==' cell by cell -/
inductive EQ where
  | i
  | b
  | s
  | p
  deriving DecidableEq
def planFs (P : Program) (g : TypeId → Nat → Option (List (Nat × EQ))) (n o : Nat) : List Field → Option (List (Nat × EQ))
  | [] => some []
  | fd :: r => match fd.name == "_", tyOf P fd.type, g fd.type (o + fd.offset), planFs P g n o r with
    | false, some (m, _), some l, some l' => if fd.offset + m ≤ n then some (l ++ l') else none
    | _, _, _, _ => none
def planIs (g : Nat → Option (List (Nat × EQ))) : List Nat → Option (List (Nat × EQ))
  | [] => some []
  | i :: r => match g i, planIs g r with
    | some l, some l' => some (l ++ l')
    | _, _ => none
def plan (P : Program) : Nat → TypeId → Nat → Option (List (Nat × EQ))
  | 0, _, _ => none
  | f + 1, t, o => match P.underlying t, tyOf P t with
    | some (.int _), some (1, false) => some [(o, .i)]
    | some .bool, some (1, false) => some [(o, .b)]
    | some .string, some (1, false) => some [(o, .s)]
    | some (.pointer _), some (1, false) => some [(o, .p)]
    | some (.struct fs), some (n, true) => if P.stoodInHeld t then none else planFs P (plan P f) n o fs.toList
    | some (.array k e), some (n, true) => match tyOf P e with
      | some (m, _) => if k * m ≤ n then planIs (fun i => plan P f e (o + i * m)) (List.range k) else none
      | none => none
    | _, _ => none
def eqLeaf : EQ → AV → AV → Option Bool
  | .i, .v (.int k a), .v (.int k' b) => if k = k' then some (a == b) else none
  | .b, .v (.bool a), .v (.bool b) => some (a == b)
  | .s, .v (.string a), .v (.string b) => some (a.toList == b.toList)
  | .p, .v (.pointer a), .v (.pointer none) => some a.isNone
  | .p, .v (.pointer none), .v (.pointer b) => some b.isNone
  | _, _, _ => none
theorem eqLeaf_p {a b : AV} {q : Bool} (h : eqLeaf .p a b = some q) : ∃ pa pb, a = .v (.pointer pa) ∧ b = .v (.pointer pb) ∧ ((pb = none ∧ q = pa.isNone) ∨ (pa = none ∧ q = pb.isNone)) := by
  unfold eqLeaf at h
  split at h
  · contradiction
  · contradiction
  · contradiction
  · rename_i pa; cases h; exact ⟨_, _, rfl, rfl, .inl ⟨rfl, rfl⟩⟩
  · rename_i pb _; cases h; exact ⟨_, _, rfl, rfl, .inr ⟨rfl, rfl⟩⟩
  · cases h
def eqLeaves : List (Nat × EQ) → List AV → List AV → Option Bool
  | [], _, _ => some true
  | (o, k) :: r, xs, ys => match xs[o]?, ys[o]? with
    | some a, some b => match eqLeaf k a b, eqLeaves r xs ys with
      | some p, some q => some (p && q)
      | _, _ => none
    | _, _ => none
theorem eqLeaves_app : ∀ {l l' : List (Nat × EQ)} {xs ys : List AV} {q : Bool}, eqLeaves (l ++ l') xs ys = some q → ∃ p p', eqLeaves l xs ys = some p ∧ eqLeaves l' xs ys = some p' ∧ q = (p && p')
  | [], l', xs, ys, q, h => ⟨true, q, rfl, h, by simp⟩
  | (o, k) :: l, l', xs, ys, q, h => by
    simp only [List.cons_append, eqLeaves] at h
    split at h
    case h_2 => cases h
    rename_i a b ha hb
    split at h
    case h_2 => cases h
    rename_i p0 q0 h1 h2
    obtain ⟨p, p', e1, e2, rfl⟩ := eqLeaves_app h2
    refine ⟨p0 && p, p', ?_, e2, ?_⟩
    · simp only [eqLeaves, ha, hb, h1, e1]
    · cases h; rw [Bool.and_assoc]
section
variable {F : Nat → Prop} {w0 : World} {cs ds : List AV} {xs ys : Array Value}
def IsPart (P : Program) (xs : Array Value) (t : TypeId) (o : Nat) (x : Value) : Prop := ∃ n g, tyOf P t = some (n, g) ∧ o + n ≤ xs.size ∧ ((g = true ∧ x = .agg (xs.extract o (o + n))) ∨ (g = false ∧ xs[o]? = some x))
theorem run_part {t : TypeId} {n m o off : Nat} {g : Bool} (ht : tyOf P t = some (m, g)) (hm : 0 < m ∨ g = true) (h1 : off + m ≤ n) (h2 : o + n ≤ xs.size) (w : World) : ∃ x, (part t (xs.extract o (o + n)) off).run P w = .ok x w ∧ IsPart P xs t (o + off) x := by
  unfold part
  simp only [Sem.run_bind, run_isAgg ht, Result.andThen_ok]
  cases g with
  | true =>
    refine ⟨.agg (xs.extract (o + off) (o + off + m)), ?_, m, true, ht, by omega, .inl ⟨rfl, rfl⟩⟩
    simp only [if_true, Sem.run_bind, run_sizeOf ht, Result.andThen_ok, Sem.run_pure]
    rw [Array.extract_extract, Nat.min_eq_left (by omega), ← Nat.add_assoc]
  | false =>
    have hm : 0 < m := by simpa using hm
    have hlt : o + off < xs.size := by omega
    refine ⟨xs[o + off], ?_, m, false, ht, by omega, .inr ⟨rfl, by simp [hlt]⟩⟩
    have : (xs.extract o (o + n))[off]? = some xs[o + off] := by
      rw [Array.getElem?_extract, if_pos (by omega)]
      simp [hlt]
    simp only [Bool.false_eq_true, if_false, this, Sem.run_pure]
theorem plan_pos {t : TypeId} {m : Nat} {g : Bool} {f o : Nat} {l : List (Nat × EQ)} (ht : tyOf P t = some (m, g)) (hp : plan P f t o = some l) : 0 < m ∨ g = true := by
  cases f with
  | zero => cases hp
  | succ f =>
    rw [plan, ht] at hp
    split at hp <;> simp_all <;> omega
theorem run_plan (rx : ∀ (j : Nat) (av : AV) (x : Value), cs[j]? = some av → xs[j]? = some x → Rep F w0 av x) (ry : ∀ (j : Nat) (av : AV) (x : Value), ds[j]? = some av → ys[j]? = some x → Rep F w0 av x) :
    ∀ (f : Nat) (t : TypeId) (o : Nat) (l : List (Nat × EQ)) (q : Bool) (d : Nat) (x y : Value) (w : World), f ≤ d → plan P f t o = some l → eqLeaves l cs ds = some q → IsPart P xs t o x → IsPart P ys t o y → (Op.equalIn d t x y).run P w = .ok q w := by
  intro f
  induction f with
  | zero => intro t o l q d x y w _ hp; cases hp
  | succ f ih =>
    intro t o l q d x y w hd hp hq hx hy
    obtain ⟨d, rfl⟩ : ∃ e, d = e + 1 := ⟨d - 1, by omega⟩
    obtain ⟨n, g, ht, hxn, hx⟩ := hx
    obtain ⟨n', g', ht', hyn, hy⟩ := hy
    rw [ht] at ht'
    cases ht'
    have leaf : ∀ {k : EQ}, l = [(o, k)] → g = false → ∃ a b, cs[o]? = some a ∧ ds[o]? = some b ∧ eqLeaf k a b = some q ∧ Rep F w0 a x ∧ Rep F w0 b y := by
      intro k hl hg
      subst hl
      subst hg
      have hx : xs[o]? = some x := by simpa using hx
      have hy : ys[o]? = some y := by simpa using hy
      simp only [eqLeaves] at hq
      split at hq
      case h_2 => cases hq
      rename_i a b ha hb
      split at hq
      case h_2 => cases hq
      rename_i p q0 h1 h2
      simp only [Option.some.injEq] at h2
      subst h2
      refine ⟨a, b, ha, hb, ?_, rx o a x ha hx, ry o b y hb hy⟩
      rw [h1]
      simpa using hq
    rw [plan, ht] at hp
    split at hp
    · rename_i k n0 hu hn
      cases hn
      obtain ⟨a, b, _, _, he, ra, rb⟩ := leaf (by simpa using hp.symm) rfl
      unfold eqLeaf at he
      split at he <;> simp_all
      cases ra; cases rb
      rw [run_equalIn_int w d t _ _ _ _ hu]
      simp [he.2]
    · rename_i n0 hu hn
      cases hn
      obtain ⟨a, b, _, _, he, ra, rb⟩ := leaf (by simpa using hp.symm) rfl
      unfold eqLeaf at he
      split at he <;> simp_all
      cases ra; cases rb
      rw [run_equalIn_bool' w d t _ _ hu]
      simp [he]
    · rename_i n0 hu hn
      cases hn
      obtain ⟨a, b, _, _, he, ra, rb⟩ := leaf (by simpa using hp.symm) rfl
      unfold eqLeaf at he
      split at he <;> simp_all
      cases ra; cases rb
      rw [run_equalIn_string w d t _ _ hu]
      simp [he]
    · rename_i e n0 hu hn
      cases hn
      obtain ⟨a, b, _, _, he, ra, rb⟩ := leaf (by simpa using hp.symm) rfl
      obtain ⟨pa, pb, rfl, rfl, h⟩ := eqLeaf_p he
      cases ra; cases rb
      rcases h with ⟨rfl, rfl⟩ | ⟨rfl, rfl⟩
      · exact run_eqPtrR d hu pa w
      · exact run_eqPtrL d hu pb w
    · rename_i fs n0 hu hn
      cases hn
      split at hp
      case isTrue => cases hp
      rename_i hst
      have hx : x = .agg (xs.extract o (o + n)) := by simpa using hx
      have hy : y = .agg (ys.extract o (o + n)) := by simpa using hy
      subst hx
      subst hy
      have hfs : P.fieldsOf t = fs := by simp [Program.fieldsOf, hu]
      rw [run_equalIn_struct (P := P) w d t _ _ (by rw [hfs]; exact hu) (by simpa using hst), hfs]
      have key : ∀ (fl : List Field) (l : List (Nat × EQ)) (q : Bool), planFs P (plan P f) n o fl = some l → eqLeaves l cs ds = some q → (Op.eqFields d (xs.extract o (o + n)) (ys.extract o (o + n)) fl).run P w = .ok q w := by
        intro fl
        induction fl with
        | nil => intro l q h1 h2; cases h1; cases h2; simp [Op.eqFields]
        | cons fd r ihf =>
          intro l q h1 h2
          rw [planFs] at h1
          split at h1
          case h_2 => cases h1
          rename_i m g0 l1 l2 hn hty hg hr
          split at h1
          case isFalse => cases h1
          rename_i hfit
          cases h1
          obtain ⟨p, p', e1, e2, rfl⟩ := eqLeaves_app h2
          obtain ⟨xi, hxi, px⟩ := run_part (xs := xs) (o := o) hty (plan_pos hty hg) hfit hxn w
          obtain ⟨yi, hyi, py⟩ := run_part (xs := ys) (o := o) hty (plan_pos hty hg) hfit hyn w
          have hrun := ih fd.type (o + fd.offset) l1 p d xi yi w (by omega) hg e1 px py
          have hne : fd.name ≠ "_" := by simpa using hn
          rw [Op.eqFields]
          simp only [if_pos hne, Sem.run_bind, hxi, hyi, hrun, Result.andThen_ok]
          cases p with
          | false => simp
          | true => simpa using ihf l2 p' hr e2
      exact key fs.toList l q hp hq
    · rename_i k e n0 hu hn
      cases hn
      split at hp
      case h_2 => cases hp
      rename_i m g0 hty
      split at hp
      case isFalse => cases hp
      rename_i hfit
      have hx : x = .agg (xs.extract o (o + n)) := by simpa using hx
      have hy : y = .agg (ys.extract o (o + n)) := by simpa using hy
      subst hx
      subst hy
      obtain ⟨i, hi, him⟩ : ∃ i, P.info? e = some i ∧ i.size = m := by
        unfold tyOf at hty
        cases hi : P.info? e with
        | none => rw [hi] at hty; split at hty <;> simp_all
        | some i => exact ⟨i, rfl, by rw [hi] at hty; split at hty <;> simp_all⟩
      have hcell : P.cellsOf e = m := by simp [Program.cellsOf, hi, him]
      rw [run_equalIn_array w d _ _ hu hi, hcell]
      have key : ∀ (is : List Nat) (l : List (Nat × EQ)) (q : Bool), (∀ i ∈ is, i < k) → planIs (fun i => plan P f e (o + i * m)) is = some l → eqLeaves l cs ds = some q → (Op.eqItems d e m (xs.extract o (o + n)) (ys.extract o (o + n)) is).run P w = .ok q w := by
        intro is
        induction is with
        | nil => intro l q _ h1 h2; cases h1; cases h2; simp [Op.eqItems]
        | cons j r ihf =>
          intro l q hlt h1 h2
          rw [planIs] at h1
          split at h1
          case h_2 => cases h1
          rename_i l1 l2 hg hr
          cases h1
          obtain ⟨p, p', e1, e2, rfl⟩ := eqLeaves_app h2
          have hjk : j * m + m ≤ n := by
            have : (j + 1) * m ≤ k * m := Nat.mul_le_mul_right m (hlt j (by simp))
            rw [Nat.succ_mul] at this
            omega
          obtain ⟨xi, hxi, px⟩ := run_part (xs := xs) (o := o) hty (plan_pos hty hg) hjk hxn w
          obtain ⟨yi, hyi, py⟩ := run_part (xs := ys) (o := o) hty (plan_pos hty hg) hjk hyn w
          have hrun := ih e (o + j * m) l1 p d xi yi w (by omega) hg e1 px py
          rw [Op.eqItems]
          simp only [Sem.run_bind, hxi, hyi, hrun, Result.andThen_ok]
          cases p with
          | false => simp
          | true => simpa using ihf l2 p' (fun i hi => hlt i (by simp [hi])) hr e2
      exact key (List.range k) l q (fun i hi => List.mem_range.1 hi) hp hq
    · cases hp
end
/-- What a type's '==' compares; its size. -/
def eqPlan (P : Program) (t : TypeId) : Option (Nat × List (Nat × EQ)) :=
  if P.eqGuardType P.depth t then none else match tyOf P t, plan P 10 t 0 with
    | some (n, true), some l => some (n, l)
    | _, _ => none
/-! ### min, max -/
theorem pMin2 {o : Oper} {xo yo : Operand} {ts : Array TypeId} {k k' : IntKind} {x y z : Int} (ho : o.op = .call ⟨.builtin .min, #[xo, yo], ts⟩) (hx : ev env xo = some (.v (.int k x))) (hy : ev env yo = some (.v (.int k' y))) (hz : (if y < x then y else x) = z) : APure P N o env (.v (.int k z)) := by
  subst hz
  intro F h a w st
  have hr := st.ev hx
  have hr' := st.ev hy
  generalize hv : a.eval xo = v at hr
  generalize hv' : a.eval yo = v' at hr'
  cases hr; cases hr'
  exact ⟨_, .v _, fun w' => by simp [execOp, ho, hv, hv', resolve, invoke, builtin, Builtin.min_, Builtin.min2]⟩
/-! ### A call that is handed all that is owned but what stands ahead -/
theorem weak_perm {h' : List HA} (hp : h.Perm h') : Weak N env h env h' := fun F a w s =>
  ⟨F, ⟨s.r.perm hp, s.size, s.env⟩, (Ext.refl F h w).permR hp⟩
theorem tk_after : ∀ {l r : List HA}, Tk (l ++ r) r l
  | l, [] => by rw [List.append_nil]; exact .nil
  | l, x :: r => by
    have : Spl (l ++ x :: r) x (l ++ r) := by
      induction l with
      | nil => exact .hd
      | cons y l ih => exact .tl ih
    exact .cons this tk_after
/-- An array literal without parts. -/
theorem pBuildA0 {o : Oper} {t e : TypeId} {n m : Nat} {g : Bool} {zs : Array Value} (ho : o.op = .build t #[]) (hu : P.underlying t = some (.array n e)) (he : tyOf P e = some (m, g)) (hz : zeroOf P t = some (.agg zs)) (h1 : zs.toList.all (·.oneCell') = true) : APure P N o env (.agg (zs.toList.map .v)) := by
  intro F h a w s
  refine ⟨.agg zs, .agg _ zs (by simp) (fun x hx => List.all_eq_true.1 h1 x (by simpa using hx)) (fun j av x hj hx => ?_), fun w' => ?_⟩
  · rw [List.getElem?_map] at hj
    simp only [Option.map_eq_some_iff] at hj
    obtain ⟨y, hy, rfl⟩ := hj
    have : y = x := by
      rw [Array.getElem?_toList] at hy
      rw [hy] at hx
      exact Option.some.inj hx
    subst this
    exact .v _
  · simp [execOp, ho, Instr.build, run_zero hz, run_underlying' hu, run_sizeOf he, Instr.fill, Value.cells]
/-- A region that draws its order, where only a part of what is owned stays as it is. -/
theorem aDrawS {id : Nat} {ops : Array Oper} {T : Bool × List (List Nat × List Nat)} {Bs : List Nat} {h1 r : List HA} (hT : Go.Proofs.YtnabkchagjjjnaaW.PrintLast.rtab .any ops = T) (hB : Go.Proofs.YtnabkchagjjjnaaW.PrintLast.waitsOk T.2 Bs = true) (ds : List Nat) (n : Nat) (l : Array Bool) (hm : P.follows .mixedOrders = true) (hn : ops.size = n) (hl : Array.replicate n false = l)
    (ht : Tk h h1 r) (hk : Tab ops T Bs → ADraw2 P N ops ds n l env h1 env h K X Rt) (hnd : noDefer ops = true := by rfl) : AWP P N (.region id ops true) env h K X Rt := by
  intro ro F a w _ s
  have hR : R F h w.drew := ⟨fun x hx => HARep.mono (w := w) (w' := w.drew) (fun _ h => h) (fun _ _ => rfl) (fun _ _ => rfl) (s.r.rep x hx), s.r.nd, s.r.lt, s.r.sep⟩
  have hE : Ext F h w F h w.drew := ⟨rfl, rfl, rfl, Nat.le_refl _, fun _ _ _ => rfl, fun _ h => .inl h, fun _ h => h, fun _ h => .inl h, Nat.le_succ _⟩
  have s1 := s.go hE hR
  have key := hk ⟨hT, hB⟩ ⟨F, h, w, a.defers⟩ F w.drew F a w.drew ⟨s1.r.sub ht, s1.size, s1.env⟩ s1 hE rfl (fun _ h => h) (fun b hb => .inl ((owns_perm ht.perm).mem_iff.2 (by rw [owns_append]; exact List.mem_append_left _ hb))) .refl
  subst hn
  subst hl
  refine wpIn_region_draw fun t => ?_
  simp only [Region.schedule, hm, Bool.true_or, if_true]
  exact opsIn_ro hnd _ a _ (ops_in noLets _ a _ (wpAny_sound ops.size t _ a _ (Go.Proofs.YtnabkchagjjjnaaW.PrintLast.wpAny_of_last _ _ _ _ key)))
/-! ### Two bools -/
def isBoolT (P : Program) (t : TypeId) : Bool := match P.underlying t with | some .bool => true | _ => false
theorem pEqB {o : Oper} {op : BinOp} {t t' : TypeId} {xo yo : Operand} {a b q : Bool} (hop : o.op = .binOp op t xo yo t') (hb : op = .eql ∨ op = .neq) (hx : ev env xo = some (.v (.bool a))) (hy : ev env yo = some (.v (.bool b))) (ht : isBoolT P t = true) (hv : (if op = .eql then a == b else !(a == b)) = q) : APure P N o env (.bool q) := by
  subst hv
  intro F h ac w st
  have hr := st.ev hx
  have hr' := st.ev hy
  generalize hvx : ac.eval xo = vx at hr
  generalize hvy : ac.eval yo = vy at hr'
  cases hr; cases hr'
  unfold isBoolT at ht
  split at ht
  case h_2 => cases ht
  rename_i hu
  refine ⟨_, .v _, fun w' => ?_⟩
  have he : (Op.equal t (.bool a) (.bool b)).run P w' = .ok (a == b) w' := run_equalIn_bool' w' 9999 t a b hu
  rcases hb with rfl | rfl
  · simp [execOp, hop, hvx, hvy, eqGuard, binOp, he]
  · simp [execOp, hop, hvx, hvy, eqGuard, binOp, he]
end A
end Go.Proofs.Ytnabkchagjjjnaa
