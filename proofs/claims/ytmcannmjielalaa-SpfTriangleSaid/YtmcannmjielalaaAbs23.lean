/- Arrays: as functions on whole numbers; reads, stores. Over any program. -/
import Derived.Test.YtmcannmjielalaaAbs21
set_option linter.unusedVariables false
set_option linter.unusedSimpArgs false
namespace Go.Proofs.Ytmcannmjielalaa
namespace A

variable {P : Program} {N : Nat} {env : Env} {h : List HA} {K : Cont} {X : List (Nat × Cont)} {Rt : Cont}

abbrev boA (b : Bool) : AV := .v (.bool b)
abbrev inA (n : Int) : AV := .int n
abbrev u64A (n : Int) : AV := .v (.int .u64 n)
/-- An array's cells. -/
def arrF {β : Type} (n : Nat) (c : β → List AV) (f : Int → β) : List AV := (List.range n).flatMap fun (i : Nat) => c (f (i : Int))
def updF {β : Type} (f : Int → β) (m : Int) (v : β) : Int → β := fun i => if i = m then v else f i
@[simp] theorem updF_same {β : Type} (f : Int → β) (m : Int) (v : β) : updF f m v m = v := by simp [updF]
theorem updF_ne {β : Type} (f : Int → β) {m i : Int} (v : β) (h : i ≠ m) : updF f m v i = f i := by simp [updF, h]

section
variable {β : Type} {c : β → List AV} {sz : Nat} (hc : ∀ v, (c v).length = sz)
include hc
theorem flat_len (g : Nat → β) : ∀ n, ((List.range n).flatMap fun i => c (g i)).length = n * sz
  | 0 => by simp
  | n + 1 => by rw [List.range_succ, List.flatMap_append, List.length_append, flat_len g n]; simp [hc, Nat.add_mul]
theorem flat_get (g : Nat → β) {m j : Nat} (hj : j < sz) : ∀ n, m < n → ((List.range n).flatMap fun i => c (g i))[m * sz + j]? = (c (g m))[j]?
  | 0, h => by omega
  | n + 1, h => by
    have hl := flat_len hc g n
    rw [List.range_succ, List.flatMap_append]
    by_cases hm : m < n
    · rw [List.getElem?_append_left (by rw [hl]; exact idx_lt hm hj)]
      exact flat_get g hj n hm
    · obtain rfl : m = n := by omega
      rw [List.getElem?_append_right (by rw [hl]; omega), hl, Nat.add_sub_cancel_left]
      simp
theorem arrF_len {n : Nat} {f : Int → β} : (arrF n c f).length = n * sz := flat_len hc (fun i => f (i : Int)) n
theorem arrF_get {n m j : Nat} {f : Int → β} (hm : m < n) (hj : j < sz) : (arrF n c f)[m * sz + j]? = (c (f m))[j]? := flat_get hc (fun i => f (i : Int)) hj n hm
theorem arrF_take {n m : Nat} {f : Int → β} (hm : m < n) : ((arrF n c f).drop (m * sz)).take sz = c (f m) := by
  apply List.ext_getElem?
  intro j
  by_cases hj : j < sz
  · rw [List.getElem?_take_of_lt hj, List.getElem?_drop, arrF_get hc hm hj]
  · rw [List.getElem?_take_eq_none (by omega), List.getElem?_eq_none (by rw [hc]; omega)]
theorem arrF_set {n m : Nat} {f : Int → β} {v : β} (hm : m < n) : setCells (arrF n c f) (m * sz) (c v) = arrF n c (updF f m v) := by
  have hlt : m * sz + sz ≤ n * sz := by rw [← Nat.succ_mul]; exact Nat.mul_le_mul_right _ hm
  apply List.ext_getElem?
  intro q
  rw [setCells_get _ _ _ _ (by rw [arrF_len hc, hc]; exact hlt), hc]
  by_cases hq : q < n * sz
  · have h0 : 0 < sz := Nat.pos_of_ne_zero (fun e => by subst e; omega)
    have hd : q / sz * sz + q % sz = q := Nat.div_add_mod' q sz
    have hi : q / sz < n := by rw [Nat.div_lt_iff_lt_mul h0]; exact hq
    have hr := Nat.mod_lt q h0
    generalize q / sz = i at hd hi
    generalize q % sz = j at hd hr
    subst hd
    rw [arrF_get hc hi hr, arrF_get hc hi hr]
    by_cases hm : i = m
    · subst hm
      rw [if_pos (by omega)]
      simp [updF]
    · rw [updF_ne _ _ (by omega), if_neg]
      intro ⟨h1, h2⟩
      apply hm
      have h3 : ¬ i < m := fun h => by have := Nat.mul_le_mul_right sz (show i + 1 ≤ m by omega); rw [Nat.add_mul] at this; omega
      have h4 : ¬ m < i := fun h => by have := Nat.mul_le_mul_right sz (show m + 1 ≤ i by omega); rw [Nat.add_mul] at this; omega
      omega
  · rw [if_neg (by omega), List.getElem?_eq_none (by rw [arrF_len hc]; omega), List.getElem?_eq_none (by rw [arrF_len hc]; omega)]
end
theorem one_len {β : Type} {g : β → AV} : ∀ v, ((fun x => [g x]) v).length = 1 := fun _ => rfl
theorem set_left : ∀ (l post ns : List AV) (q : Nat), q + ns.length ≤ l.length → setCells (l ++ post) q ns = setCells l q ns ++ post := fun l post ns q hq => by
  apply List.ext_getElem?
  intro j
  rw [setCells_get _ _ _ _ (by rw [List.length_append]; omega)]
  by_cases hj : j < l.length
  · have h2 : j < (setCells l q ns).length := by rw [setCells_length]; exact hj
    rw [List.getElem?_append_left h2, setCells_get _ _ _ _ hq, List.getElem?_append_left hj]
  · have h2 : (setCells l q ns).length ≤ j := by rw [setCells_length]; omega
    rw [List.getElem?_append_right h2, setCells_length, if_neg (by omega), List.getElem?_append_right (by omega)]
theorem set_right : ∀ (pre l ns : List AV) (q : Nat), q + ns.length ≤ l.length → setCells (pre ++ l) (pre.length + q) ns = pre ++ setCells l q ns := fun pre l ns q hq => by
  apply List.ext_getElem?
  intro j
  rw [setCells_get _ _ _ _ (by rw [List.length_append]; omega)]
  by_cases hj : j < pre.length
  · rw [List.getElem?_append_left hj, List.getElem?_append_left hj, if_neg (by omega)]
  · rw [List.getElem?_append_right (by omega), List.getElem?_append_right (by omega), setCells_get _ _ _ _ hq]
    by_cases h2 : q ≤ j - pre.length ∧ j - pre.length < q + ns.length
    · rw [if_pos h2, if_pos (by omega)]
      congr 1
      omega
    · rw [if_neg h2, if_neg (by omega)]

/-! ### Reads -/
section
variable {o : Oper} {t : TypeId} {y : Operand} {b n sz p : Nat} {β : Type} {g : β → AV} {c : β → List AV} {f : Int → β} {i : Int} {pre post : List AV} {h' : List HA}
theorem rAr (ht : tyOf P t = some (1, false)) (ho : o.op = .load t y := by rfl) (hx : ev env y = some (.v (.pointer (some ⟨b, 0 + i.toNat * 1, none⟩))) := by rfl) (hs : Spl h (.box b (arrF n (fun x => [g x]) f)) h' := by repeat constructor) (h0 : 0 ≤ i := by omega) (h1 : i < n := by omega) : ARead P N o env h (g (f i)) :=
  rLdB1 ho hx hs ht (by
    have := arrF_get (c := fun x => [g x]) (f := f) one_len (m := i.toNat) (n := n) (j := 0) (by omega) (by omega)
    rw [Nat.add_zero] at this
    rw [Nat.zero_add, this, Int.toNat_of_nonneg h0]; rfl)
theorem rArL (ht : tyOf P t = some (1, false)) (ho : o.op = .load t y := by rfl) (hx : ev env y = some (.v (.pointer (some ⟨b, 0 + i.toNat * 1, none⟩))) := by rfl) (hs : Spl h (.box b (arrF n (fun x => [g x]) f ++ post)) h' := by repeat constructor) (h0 : 0 ≤ i := by omega) (h1 : i < n := by omega) : ARead P N o env h (g (f i)) :=
  rLdB1 ho hx hs ht (by
    have := arrF_get (c := fun x => [g x]) (f := f) one_len (m := i.toNat) (n := n) (j := 0) (by omega) (by omega)
    rw [Nat.add_zero] at this
    rw [Nat.zero_add, List.getElem?_append_left (by rw [arrF_len one_len]; omega), this, Int.toNat_of_nonneg h0]; rfl)
theorem rArR (ht : tyOf P t = some (1, false)) (hp : pre.length = p) (ho : o.op = .load t y := by rfl) (hx : ev env y = some (.v (.pointer (some ⟨b, p + i.toNat * 1, none⟩))) := by rfl) (hs : Spl h (.box b (pre ++ arrF n (fun x => [g x]) f)) h' := by repeat constructor) (h0 : 0 ≤ i := by omega) (h1 : i < n := by omega) : ARead P N o env h (g (f i)) :=
  rLdB1 ho hx hs ht (by
    have := arrF_get (c := fun x => [g x]) (f := f) one_len (m := i.toNat) (n := n) (j := 0) (by omega) (by omega)
    rw [Nat.add_zero] at this
    rw [← hp, List.getElem?_append_right (by omega), Nat.add_sub_cancel_left, this, Int.toNat_of_nonneg h0]; rfl)
theorem rArA (ht : tyOf P t = some (sz, true)) (hc : ∀ v, (c v).length = sz) (ho : o.op = .load t y := by rfl) (hx : ev env y = some (.v (.pointer (some ⟨b, 0 + i.toNat * sz, none⟩))) := by rfl) (hs : Spl h (.box b (arrF n c f)) h' := by repeat constructor) (h0 : 0 ≤ i := by omega) (h1 : i < n := by omega) : ARead P N o env h (.agg (c (f i))) := by
  have hlt : i.toNat * sz + sz ≤ n * sz := by rw [← Nat.succ_mul]; exact Nat.mul_le_mul_right _ (by omega)
  have := rLdBA (N := N) ho hx hs ht (by rw [arrF_len hc, Nat.zero_add]; exact hlt)
  rwa [Nat.zero_add, arrF_take hc (by omega), Int.toNat_of_nonneg h0] at this
end

/-! ### Stores -/
section
variable {o : Oper} {t : TypeId} {x y : Operand} {b n sz p : Nat} {β : Type} {g : β → AV} {c : β → List AV} {f : Int → β} {i : Int} {v : β} {pre post : List AV} {h' : List HA} {gg : Bool}
theorem oAr (ho : o.op = .store t x y) (hd : o.dst = none) (hx : ev env x = some (.v (.pointer (some ⟨b, 0 + i.toNat * 1, none⟩)))) (hs : Spl h (.box b (arrF n (fun x => [g x]) f)) h') (ht : tyOf P t = some (1, false)) (k : K env (.box b (arrF n (fun x => [g x]) (updF f i v)) :: h')) (hy : ev env y = some (g v) := by rfl) (hv : avCells (g v) = [g v] := by rfl) (h1 : oneOf (g v) = true := by rfl) (h0 : 0 ≤ i := by omega) (hl : i < n := by omega) : AOp P N o env h K :=
  oStB ho hd hx hy hs ht (by rw [hv]; rfl) (by rw [arrF_len one_len]; omega) h1 (by
    rw [Nat.zero_add, hv, arrF_set (c := fun x => [g x]) one_len (show i.toNat < n by omega), Int.toNat_of_nonneg h0]; exact k)
theorem oArL (ho : o.op = .store t x y) (hd : o.dst = none) (hx : ev env x = some (.v (.pointer (some ⟨b, 0 + i.toNat * 1, none⟩)))) (hs : Spl h (.box b (arrF n (fun x => [g x]) f ++ post)) h') (ht : tyOf P t = some (1, false)) (k : K env (.box b (arrF n (fun x => [g x]) (updF f i v) ++ post) :: h')) (hy : ev env y = some (g v) := by rfl) (hv : avCells (g v) = [g v] := by rfl) (h1 : oneOf (g v) = true := by rfl) (h0 : 0 ≤ i := by omega) (hl : i < n := by omega) : AOp P N o env h K :=
  oStB ho hd hx hy hs ht (by rw [hv]; rfl) (by rw [List.length_append, arrF_len one_len]; omega) h1 (by
    rw [Nat.zero_add, hv, set_left _ _ _ _ (by rw [arrF_len one_len]; simp; omega), arrF_set (c := fun x => [g x]) one_len (show i.toNat < n by omega), Int.toNat_of_nonneg h0]; exact k)
theorem oArR (ho : o.op = .store t x y) (hd : o.dst = none) (hx : ev env x = some (.v (.pointer (some ⟨b, p + i.toNat * 1, none⟩)))) (hs : Spl h (.box b (pre ++ arrF n (fun x => [g x]) f)) h') (hp : pre.length = p) (ht : tyOf P t = some (1, false)) (k : K env (.box b (pre ++ arrF n (fun x => [g x]) (updF f i v)) :: h')) (hy : ev env y = some (g v) := by rfl) (hv : avCells (g v) = [g v] := by rfl) (h1 : oneOf (g v) = true := by rfl) (h0 : 0 ≤ i := by omega) (hl : i < n := by omega) : AOp P N o env h K :=
  oStB ho hd hx hy hs ht (by rw [hv]; rfl) (by rw [List.length_append, arrF_len one_len]; omega) h1 (by
    rw [hv, ← hp, set_right _ _ _ _ (by rw [arrF_len one_len]; simp; omega), arrF_set (c := fun x => [g x]) one_len (show i.toNat < n by omega), Int.toNat_of_nonneg h0]; exact k)
theorem oArA (ho : o.op = .store t x y) (hd : o.dst = none) (hx : ev env x = some (.v (.pointer (some ⟨b, 0 + i.toNat * sz, none⟩)))) (hs : Spl h (.box b (arrF n c f)) h') (ht : tyOf P t = some (sz, gg)) (hc : ∀ v, (c v).length = sz) (k : K env (.box b (arrF n c (updF f i v)) :: h')) (hy : ev env y = some (.agg (c v)) := by rfl) (h1 : oneOf (.agg (c v)) = true := by rfl) (h0 : 0 ≤ i := by omega) (hl : i < n := by omega) : AOp P N o env h K :=
  oStB ho hd hx hy hs ht (hc v) (by rw [arrF_len hc, Nat.zero_add, ← Nat.succ_mul]; exact Nat.mul_le_mul_right _ (by omega)) h1 (by
    rw [Nat.zero_add]
    show K env (.box b (setCells (arrF n c f) (i.toNat * sz) (c v)) :: h')
    rw [arrF_set hc (show i.toNat < n by omega), Int.toNat_of_nonneg h0]; exact k)
end

/-- A box's cells said otherwise. -/
theorem weak_box {b : Nat} {cs cs' : List AV} {h' : List HA} (hs : Spl h (.box b cs) h') (e : cs = cs') : Weak N env h env (.box b cs' :: h') := by
  subst e
  exact weak_heap (.cons hs tk_refl)
theorem weak_av {k : Nat} {a a' : AV} (hk : get env k = some a) (e : a = a') : Weak N env h ((k, a') :: env) h := by
  subst e
  exact fun F ac w s => ⟨F, ⟨s.r, s.size, fun j av hj => by
    by_cases hkj : k = j
    · subst hkj
      have : Nat.beq k k = true := by simp
      simp only [A.get, this, cond_true, Option.some.injEq] at hj
      subst hj
      exact s.env k _ hk
    · simp only [A.get, beq_no hkj, cond_false] at hj
      exact s.env j av hj⟩, .refl F h w⟩

end A
end Go.Proofs.Ytmcannmjielalaa
