/- slices.Sort at ints: the shelf's proof as a contract. Over any program. -/
import Derived.Test.YtmcannmjielalaaAbs17
import Derived.Shelf.Sort.Plain
import Derived.Shelf.Slices.In.SortNone
import Derived.Sort.OwnSortedInts
set_option linter.unusedVariables false
set_option linter.unusedSimpArgs false
namespace Go.Proofs.Ytmcannmjielalaa
namespace A
open Go.Sort Go.Shelf

def intA (n : Int) : List AV := [.int n]
def sortI (zs : List Int) : List Int := zs.mergeSort fun x y => decide (x ≤ y)
theorem triple_sort {P : Program} {ρ : Ren} {f : FuncId} (Ly : Lays.n189 P ρ) (hf : ρ.f 189 = f) (hb : HasBody P f) (g : Option Nat) (c e : Nat) (zs : List Int) (hz : zs.length < 4611686018427387904) :
    Triple P f [.v (slV g zs.length c)] [.sl g c e 1 (zs.map intA)] (fun r h' => r = .tup [] ∧ h' = [.sl g c e 1 ((sortI zs).map intA)]) := by
  subst hf
  refine ⟨hb, fun F w vs hR hreps => ?_⟩
  obtain ⟨hv1, hv2⟩ := hreps
  obtain ⟨x, rfl⟩ : ∃ x, vs = #[x] := by
    match vs, hv1 with
    | ⟨[x]⟩, _ => exact ⟨x, rfl⟩
  have hx := hv2 0 _ x rfl rfl
  cases hx
  have hha := hR.rep _ (List.mem_singleton.2 rfl)
  obtain ⟨xs, ho, hy, h1, h2⟩ := hha
  have hlen : (zs.map intA).length = zs.length := List.length_map _
  rw [hlen] at ho
  have hsl : (sortI zs).length = zs.length := List.length_mergeSort zs
  have hxs : xs = zs.map (Value.int .i64) := by
    apply List.ext_getElem?
    intro j
    by_cases hj : j < zs.length
    · have hjx : j < xs.length := by rw [ho.1]; omega
      have := h2 j 0 [.int zs[j]] (.int zs[j]) xs[j] (by simp [hj, intA]) rfl (by simp [hjx])
      rw [List.getElem?_eq_getElem hjx, List.getElem?_map, List.getElem?_eq_getElem hj]
      generalize xs[j] = y at this
      cases this
      rfl
    · rw [List.getElem?_eq_none (by rw [ho.1]; omega), List.getElem?_eq_none (by simp; omega)]
  subst hxs
  have rep0 : ∀ (F : Nat → Prop) (w : World) (ts : List Int) (i j : Nat) (y : List AV) (av : AV) (x : Value), (ts.map intA)[i]? = some y → y[j]? = some av → (ts.map (Value.int .i64))[i * 1 + j]? = some x → Rep F w av x := by
    intro F w ts i j y av x hi hj hx
    rw [List.getElem?_map, Option.map_eq_some_iff] at hi
    obtain ⟨z, hz, rfl⟩ := hi
    match j with
    | 0 => simp [intA] at hj; subst hj; simp [hz] at hx; subst hx; exact .v _
    | j + 1 => simp [intA] at hj
  match g with
  | none =>
    have hn : zs = [] := by
      rcases ho.2 with ⟨_, h⟩ | ⟨b, _, _, h, _⟩
      · exact List.eq_nil_of_length_eq_zero h
      · simp [slV] at h
    subst hn
    refine (Any.slices_Sort_int_none Ly none c w).mono ?_
    rintro ex w' ⟨rfl, rfl⟩
    exact ⟨.tup [], .tuple #[], _, F, rfl, ⟨rfl, rfl⟩, .tup _ _ rfl (fun j av x hj => by simp at hj), by rw [show sortI [] = [] by simp [sortI]]; exact hR, by rw [show sortI [] = [] by simp [sortI]]; exact .refl _ _ _⟩
  | some b =>
    rcases ho.2 with ⟨h, _⟩ | ⟨g', cap, cur, hv, _, hg, hnc, hcm, hcs, htake⟩
    · simp [slV] at h
    · simp only [slV, Option.map_some, Value.slice.injEq, Option.some.injEq, Addr.mk.injEq, and_true, true_and] at hv
      obtain ⟨rfl, rfl⟩ := hv
      rw [Nat.mul_one] at htake
      have hlt : b < w.heap.size := hR.lt b (by simp [HA.own])
      refine (Any.slices_Sort_int Ly b 0 c zs w (holds_of_blockI hg htake) hlt hz).mono ?_
      rintro ex w' ⟨rfl, n, os, rfl⟩
      have hrow := ownsRow_sortedI (n := n) (os := os) (base := 0) (ss := zs) (ts := sortI zs) hsl (Nat.zero_le _) hg hnc hcm hcs
      have hgr := grownBy_sortedI (n := n) (os := os) (g := b) (w := w) (sortI zs).toArray
      have hset : ∀ k, F k → (grow (putRow (Value.int .i64) (Sort.ahead w n) b 0 (sortI zs).toArray) os).heap[k]? = w.heap[k]? := fun k hk => hgr.block k (hR.sep k hk).1 (fun e => (hR.sep k hk).2 (by simp at e; simp [HA.own, e]))
      refine ⟨.tup [], .tuple #[], _, F, rfl, ⟨rfl, rfl⟩, .tup _ _ rfl (fun j av x hj => by simp at hj), ⟨fun y hy => ?_, by simp [HA.own], fun k hk => ?_, fun k hk => ⟨Nat.lt_of_lt_of_le (hR.sep k hk).1 hgr.size, fun hm => (hR.sep k hk).2 (by simpa [HA.own] using hm)⟩⟩, ⟨hgr.os, hgr.output, hgr.tape, hgr.size, fun k hk hn => hgr.block k hk (fun e => hn (by simp at e; simp [HA.own, e])), fun k hk => .inl (by simpa [HA.own] using hk), fun _ h => h, fun _ h => .inl h, (by show w.drawn ≤ w.drawn + n; omega)⟩⟩
      · rw [List.mem_singleton] at hy
        subst hy
        have e1 : ((sortI zs).map intA).length = zs.length := by rw [List.length_map, hsl]
        refine ⟨(sortI zs).map (Value.int .i64), by rw [e1]; exact hrow, fun y hy => ?_, fun x hx => ?_, rep0 _ _ _⟩
        · obtain ⟨z, _, rfl⟩ := List.mem_map.1 hy; rfl
        · obtain ⟨z, _, rfl⟩ := List.mem_map.1 hx; rfl
      · have : k = b := by simpa [HA.own] using hk
        subst this
        exact Nat.lt_of_lt_of_le hlt hgr.size

/-! ### Keys in whatever order, sorted -/
theorem sortI_perm {a b : List Int} (p : a.Perm b) : sortI a = sortI b := by
  refine List.Perm.eq_of_pairwise (le := fun x y => decide (x ≤ y) = true) (fun x y _ _ h1 h2 => ?_) ?_ ?_ ?_
  · simp at h1 h2; omega
  · exact List.pairwise_mergeSort (fun a b c h1 h2 => by simp at *; omega) (fun a b => by simp; omega) a
  · exact List.pairwise_mergeSort (fun a b c h1 h2 => by simp at *; omega) (fun a b => by simp; omega) b
  · exact (List.mergeSort_perm _ _).trans (p.trans (List.mergeSort_perm _ _).symm)
theorem sortI_length (a : List Int) : (sortI a).length = a.length := List.length_mergeSort a
theorem sortI_sorted (a : List Int) : (sortI a).Pairwise (· ≤ ·) := (List.pairwise_mergeSort (le := fun x y => decide (x ≤ y)) (fun a b c h1 h2 => by simp at *; omega) (fun a b => by simp; omega) a).imp (fun h => by simpa using h)
theorem sortI_mem {a : List Int} {x : Int} : x ∈ sortI a ↔ x ∈ a := (List.mergeSort_perm _ _).mem_iff
/-- A list that is strictly sorted and has the same elements. -/
theorem sortI_eq {a b : List Int} (hn : a.Nodup) (hb : b.Pairwise (· < ·)) (hm : ∀ x, x ∈ a ↔ x ∈ b) : sortI a = b := by
  have hbn : b.Nodup := hb.imp (fun h e => by omega)
  refine List.Perm.eq_of_pairwise (le := fun x y => x ≤ y) (fun x y _ _ h1 h2 => by omega) (sortI_sorted a) (hb.imp (fun h => by omega)) ?_
  exact (List.mergeSort_perm _ _).trans ((List.perm_ext_iff_of_nodup hn hbn).2 hm)

def keyAt (kvs : List (Int × AV)) (i : Nat) : Int := (kvs.getD i (0, .v undef)).1
theorem keyAt_get {kvs : List (Int × AV)} {i : Nat} {kv : Int × AV} (h : kvs[i]? = some kv) : keyAt kvs i = kv.1 := by simp [keyAt, List.getD, h]
def KNx (kvs : List (Int × AV)) (pre : List (List AV)) (x : List AV) : Prop := ∃ (ks : List Int) (k : Int), pre = ks.map intA ∧ x = intA k ∧ ks.length < kvs.length
def KE (kvs : List (Int × AV)) (xs : List (List AV)) : Prop := ∃ ks : List Int, xs = ks.map intA ∧ ks.Perm (kvs.map Prod.fst)
theorem intA_inj {a b : List Int} (h : a.map intA = b.map intA) : a = b := by
  refine (List.map_inj_right (fun x y h => ?_)).1 h
  simpa [intA] using h
def Idx (n : Nat) (idx : List Nat) : Prop := idx.Nodup ∧ ∀ i ∈ idx, i < n
theorem Idx.nil {n : Nat} : Idx n [] := ⟨.nil, fun i h => by simp at h⟩
theorem Idx.len : ∀ {n : Nat} {idx : List Nat}, Idx n idx → idx.length ≤ n
  | 0, [], _ => Nat.le_refl _
  | 0, x :: l, h => by have := h.2 x (by simp); omega
  | n + 1, idx, h => by
    have h1 : Idx n (idx.erase n) := ⟨h.1.erase n, fun i hi => by
      obtain ⟨h2, h3⟩ := (List.Nodup.mem_erase_iff h.1).1 hi
      have := h.2 i h3
      omega⟩
    have h2 := h1.len
    rw [List.length_erase] at h2
    split at h2 <;> omega
theorem Idx.add {n i : Nat} {idx : List Nat} (h : Idx n idx) (hi : i < n) (hn : i ∉ idx) : Idx n (idx ++ [i]) :=
  ⟨List.nodup_append.2 ⟨h.1, by simp, fun a ha b hb e => by simp at hb; subst hb; subst e; exact hn ha⟩, fun j hj => by
    rcases List.mem_append.1 hj with hj | hj
    · exact h.2 j hj
    · simp at hj; omega⟩
theorem Idx.lt {n i : Nat} {idx : List Nat} (h : Idx n idx) (hi : i < n) (hn : i ∉ idx) : idx.length < n := by
  have := (h.add hi hn).len
  simp at this
  omega
theorem Idx.all {n : Nat} {idx : List Nat} (h : Idx n idx) (ha : ∀ i, i < n → i ∈ idx) : idx.Perm (List.range n) :=
  (List.perm_ext_iff_of_nodup h.1 List.nodup_range).2 fun i => ⟨fun hi => List.mem_range.2 (h.2 i hi), fun hi => ha i (List.mem_range.1 hi)⟩
theorem keyAt_range (kvs : List (Int × AV)) : (List.range kvs.length).map (keyAt kvs) = kvs.map Prod.fst := by
  apply List.ext_getElem?
  intro j
  by_cases hj : j < kvs.length
  · simp [hj, keyAt, List.getD]
  · rw [List.getElem?_eq_none (by simp; omega), List.getElem?_eq_none (by simp; omega)]
theorem Idx.ke {kvs : List (Int × AV)} {idx : List Nat} (h : Idx kvs.length idx) (ha : ∀ i, i < kvs.length → i ∈ idx) : KE kvs (idx.map fun i => intA (keyAt kvs i)) :=
  ⟨idx.map (keyAt kvs), by simp, by rw [← keyAt_range]; exact (h.all ha).map _⟩
theorem Idx.knx {kvs : List (Int × AV)} {idx : List Nat} {i : Nat} {kv : Int × AV} (h : Idx kvs.length idx) (hk : kvs[i]? = some kv) (hn : i ∉ idx) : KNx kvs (idx.map fun i => intA (keyAt kvs i)) (intA kv.1) :=
  ⟨idx.map (keyAt kvs), kv.1, by simp, rfl, by rw [List.length_map]; exact h.lt (List.getElem?_eq_some_iff.1 hk).1 hn⟩

end A
end Go.Proofs.Ytmcannmjielalaa
