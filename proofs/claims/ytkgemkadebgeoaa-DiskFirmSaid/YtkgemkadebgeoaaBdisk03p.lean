/- What functions of the program compute: disk03p -/
import Derived.Test.YtkgemkadebgeoaaBkeys03
import Derived.Test.YtkgemkadebgeoaaProg
import Derived.KernelRfl
set_option linter.unusedVariables false
set_option linter.unusedSimpArgs false
namespace Go.Proofs.Ytkgemkadebgeoaa
namespace A

abbrev BS := List Nat
def by1 (n : Nat) : List AV := [.v (.int .u8 n)]
def zeros : BS := List.replicate 512 0
def bsA (b : BS) : AV := .sl 1 (b.map by1)
def rowsA (l : List BS) : AV := .sl 1 (l.map fun b => [bsA b])
structure DW where
  safe : List BS
  waits : List BS
  armed : Int
  dead : Bool
def dwC (w : DW) : List AV := [rowsA w.safe, rowsA w.waits, .int w.armed, .v (.bool w.dead)]
structure DTear where
  kind : Int
  b : BS
def tearC (t : DTear) : List AV := [.int t.kind, bsA t.b]
structure DAct where
  d : Int
  n : Int
  b : BS
  short : Bool
  tears : List DTear
def dactC (a : DAct) : List AV := [.int a.d, .int a.n, bsA a.b, .v (.bool a.short), .sl 2 (a.tears.map tearC)]

def DW.new (n : Nat) : DW := ⟨List.replicate n zeros, List.replicate n [], -1, false⟩
def DW.get (w : DW) (i : Nat) : BS := if 0 < (w.waits.getD i []).length then w.waits.getD i [] else w.safe.getD i []
def DW.act (w : DW) : DW × Bool := ({ w with armed := if 0 < w.armed ∧ w.dead = false then w.armed - 1 else w.armed, dead := w.dead || w.armed == 0 }, !(w.dead || w.armed == 0))
def DW.write (w : DW) (i : Int) (b : BS) : DW × Int :=
  if w.dead then (w, 7) else if i < 0 ∨ (w.safe.length : Int) ≤ i ∨ b.length ≠ 512 then (w, 1) else if w.act.2 then ({ w.act.1 with waits := w.waits.set i.toNat b }, 0) else (w.act.1, 7)
def DW.flush (w : DW) : DW × Int :=
  if w.act.2 then (⟨(List.range w.safe.length).map w.get, List.replicate w.safe.length [], w.act.1.armed, false⟩, 0) else (w.act.1, 7)
def DW.waiting (w : DW) : List Nat := (List.range w.waits.length).filter fun i => 0 < (w.waits.getD i []).length
def torn (b other : BS) : BS := b.take other.length ++ other.drop b.length
def crash1 (w : DW) (s : List BS) (p : Nat × DTear) : List BS :=
  if p.2.kind = 1 then s.set p.1 (w.waits.getD p.1 []) else if p.2.kind = 2 then s.set p.1 (torn p.2.b (w.safe.getD p.1 [])) else s
def DW.crash (w : DW) (l : List DTear) : DW := ⟨(w.waiting.zip l).foldl (crash1 w) w.safe, List.replicate w.safe.length [], -1, false⟩
def DW.arm (w : DW) (n : Int) : DW := { w with armed := if n < 0 then -1 else n }
def DW.read (w : DW) (i : Int) : BS × Int := if w.dead then ([], 7) else if i < 0 ∨ (w.safe.length : Int) ≤ i then ([], 1) else (w.get i.toNat, 0)

/-! ### Maps of bytes -/
def bGet : List (Int × BS) → Int → Option BS
  | [], _ => none
  | (k, v) :: t, n => if n = k then some v else bGet t n
def bPut : List (Int × BS) → Int → BS → List (Int × BS)
  | [], n, v => [(n, v)]
  | (k, u) :: t, n, v => if n = k then (n, v) :: t else (k, u) :: bPut t n v
def kvA (S : List (Int × BS)) : List (Int × AV) := S.map fun p => (p.1, bsA p.2)
theorem kvA_get (k : Int) : ∀ S : List (Int × BS), kvGet (kvA S) k = (bGet S k).map bsA
  | [] => rfl
  | (j, v) :: t => by
    show (if k = j then some (bsA v) else kvGet (kvA t) k) = Option.map bsA (if k = j then some v else bGet t k)
    rw [kvA_get k t]
    split <;> rfl
theorem kvA_put (k : Int) (v : BS) : ∀ S : List (Int × BS), kvPut (kvA S) k (bsA v) = kvA (bPut S k v)
  | [] => rfl
  | (j, u) :: t => by
    show (if k = j then (k, bsA v) :: kvA t else (j, bsA u) :: kvPut (kvA t) k (bsA v)) = kvA (if k = j then (k, v) :: t else (j, u) :: bPut t k v)
    rw [kvA_put k v t]
    split <;> rfl
theorem kvA_len (S : List (Int × BS)) : (kvA S).length = S.length := List.length_map _
theorem kvA_keys (S : List (Int × BS)) : (kvA S).map Prod.fst = S.map Prod.fst := by simp [kvA, List.map_map, Function.comp_def]
theorem kvA_at {S : List (Int × BS)} {i : Nat} {kv : Int × AV} (h : (kvA S)[i]? = some kv) : ∃ b, S[i]? = some (kv.1, b) ∧ kv.2 = bsA b := by
  rw [kvA, List.getElem?_map, Option.map_eq_some_iff] at h
  obtain ⟨⟨k, b⟩, h1, rfl⟩ := h
  exact ⟨b, h1, rfl⟩
theorem bGet_put {k n : Int} {v : BS} : ∀ {S : List (Int × BS)}, bGet (bPut S k v) n = if n = k then some v else bGet S n
  | [] => by simp [bPut, bGet]
  | (j, u) :: t => by
    by_cases hk : k = j
    · simp only [bPut, hk, if_true, bGet]
      split <;> rfl
    · simp only [bPut, hk, if_false, bGet]
      rw [bGet_put]
      by_cases hn : n = j
      · rw [if_pos hn, if_pos hn, if_neg (fun e => hk (e.symm.trans hn))]
      · rw [if_neg hn, if_neg hn]
theorem bGet_mem {n : Int} : ∀ {S : List (Int × BS)}, (bGet S n).isSome = true ↔ n ∈ S.map Prod.fst
  | [] => by simp [bGet]
  | (j, u) :: t => by
    by_cases h : n = j
    · simp [bGet, h]
    · simp only [bGet, h, if_false, List.map_cons, List.mem_cons, false_or]
      exact bGet_mem
theorem bPut_keys {k : Int} {v : BS} {n : Int} : ∀ {S : List (Int × BS)}, n ∈ (bPut S k v).map Prod.fst ↔ n = k ∨ n ∈ S.map Prod.fst := fun {S} => by
  rw [← bGet_mem, ← bGet_mem, bGet_put]
  split
  · simp [*]
  · simp [*]
theorem bPut_nodup {k : Int} {v : BS} : ∀ {S : List (Int × BS)}, (S.map Prod.fst).Nodup → ((bPut S k v).map Prod.fst).Nodup
  | [], _ => by simp [bPut]
  | (j, u) :: t, h => by
    simp only [List.map_cons, List.nodup_cons] at h
    by_cases hk : k = j
    · simp only [bPut, hk, if_true, List.map_cons, List.nodup_cons]; exact h
    · simp only [bPut, hk, if_false, List.map_cons, List.nodup_cons]
      refine ⟨fun hm => ?_, bPut_nodup h.2⟩
      rcases bPut_keys.1 hm with h1 | h1
      · exact hk h1.symm
      · exact h.1 h1
theorem bPut_len {k : Int} {v : BS} : ∀ {S : List (Int × BS)}, (bPut S k v).length ≤ S.length + 1
  | [] => by simp [bPut]
  | (j, u) :: t => by
    by_cases hk : k = j
    · simp only [bPut, hk, if_true, List.length_cons]; omega
    · simp only [bPut, hk, if_false, List.length_cons]
      have := bPut_len (k := k) (v := v) (S := t)
      omega
theorem bGet_at {S : List (Int × BS)} (hn : (S.map Prod.fst).Nodup) : ∀ {i : Nat} {k : Int} {b : BS}, S[i]? = some (k, b) → bGet S k = some b := by
  induction S with
  | nil => intro i k b h; simp at h
  | cons p t ih =>
    obtain ⟨j, u⟩ := p
    intro i k b h
    simp only [List.map_cons, List.nodup_cons] at hn
    cases i with
    | zero => simp at h; simp [bGet, h.1, h.2]
    | succ i =>
      simp only [List.getElem?_cons_succ] at h
      have hm : k ∈ t.map Prod.fst := List.mem_map.2 ⟨(k, b), List.mem_of_getElem? h, rfl⟩
      have hk : ¬ k = j := fun e => hn.1 (e ▸ hm)
      simp only [bGet, hk, if_false]
      exact ih hn.2 h

/-! ### A disk's maps, and the document's disk -/
structure Rel (n : Nat) (S W : List (Int × BS)) (w : DW) : Prop where
  n1 : 1 ≤ n
  n2 : n ≤ 1024
  sn : w.safe.length = n
  wn : w.waits.length = n
  sk : (S.map Prod.fst).Nodup
  wk : (W.map Prod.fst).Nodup
  sr : ∀ k b, bGet S k = some b → 0 ≤ k ∧ k < n ∧ b.length = 512
  wr : ∀ k b, bGet W k = some b → 0 ≤ k ∧ k < n ∧ b.length = 512
  sg : ∀ i : Nat, i < n → w.safe[i]? = some ((bGet S i).getD zeros)
  wg : ∀ i : Nat, i < n → w.waits[i]? = some ((bGet W i).getD [])
  ar : w.armed ≤ 9223372036854775807

theorem keys_len {n : Nat} {S : List (Int × BS)} (hk : (S.map Prod.fst).Nodup) (hr : ∀ k b, bGet S k = some b → 0 ≤ k ∧ k < n ∧ b.length = 512) : S.length ≤ n := by
  have h1 : ∀ k ∈ S.map Prod.fst, 0 ≤ k ∧ k < (n : Int) := fun k hk' => by
    obtain ⟨b, hb⟩ := Option.isSome_iff_exists.1 (bGet_mem.2 hk')
    have := hr k b hb
    exact ⟨this.1, this.2.1⟩
  have h2 : Idx n ((S.map Prod.fst).map Int.toNat) := by
    refine ⟨?_, fun i hi => ?_⟩
    · rw [List.nodup_iff_pairwise_ne, List.pairwise_map]
      rw [List.nodup_iff_pairwise_ne] at hk
      refine List.Pairwise.imp_of_mem (fun {a b} ha hb hab e => hab ?_) hk
      have := h1 a ha
      have := h1 b hb
      omega
    · obtain ⟨k, hk', rfl⟩ := List.mem_map.1 hi
      have := h1 k hk'
      omega
  have := h2.len
  simpa using this
theorem Rel.slen {n : Nat} {S W : List (Int × BS)} {w : DW} (r : Rel n S W w) : S.length ≤ n := keys_len r.sk r.sr
theorem Rel.wlen {n : Nat} {S W : List (Int × BS)} {w : DW} (r : Rel n S W w) : W.length ≤ n := keys_len r.wk r.wr
theorem zeros_len : zeros.length = 512 := List.length_replicate
theorem Rel.s512 {n : Nat} {S W : List (Int × BS)} {w : DW} (r : Rel n S W w) (k : Int) : ((bGet S k).getD zeros).length = 512 := by
  cases h : bGet S k with
  | none => exact zeros_len
  | some b => exact (r.sr k b h).2.2
theorem Rel.getD_s {n : Nat} {S W : List (Int × BS)} {w : DW} (r : Rel n S W w) {i : Nat} (hi : i < n) : w.safe.getD i [] = (bGet S i).getD zeros := by simp [List.getD, r.sg i hi]
theorem Rel.getD_w {n : Nat} {S W : List (Int × BS)} {w : DW} (r : Rel n S W w) {i : Nat} (hi : i < n) : w.waits.getD i [] = (bGet W i).getD [] := by simp [List.getD, r.wg i hi]
theorem Rel.get {n : Nat} {S W : List (Int × BS)} {w : DW} (r : Rel n S W w) {i : Nat} (hi : i < n) : w.get i = ((bGet W i).or (bGet S i)).getD zeros := by
  unfold DW.get
  rw [r.getD_w hi, r.getD_s hi]
  cases h : bGet W i with
  | none => simp
  | some b =>
    have := (r.wr i b h).2.2
    simp [this]
theorem Rel.g512 {n : Nat} {S W : List (Int × BS)} {w : DW} (r : Rel n S W w) {i : Nat} (hi : i < n) : (w.get i).length = 512 := by
  rw [r.get hi]
  cases h : bGet W i with
  | none => simpa using r.s512 i
  | some b => exact (r.wr i b h).2.2
theorem Rel.waiting {n : Nat} {S W : List (Int × BS)} {w : DW} (r : Rel n S W w) : sortI (W.map Prod.fst) = w.waiting.map (fun i : Nat => (i : Int)) := by
  refine sortI_eq r.wk ?_ (fun x => ?_)
  · rw [List.pairwise_map]
    unfold DW.waiting
    exact (List.pairwise_lt_range.filter _).imp (fun h => by omega)
  · rw [← bGet_mem]
    unfold DW.waiting
    simp only [List.mem_map, List.mem_filter, List.mem_range, decide_eq_true_eq, r.wn]
    constructor
    · intro h
      obtain ⟨b, hb⟩ := Option.isSome_iff_exists.1 h
      obtain ⟨h1, h2, h3⟩ := r.wr x b hb
      refine ⟨x.toNat, ⟨by omega, ?_⟩, by omega⟩
      rw [r.getD_w (by omega), show ((x.toNat : Nat) : Int) = x by omega, hb]
      simp [h3]
    · rintro ⟨i, ⟨h1, h2⟩, rfl⟩
      rw [r.getD_w h1] at h2
      cases h : bGet W (i : Int) with
      | none => rw [h] at h2; simp at h2
      | some b => rfl
theorem rel_new {n : Nat} (h1 : 1 ≤ n) (h2 : n ≤ 1024) : Rel n [] [] (DW.new n) where
  n1 := h1
  n2 := h2
  sn := by simp [DW.new]
  wn := by simp [DW.new]
  sk := by simp
  wk := by simp
  sr := fun k b h => by simp [bGet] at h
  wr := fun k b h => by simp [bGet] at h
  sg := fun i hi => by simp [DW.new, bGet, hi]
  wg := fun i hi => by simp [DW.new, bGet, hi]
  ar := by simp [DW.new]
theorem Rel.act {n : Nat} {S W : List (Int × BS)} {w : DW} (r : Rel n S W w) : Rel n S W w.act.1 := by
  have := r.ar
  exact { r with ar := by show (if 0 < w.armed ∧ w.dead = false then w.armed - 1 else w.armed) ≤ 9223372036854775807; split <;> omega }
theorem Rel.arm {n : Nat} {S W : List (Int × BS)} {w : DW} (r : Rel n S W w) {k : Int} (hk : k ≤ 9223372036854775807) : Rel n S W (w.arm k) := { r with ar := by show (if k < 0 then -1 else k) ≤ _; split <;> omega }
theorem Rel.put {n : Nat} {S W : List (Int × BS)} {w : DW} (r : Rel n S W w) {i : Int} {b : BS} (h0 : 0 ≤ i) (hi : i < n) (hb : b.length = 512) : Rel n S (bPut W i b) { w with waits := w.waits.set i.toNat b } :=
  { r with
    wn := by show (w.waits.set _ _).length = n; rw [List.length_set]; exact r.wn
    wk := bPut_nodup r.wk
    wr := fun k c h => by
      rw [bGet_put] at h
      split at h
      · rename_i hk; subst hk; cases h; exact ⟨h0, hi, hb⟩
      · exact r.wr k c h
    wg := fun k hk => by
      show (w.waits.set i.toNat b)[k]? = _
      rw [bGet_put]
      by_cases hki : (k : Int) = i
      · rw [if_pos hki, show i.toNat = k by omega, List.getElem?_set_self (by rw [r.wn]; exact hk)]
        rfl
      · rw [if_neg hki, List.getElem?_set_ne (by omega)]
        exact r.wg k hk }
theorem Rel.flushed {n : Nat} {S W S' : List (Int × BS)} {w : DW} (r : Rel n S W w) (hk : (S'.map Prod.fst).Nodup) (hg : ∀ k, bGet S' k = (bGet W k).or (bGet S k)) (a : Int) (ha : a ≤ 9223372036854775807) : Rel n S' [] ⟨(List.range w.safe.length).map w.get, List.replicate w.safe.length [], a, false⟩ :=
  { r with
    sn := by simp [r.sn]
    wn := by simp [r.sn]
    sk := hk
    wk := by simp
    sr := fun k b h => by
      rw [hg] at h
      cases hw : bGet W k with
      | some c => rw [hw] at h; cases h; exact r.wr k b hw
      | none => rw [hw] at h; exact r.sr k b h
    wr := fun k b h => by simp [bGet] at h
    sg := fun i hi => by
      simp only [List.getElem?_map, r.sn, List.getElem?_range hi, Option.map_some]
      rw [r.get hi, hg]
    wg := fun i hi => by simp [r.sn, hi, bGet]
    ar := ha }
/-- In the midst of a crash: S is the safe sectors so far. -/
theorem Rel.crash1 {n : Nat} {S S0 W : List (Int × BS)} {w : DW} {s : List BS} (r0 : Rel n S0 W w) (r : Rel n S W { w with safe := s }) {i : Nat} (hi : i < n) (hw : 0 < (w.waits.getD i []).length) (hS : bGet S i = bGet S0 i) (t : DTear) :
    Rel n (if t.kind = 1 then bPut S i ((bGet W i).getD []) else if t.kind = 2 then bPut S i (torn t.b ((bGet S i).getD zeros)) else S) W { w with safe := A.crash1 w s (i, t) } := by
  have key : ∀ b : BS, b.length = 512 → Rel n (bPut S i b) W { w with safe := s.set i b } := fun b hb =>
    { r with
      sn := by show (s.set _ _).length = n; rw [List.length_set]; exact r.sn
      sk := bPut_nodup r.sk
      sr := fun k c h => by
        rw [bGet_put] at h
        split at h
        · rename_i hk; subst hk; cases h; exact ⟨by omega, by omega, hb⟩
        · exact r.sr k c h
      sg := fun k hk => by
        show (s.set i b)[k]? = _
        rw [bGet_put]
        by_cases hki : (k : Int) = i
        · have hki' : k = i := by omega
          subst hki'
          rw [if_pos rfl, List.getElem?_set_self (by have := r.sn; exact this ▸ hk)]
          rfl
        · rw [if_neg hki, List.getElem?_set_ne (by omega)]
          exact r.sg k hk }
  unfold A.crash1
  dsimp only
  by_cases h1 : t.kind = 1
  · rw [if_pos h1, if_pos h1, r0.getD_w hi]
    refine key _ ?_
    rw [r0.getD_w hi] at hw
    cases h : bGet W (i : Int) with
    | none => rw [h] at hw; simp at hw
    | some b => exact (r0.wr i b h).2.2
  · rw [if_neg h1, if_neg h1]
    by_cases h2 : t.kind = 2
    · rw [if_pos h2, if_pos h2, r0.getD_s hi, hS]
      refine key _ ?_
      have := r0.s512 i
      simp only [torn, List.length_append, List.length_take, List.length_drop]
      omega
    · rw [if_neg h2, if_neg h2]
      exact r
theorem Rel.crashed {n : Nat} {S W : List (Int × BS)} {w : DW} {s : List BS} (r : Rel n S W { w with safe := s }) : Rel n S [] ⟨s, List.replicate n [], -1, false⟩ :=
  { r with
    wn := by simp
    wk := by simp
    wr := fun k b h => by simp [bGet] at h
    wg := fun i hi => by simp [hi, bGet]
    ar := by show (-1 : Int) ≤ _; omega }

end A
end Go.Proofs.Ytkgemkadebgeoaa
