/- Texts that KpathFirst's proof rests on, part 14. -/
import Derived.Shelf.SlSortCmp.NoneTotal
import Derived.Shelf.SlSortCmp.WholeK
import Derived.Test.YtmcannmjielalaaS12KpathFirst
set_option linter.unusedVariables false
set_option linter.unusedSimpArgs false
namespace Go.Proofs.Ytmcannmjielalaa
namespace A
open Go.Sort Go.Shelf Go.Lib Go.RowKit
theorem run_enter {P : Program} {g : FuncId} (hb : HasBody P g) (args : Array Value) (w : World) : (callFunc g args).run P w = .ok (.enter g args) w := by
  obtain ⟨fn, h1, h2, h3⟩ := hb
  have hn' : ¬ fn.name = "runtime.NumGoroutine" := by simpa using h2
  have hb' : ¬ fn.body = none := fun h => by rw [h] at h3; cases h3
  simp [callFunc, h1, hn', hb']
theorem rep_v {F : Nat → Prop} {w : World} {x y : Value} (h : Rep F w (.v x) y) : y = x := by cases h; rfl
theorem heap_sortedK {w : World} {b n : Nat} {os : Array Obj} {cur D : Array Value} {e : TypeId} (hb : w.heap[b]? = some (.cells cur e (0, 0))) :
    (grow (putRow id (Sort.ahead w n) b 0 D) os).heap[b]? = some (.cells (putCells id 0 D cur) e (0, 0)) := by
  have hg : b < w.heap.size := (Array.getElem?_eq_some_iff.1 hb).1
  rw [heap_grow_old _ _ (by simpa using hg)]
  simp [putRow, mapBlock, Sort.ahead, Array.getElem?_modify, hb, onCells]
theorem grownBy_sortedK {w : World} {b n : Nat} {os : Array Obj} (D : Array Value) : w.grownBy (grow (putRow id (Sort.ahead w n) b 0 D) os) (some b) := by
  refine ⟨rfl, rfl, rfl, by simp, fun k hk hne => ?_⟩
  rw [heap_grow_old _ _ (by simpa using hk)]
  have : b ≠ k := fun e => hne (by rw [e])
  simp [putRow, mapBlock, Sort.ahead, Array.getElem?_modify, this]
theorem take_putCellsK (cur D : Array Value) (h : D.size ≤ cur.size) : (putCells id 0 D cur).toList.take D.size = D.toList := by
  apply List.ext_getElem?
  intro j
  by_cases hj : j < D.size
  · rw [List.getElem?_take_of_lt hj, Array.getElem?_toList]
    simp [putCells, hj, show j < cur.size by omega]
  · rw [List.getElem?_take_eq_none (by omega), List.getElem?_eq_none (by simp; omega)]
theorem mul_add_div {i j k : Nat} (h : j < k) : (i * k + j) / k = i := by
  rw [Nat.mul_comm, Nat.mul_add_div (by omega), Nat.div_eq_of_lt h, Nat.add_zero]
theorem mul_add_mod {i j k : Nat} (h : j < k) : (i * k + j) % k = j := by
  rw [Nat.mul_comm, Nat.mul_add_mod, Nat.mod_eq_of_lt h]
end A
end Go.Proofs.Ytmcannmjielalaa
set_option linter.unusedVariables false
set_option linter.unusedSimpArgs false
namespace Go.Proofs.Ytmcannmjielalaa
namespace A
structure Wi where
  a : Int
  b : Int
  u : Bool
  ca : Int
  cb : Int
  deriving DecidableEq, Inhabited
theorem rng_step {m : Nat} : ((List.range (m + 1)).map fun (i : Nat) => ((i + 1 : Nat) : Int)) = ((List.range m).map fun (i : Nat) => ((i + 1 : Nat) : Int)) ++ [((m + 1 : Nat) : Int)] := by
  rw [List.range_succ, List.map_append]
  rfl
theorem mem_rng {m : Nat} {v : Int} : (v ∈ (List.range m).map fun (i : Nat) => ((i + 1 : Nat) : Int)) ↔ 1 ≤ v ∧ v ≤ m := by
  rw [List.mem_map]
  constructor
  · rintro ⟨i, hi, rfl⟩; rw [List.mem_range] at hi; omega
  · intro h; exact ⟨(v - 1).toNat, by rw [List.mem_range]; omega, by omega⟩
theorem srt_ext {α : Type} {r : α → α → Prop} (irr : ∀ a, ¬ r a a) (tr : ∀ a b c, r a b → r b c → r a c) : ∀ {l m : List α}, l.Pairwise r → m.Pairwise r → (∀ a, a ∈ l ↔ a ∈ m) → l = m
  | [], [], _, _, _ => rfl
  | [], b :: m, _, _, h => by have := (h b).2 (by simp); simp at this
  | a :: l, [], _, _, h => by have := (h a).1 (by simp); simp at this
  | a :: l, b :: m, hl, hm, h => by
    rw [List.pairwise_cons] at hl hm
    have e : a = b := by
      rcases List.mem_cons.1 ((h a).1 (by simp)) with e | h1
      · exact e
      · rcases List.mem_cons.1 ((h b).2 (by simp)) with e | h2
        · exact e.symm
        · exact absurd (tr a b a (hl.1 b h2) (hm.1 a h1)) (irr a)
    subst e
    rw [srt_ext irr tr hl.2 hm.2 (fun x => ?_)]
    constructor
    · intro hx
      rcases List.mem_cons.1 ((h x).1 (by simp [hx])) with e | h1
      · subst e; exact absurd (hl.1 x hx) (irr x)
      · exact h1
    · intro hx
      rcases List.mem_cons.1 ((h x).2 (by simp [hx])) with e | h1
      · subst e; exact absurd (hm.1 x hx) (irr x)
      · exact h1
end A
end Go.Proofs.Ytmcannmjielalaa
set_option linter.unusedVariables false
set_option linter.unusedSimpArgs false
namespace Go.Proofs.Ytmcannmjielalaa
namespace A
theorem has_step {l : List Int} {i : Nat} {n x : Int} (hx : l[i]? = some x) (hv : ∀ y ∈ l.take i, y ≠ n) (h : x ≠ n) : ∀ y ∈ l.take (i + 1), y ≠ n := fun y hy => by
  rw [take_step hx] at hy
  rcases List.mem_append.1 hy with hy | hy
  · exact hv y hy
  · rw [List.mem_singleton.1 hy]; exact h
theorem has_no {l : List Int} {n : Int} (h : ∀ y ∈ l, y ≠ n) : l.contains n = false := by
  rw [Bool.eq_false_iff]
  intro h2
  exact h n (by simpa using h2) rfl
theorem has_yes {l : List Int} {i : Nat} {n x : Int} (hx : l[i]? = some x) (h : x = n) : l.contains n = true := by
  subst h
  simpa using List.mem_of_getElem? hx
/- waymarkref27.Has -/
set_option maxRecDepth 100000 in
set_option maxHeartbeats 400000 in
theorem ref27_Has {l : List Int} {n : Int} (hl : l.length < 9223372036854775807) : Triple Try.prog 37 [.sl 1 (l.map intA), .int n] [] (Is (.v (.bool (l.contains n))) []) := by
  refine triple_of Try.func37 rfl (by kernel_rfl) rfl (by simp) ?_
  refine aSeq ?_
  refine aReg ?_
  refine sp pMa ?_
  refine oNil ?_
  refine aSeq ?_
  refine aSeq ?_
  refine aReg ?_
  refine sp pMa ?_
  refine oNil ?_
  refine aBlock ?_
  refine loopF (α := Nat) (kept := [(0, _), (1, _)]) (fun i => i ≤ l.length ∧ ∀ y ∈ l.take i, y ≠ n) (fun i => [(5, .int i)]) (fun i => []) (fun i => l.length - i) 0 ?_ ⟨gInt rfl (by first | rfl | omega | simp), rfl, rfl, trivial⟩ (by repeat constructor) ?_
  · skip
    exact ⟨by omega, fun y hy => by simp at hy⟩
  · rintro i ⟨hi, hv⟩
    refine aSeq ?_
    refine aSeq ?_
    refine aReg ?_
    refine sp pM ?_
    refine sp pM ?_
    refine sp (by first | exact pLm sl_25 | exact pLs sl_25) ?_
    refine sp pB ?_
    refine oNil ?_
    refine aCondDec rfl (fun c9 => ?_) (fun c9 => ?_)
    · skip
      refine aSkip ?_
      refine aSeq ?_
      refine aBlock ?_
      refine aSeq ?_
      obtain ⟨x, hx⟩ : ∃ z, l[i]? = some z := ⟨_, List.getElem?_eq_getElem (by omega)⟩
      refine aReg ?_
      refine sp pM ?_
      refine sp pM ?_
      first | refine sp (pIx es_25) ?_ | (refine obtSN 12 13 rfl rfl (by omega) (fun x14 hx14 => ?_); refine sp (pIs es_25 hx14) ?_) | (refine obtS 12 13 rfl rfl (by omega) (by omega) (fun x14 hx14 => ?_); refine sp (pIs es_25 hx14) ?_) | refine sp (pIo es_25) ?_
      refine sr (rS1 ty_3) ?_
      refine sp pM ?_
      refine sp pB ?_
      refine oNil ?_
      refine aCondEq rfl (fun c17 => ?_) (fun c17 => ?_)
      · skip
        refine aSeq ?_
        refine aReg ?_
        refine sp pMa ?_
        refine oNil ?_
        refine aRet ?_
        refine finIs rfl ?_
        rw [has_yes hx (by omega)]
        rfl
      · skip
        refine aSkip ?_
        refine aReg ?_
        refine sp pM ?_
        refine sp pAd ?_
        refine sp pMa ?_
        refine oNil ?_
        refine ⟨i + 1, ?_, by (try dsimp only); omega, ⟨gInt rfl (by first | rfl | omega | simp), rfl, rfl, trivial⟩, _, (by repeat constructor)⟩
        exact ⟨by omega, has_step hx hv (by omega)⟩
    · skip
      refine aExit rfl ?_
      refine aSeq ?_
      refine aReg ?_
      refine sp pMa ?_
      refine oNil ?_
      refine aRet ?_
      refine finIs rfl ?_
      rw [take_all (by omega)] at hv
      rw [has_no hv]
      rfl
/- slices.Index[[]int,int] -/
set_option maxRecDepth 100000 in
set_option maxHeartbeats 400000 in
theorem index_int {l : List Int} {n : Int} (hl : l.length < 9223372036854775807) : Triple Try.prog 240 [.sl 1 (l.map intA), .int n] [] (fun q h' => ∃ k : Int, q = .int k ∧ h' = [] ∧ decide (0 ≤ k) = l.contains n) := by
  refine triple_of Try.func240 rfl (by kernel_rfl) rfl (by simp) ?_
  refine aSeq ?_
  refine aReg ?_
  refine sp pMa ?_
  refine oNil ?_
  refine aSeq ?_
  refine aSeq ?_
  refine aReg ?_
  refine sp pM ?_
  refine sp (by first | exact pLm sl_25 | exact pLs sl_25) ?_
  refine sp pM ?_
  refine oNil ?_
  refine aBlock ?_
  refine loopF (α := Nat) (kept := [(0, _), (1, _), (7, _)]) (fun i => i ≤ l.length ∧ ∀ y ∈ l.take i, y ≠ n) (fun i => [(8, .int i)]) (fun i => []) (fun i => l.length - i) 0 ?_ ⟨gInt rfl (by first | rfl | omega | simp), rfl, rfl, rfl, trivial⟩ (by repeat constructor) ?_
  · skip
    exact ⟨by omega, fun y hy => by simp at hy⟩
  · rintro i ⟨hi, hv⟩
    refine aSeq ?_
    refine aReg ?_
    refine sp pB ?_
    refine oNil ?_
    refine aSeq ?_
    refine aCondDec rfl (fun c9 => ?_) (fun c9 => ?_)
    · skip
      refine aSkip ?_
      refine aSeq ?_
      refine aBlock ?_
      refine aSeq ?_
      obtain ⟨x, hx⟩ : ∃ z, l[i]? = some z := ⟨_, List.getElem?_eq_getElem (by omega)⟩
      refine aReg ?_
      refine sp pM ?_
      refine sp pMa ?_
      refine oNil ?_
      refine aSeq ?_
      refine aReg ?_
      refine sp pM ?_
      refine sp pM ?_
      refine sp pM ?_
      first | refine sp (pIx es_25) ?_ | (refine obtSN 12 13 rfl rfl (by omega) (fun x14 hx14 => ?_); refine sp (pIs es_25 hx14) ?_) | (refine obtS 12 13 rfl rfl (by omega) (by omega) (fun x14 hx14 => ?_); refine sp (pIs es_25 hx14) ?_) | refine sp (pIo es_25) ?_
      refine sr (rS1 ty_3) ?_
      refine sp pB ?_
      refine oNil ?_
      refine aCondEq rfl (fun c16 => ?_) (fun c16 => ?_)
      · skip
        refine aSeq ?_
        refine aReg ?_
        refine sp pM ?_
        refine sp pMa ?_
        refine oNil ?_
        refine aRet ?_
        refine ⟨_, [], _, rfl, .nil, (i : Int), rfl, rfl, ?_⟩
        rw [has_yes hx (by omega)]
        exact decide_eq_true (by omega)
      · skip
        refine aSkip ?_
        refine aReg ?_
        refine sp pAd ?_
        refine sp pM ?_
        refine oNil ?_
        refine ⟨i + 1, ?_, by (try dsimp only); omega, ⟨gInt rfl (by first | rfl | omega | simp), rfl, rfl, rfl, trivial⟩, _, (by repeat constructor)⟩
        exact ⟨by omega, has_step hx hv (by omega)⟩
    · skip
      refine aExit rfl ?_
      refine aSeq ?_
      refine aReg ?_
      refine sp pMa ?_
      refine oNil ?_
      rw [take_all (by omega)] at hv
      refine aRet ?_
      refine ⟨_, [], _, rfl, .nil, -1, rfl, rfl, ?_⟩
      rw [has_no hv]
      rfl
/- slices.Contains[[]int,int] -/
set_option maxRecDepth 100000 in
set_option maxHeartbeats 400000 in
theorem contains_int {l : List Int} {n : Int} (hl : l.length < 9223372036854775807) : Triple Try.prog 163 [.sl 1 (l.map intA), .int n] [] (Is (.v (.bool (l.contains n))) []) := by
  refine triple_of Try.func163 rfl (by kernel_rfl) rfl (by simp) ?_
  refine aSeq ?_
  refine aReg ?_
  refine sp pMa ?_
  refine oNil ?_
  refine aSeq ?_
  refine aReg ?_
  refine sp pM ?_
  refine sp pM ?_
  refine sa ?_
  refine ca rfl rfl rfl (index_int (l := l) (n := n) hl) ?_
  rintro _ _ ⟨k, rfl, rfl, hk⟩
  refine sp pB ?_
  rw [hk]
  refine sp pMa ?_
  refine oNil ?_
  refine aRet ?_
  refine finIs rfl ?_
  rfl
end A
end Go.Proofs.Ytmcannmjielalaa
set_option linter.unusedVariables false
set_option linter.unusedSimpArgs false
namespace Go.Proofs.Ytmcannmjielalaa
namespace A
structure Pth where
  ns : List Int
  c : Int
  deriving DecidableEq, Inhabited
def pthC (p : Pth) : List AV := [.sl 1 (p.ns.map intA), .v (.int .u64 p.c)]
def lastN (ns : List Int) : Int := ns.getD (ns.length - 1) 0
theorem lastN_app (ns : List Int) (t : Int) : lastN (ns ++ [t]) = t := by simp [lastN, List.getD]
theorem lastN_cons (a b : Int) (s : List Int) : lastN (a :: b :: s) = lastN (b :: s) := by simp [lastN, List.getD]
theorem lastN_mem {ns : List Int} (h : ns ≠ []) : lastN ns ∈ ns := by
  have h0 := List.length_pos_iff.2 h
  unfold lastN
  rw [List.getD, List.getElem?_eq_getElem (by omega)]
  exact List.getElem_mem _
theorem lastN_at {ns : List Int} (h : ns ≠ []) : ns[ns.length - 1]? = some (lastN ns) := by
  have h0 := List.length_pos_iff.2 h
  unfold lastN
  rw [List.getD, List.getElem?_eq_getElem (by omega)]
  rfl
/-! ### What a way costs -/
def cst (l : List Arc) (a b : Int) : Int := ((l.find? fun x => x.f == a && x.t == b).map (·.c)).getD 0
def pcost (l : List Arc) : List Int → Int
  | a :: b :: t => cst l a b + pcost l (b :: t)
  | [_] => 0
  | [] => 0
theorem pcost_app {l : List Arc} {t : Int} : ∀ {ns : List Int}, ns ≠ [] → pcost l (ns ++ [t]) = pcost l ns + cst l (lastN ns) t
  | [], h => absurd rfl h
  | [a], _ => by show cst l a t + 0 = 0 + cst l a t; omega
  | a :: b :: s, _ => by
    have h := pcost_app (l := l) (t := t) (ns := b :: s) (by simp)
    rw [lastN_cons]
    show cst l a b + pcost l ((b :: s) ++ [t]) = cst l a b + pcost l (b :: s) + _
    rw [h]
    omega
theorem arcU {l : List Arc} (h : l.Pairwise ltA) {x y : Arc} (hx : x ∈ l) (hy : y ∈ l) (e1 : x.f = y.f) (e2 : x.t = y.t) : x = y := by
  obtain ⟨i, hi⟩ := List.mem_iff_getElem?.1 hx
  obtain ⟨j, hj⟩ := List.mem_iff_getElem?.1 hy
  obtain ⟨hil, rfl⟩ := List.getElem?_eq_some_iff.1 hi
  obtain ⟨hjl, rfl⟩ := List.getElem?_eq_some_iff.1 hj
  have hp := List.pairwise_iff_getElem.1 h
  rcases Nat.lt_trichotomy i j with hlt | e | hlt
  · have := hp i j hil hjl hlt; unfold ltA at this; omega
  · subst e; rfl
  · have := hp j i hjl hil hlt; unfold ltA at this; omega
theorem cst_find {l : List Arc} (h : l.Pairwise ltA) {a : Arc} (ha : a ∈ l) : (l.find? fun x => x.f == a.f && x.t == a.t) = some a := by
  cases hf : l.find? (fun x => x.f == a.f && x.t == a.t) with
  | none => have := List.find?_eq_none.1 hf a ha; simp at this
  | some x =>
    have h1 := List.find?_some hf
    simp at h1
    rw [arcU h (List.mem_of_find?_eq_some hf) ha h1.1 h1.2]
theorem cst_arc {l : List Arc} (h : l.Pairwise ltA) {a : Arc} (ha : a ∈ l) : cst l a.f a.t = a.c := by
  unfold cst
  rw [cst_find h ha]
  rfl
theorem cst_rng {l : List Arc} (hl : ∀ a ∈ l, AOk a) (u v : Int) : 0 ≤ cst l u v ∧ cst l u v ≤ 1073741824 := by
  unfold cst
  cases hf : l.find? (fun x => x.f == u && x.t == v) with
  | none => simp
  | some x =>
    have := hl x (List.mem_of_find?_eq_some hf)
    unfold AOk at this
    simp only [Option.map_some, Option.getD_some]
    omega
theorem pcost_rng {l : List Arc} (hl : ∀ a ∈ l, AOk a) : ∀ ns : List Int, 0 ≤ pcost l ns ∧ pcost l ns ≤ ns.length * 1073741824
  | [] => by simp [pcost]
  | [a] => by simp [pcost]
  | a :: b :: t => by
    have h1 := pcost_rng hl (b :: t)
    have h2 := cst_rng hl a b
    rw [pcost, List.length_cons]
    omega
def mkP (l : List Arc) (ns : List Int) : Pth := ⟨ns, pcost l ns⟩
/-! ### All plain ways -/
def okA (ns : List Int) (a : Arc) : Bool := a.f == lastN ns && !ns.contains a.t
def nxtN (l : List Arc) (ns : List Int) : List Int := (l.filter (okA ns)).map (·.t)
def nxtB (l : List Arc) (ns : List Int) (n : Int) : Bool := (l.any fun x => x.f == lastN ns && x.t == n) && !ns.contains n
def wkN (l : List Arc) (td : Int) : Nat → List Int → List (List Int)
  | 0, _ => []
  | k + 1, ns => if lastN ns = td then [ns] else (nxtN l ns).flatMap fun t => wkN l td k (ns ++ [t])
theorem nxtN_mem {l : List Arc} {ns : List Int} {t : Int} : t ∈ nxtN l ns ↔ (∃ a ∈ l, a.f = lastN ns ∧ a.t = t) ∧ t ∉ ns := by
  unfold nxtN okA
  rw [List.mem_map]
  constructor
  · rintro ⟨a, ha, rfl⟩
    rw [List.mem_filter] at ha
    obtain ⟨h1, h2⟩ := ha
    simp only [Bool.and_eq_true, beq_iff_eq, Bool.not_eq_true', List.contains_eq_mem, decide_eq_false_iff_not] at h2
    exact ⟨⟨a, h1, h2.1, rfl⟩, h2.2⟩
  · rintro ⟨⟨a, h1, h2, rfl⟩, h3⟩
    refine ⟨a, List.mem_filter.2 ⟨h1, ?_⟩, rfl⟩
    simp [h2, h3]
theorem nxtN_step {l : List Arc} {ns : List Int} {i : Nat} {a : Arc} (h : l[i]? = some a) : nxtN (l.take (i + 1)) ns = nxtN (l.take i) ns ++ if okA ns a then [a.t] else [] := by
  unfold nxtN
  rw [take_step h, List.filter_append, List.map_append]
  congr 1
  rw [List.filter_cons]
  cases okA ns a <;> rfl
theorem nxtN_eq {l : List Arc} (hok : arcsB none l = true) (ns : List Int) : nxtN l ns = ((List.range 64).map fun (i : Nat) => ((i + 1 : Nat) : Int)).filter (nxtB l ns) := by
  have hl := arcs_ok hok
  refine srt_ext (r := fun x y : Int => x < y) (fun a => by omega) (fun a b c h1 h2 => by omega) ?_ ?_ (fun t => ?_)
  · unfold nxtN
    rw [List.pairwise_map]
    refine (List.Pairwise.and_mem.1 ((arcsB_sorted hok).filter (okA ns))).imp fun {x y} ⟨hx, hy, hlt⟩ => ?_
    have h1 := (List.mem_filter.1 hx).2
    have h2 := (List.mem_filter.1 hy).2
    unfold okA at h1 h2
    simp only [Bool.and_eq_true, beq_iff_eq] at h1 h2
    unfold ltA at hlt
    omega
  · refine List.Pairwise.filter _ ?_
    rw [List.pairwise_map]
    exact List.pairwise_lt_range.imp (fun h => by omega)
  · rw [nxtN_mem, List.mem_filter, mem_rng]
    unfold nxtB
    simp only [Bool.and_eq_true, List.any_eq_true, beq_iff_eq, Bool.not_eq_true', List.contains_eq_mem, decide_eq_false_iff_not]
    constructor
    · rintro ⟨⟨a, h1, h2, rfl⟩, h3⟩
      have := hl a h1
      unfold AOk at this
      exact ⟨by omega, ⟨a, h1, h2, rfl⟩, h3⟩
    · rintro ⟨_, ⟨a, h1, h2, h3⟩, h4⟩
      exact ⟨⟨a, h1, h2, h3⟩, h4⟩
theorem nxtN_split (l : List Arc) (ns : List Int) (i : Nat) : nxtN l ns = nxtN (l.take i) ns ++ nxtN (l.drop i) ns := by
  conv => lhs; rw [← List.take_append_drop i l]
  unfold nxtN
  rw [List.filter_append, List.map_append]
theorem flat_len2 {α β : Type} {f : α → List β} {m : Nat} : ∀ l : List α, (∀ x ∈ l, (f x).length ≤ m) → (l.flatMap f).length ≤ l.length * m
  | [], _ => by simp
  | a :: l, h => by
    have h1 := flat_len2 l (fun x hx => h x (List.mem_cons_of_mem _ hx))
    have h2 := h a (by simp)
    rw [List.flatMap_cons, List.length_append, List.length_cons, Nat.succ_mul]
    omega
def facN : Nat → Nat
  | 0 => 1
  | n + 1 => (n + 1) * facN n
theorem facN_pos : ∀ n, 0 < facN n
  | 0 => by decide
  | n + 1 => Nat.mul_pos (by omega) (facN_pos n)
/-- What a way that is begun is: of nodes, each once. -/
structure NsOk (l : List Arc) (ns : List Int) : Prop where
  ne : ns ≠ []
  nd : ns.Nodup
  sub : ∀ v ∈ ns, v ∈ nodesM l
theorem NsOk.len {l : List Arc} {ns : List Int} (h : NsOk l ns) (h8 : (nodesM l).length ≤ 8) : ns.length ≤ 8 := by
  have := List.Nodup.length_le_of_subset h.nd (fun v hv => h.sub v hv)
  omega
theorem NsOk.add {l : List Arc} {ns : List Int} (h : NsOk l ns) (hl : ∀ a ∈ l, AOk a) {a : Arc} (ha : a ∈ l) (ht : a.t ∉ ns) : NsOk l (ns ++ [a.t]) := by
  refine ⟨by simp, ?_, fun v hv => ?_⟩
  · rw [List.nodup_append]
    exact ⟨h.nd, by simp, fun x hx y hy => by rw [List.mem_singleton.1 hy]; exact fun e => ht (e ▸ hx)⟩
  · rcases List.mem_append.1 hv with hv | hv
    · exact h.sub v hv
    · rw [List.mem_singleton.1 hv]
      exact (nodesM_mem hl).2 ⟨a, ha, .inr rfl⟩
theorem NsOk.nxt {l : List Arc} {ns : List Int} (h : NsOk l ns) (hl : ∀ a ∈ l, AOk a) {t : Int} (ht : t ∈ nxtN l ns) : NsOk l (ns ++ [t]) := by
  obtain ⟨⟨a, h1, _, rfl⟩, h3⟩ := nxtN_mem.1 ht
  exact h.add hl h1 h3
theorem nxt_le {l : List Arc} {ns : List Int} (hok : arcsB none l = true) (h : NsOk l ns) (h8 : (nodesM l).length ≤ 8) : (nxtN l ns).length + ns.length ≤ 8 := by
  have hl := arcs_ok hok
  have hnd : (ns ++ nxtN l ns).Nodup := by
    rw [List.nodup_append]
    refine ⟨h.nd, ?_, fun x hx y hy e => ?_⟩
    · rw [nxtN_eq hok]
      rw [List.nodup_iff_pairwise_ne]
      refine List.Pairwise.filter _ ?_
      rw [List.pairwise_map]
      exact List.pairwise_lt_range.imp (fun h => by omega)
    · subst e
      exact (nxtN_mem.1 hy).2 hx
  have := List.Nodup.length_le_of_subset hnd (l₂ := nodesM l) (fun v hv => by
    rcases List.mem_append.1 hv with hv | hv
    · exact h.sub v hv
    · obtain ⟨⟨a, ha, _, rfl⟩, _⟩ := nxtN_mem.1 hv
      exact (nodesM_mem hl).2 ⟨a, ha, .inr rfl⟩)
  rw [List.length_append] at this
  omega
theorem wkN_len {l : List Arc} (hok : arcsB none l = true) (h8 : (nodesM l).length ≤ 8) (td : Int) : ∀ (k : Nat) (ns : List Int), NsOk l ns → (wkN l td k ns).length ≤ facN (8 - ns.length)
  | 0, ns, _ => by simp [wkN]
  | k + 1, ns, h => by
    have hp := facN_pos (8 - ns.length)
    unfold wkN
    split
    · simp; omega
    · have h2 := nxt_le hok h h8
      by_cases h0 : (nxtN l ns).length = 0
      · rw [List.length_eq_zero_iff.1 h0]; simp
      · have h1 := flat_len2 (f := fun t => wkN l td k (ns ++ [t])) (m := facN (7 - ns.length)) (nxtN l ns) (fun t ht => by
          have := wkN_len hok h8 td k (ns ++ [t]) (h.nxt (arcs_ok hok) ht)
          rwa [List.length_append, List.length_singleton, show 8 - (ns.length + 1) = 7 - ns.length by omega] at this)
        have e : facN (8 - ns.length) = (8 - ns.length) * facN (7 - ns.length) := by
          rw [show 8 - ns.length = (7 - ns.length) + 1 by omega]
          rfl
        have h3 := Nat.mul_le_mul_right (facN (7 - ns.length)) (show (nxtN l ns).length ≤ 8 - ns.length by omega)
        omega
/-! ### The order of ways -/
def cmpL : List Int → List Int → Int
  | [], [] => 0
  | [], _ :: _ => -1
  | _ :: _, [] => 1
  | x :: a, y :: b => if cmpI x y ≠ 0 then cmpI x y else cmpL a b
def orderP (a b : Pth) : Int := if cmpI a.c b.c ≠ 0 then cmpI a.c b.c else cmpL a.ns b.ns
theorem cmpI_cases (x y : Int) : (x < y ∧ cmpI x y = -1) ∨ (x = y ∧ cmpI x y = 0) ∨ (y < x ∧ cmpI x y = 1) := by
  unfold cmpI
  rcases Int.lt_trichotomy x y with h | h | h
  · left; rw [if_pos h]; exact ⟨h, rfl⟩
  · right; left; rw [if_neg (by omega), if_neg (by omega)]; exact ⟨h, rfl⟩
  · right; right; rw [if_neg (by omega), if_pos h]; exact ⟨h, rfl⟩
theorem cmpL_neg : ∀ a b : List Int, cmpL b a = - cmpL a b
  | [], [] => rfl
  | [], _ :: _ => rfl
  | _ :: _, [] => rfl
  | x :: a, y :: b => by
    have ih := cmpL_neg a b
    unfold cmpL
    rcases cmpI_cases x y with ⟨h1, h2⟩ | ⟨h1, h2⟩ | ⟨h1, h2⟩ <;> rcases cmpI_cases y x with ⟨h3, h4⟩ | ⟨h3, h4⟩ | ⟨h3, h4⟩ <;> rw [h2, h4] <;> simp <;> omega
theorem cmpL_zero : ∀ a b : List Int, cmpL a b = 0 → a = b
  | [], [], _ => rfl
  | [], _ :: _, h => by simp [cmpL] at h
  | _ :: _, [], h => by simp [cmpL] at h
  | x :: a, y :: b, h => by
    unfold cmpL at h
    rcases cmpI_cases x y with ⟨h1, h2⟩ | ⟨h1, h2⟩ | ⟨h1, h2⟩ <;> rw [h2] at h <;> simp at h
    rw [h1, cmpL_zero a b h]
theorem cmpL_trans : ∀ a b c : List Int, cmpL a b < 0 → cmpL b c < 0 → cmpL a c < 0
  | [], [], _, h, _ => by simp [cmpL] at h
  | [], _ :: _, [], _, h => by simp [cmpL] at h
  | [], _ :: _, _ :: _, _, _ => by simp [cmpL]
  | _ :: _, [], _, h, _ => by simp [cmpL] at h
  | _ :: _, _ :: _, [], _, h => by simp [cmpL] at h
  | x :: a, y :: b, z :: c, h, h' => by
    have ih := cmpL_trans a b c
    unfold cmpL at h h' ⊢
    rcases cmpI_cases x y with ⟨h1, h2⟩ | ⟨h1, h2⟩ | ⟨h1, h2⟩ <;> rcases cmpI_cases y z with ⟨h3, h4⟩ | ⟨h3, h4⟩ | ⟨h3, h4⟩ <;> rcases cmpI_cases x z with ⟨h5, h6⟩ | ⟨h5, h6⟩ | ⟨h5, h6⟩ <;> rw [h2] at h <;> rw [h4] at h' <;> rw [h6] <;> simp at h h' ⊢ <;> first
      | omega
      | exact ih h h'
theorem cmpL_step {a b : List Int} {i : Nat} {x y : Int} (hx : a[i]? = some x) (hy : b[i]? = some y) : cmpL (a.drop i) (b.drop i) = if cmpI x y ≠ 0 then cmpI x y else cmpL (a.drop (i + 1)) (b.drop (i + 1)) := by
  rw [drop_step hx, drop_step hy]
  rfl
theorem orderP_neg (a b : Pth) : orderP b a = - orderP a b := by
  have := cmpL_neg a.ns b.ns
  unfold orderP
  rcases cmpI_cases a.c b.c with ⟨h1, h2⟩ | ⟨h1, h2⟩ | ⟨h1, h2⟩ <;> rcases cmpI_cases b.c a.c with ⟨h3, h4⟩ | ⟨h3, h4⟩ | ⟨h3, h4⟩ <;> rw [h2, h4] <;> simp <;> omega
theorem orderP_zero {a b : Pth} (h : orderP a b = 0) : a = b := by
  unfold orderP at h
  rcases cmpI_cases a.c b.c with ⟨h1, h2⟩ | ⟨h1, h2⟩ | ⟨h1, h2⟩ <;> rw [h2] at h <;> simp at h
  have := cmpL_zero _ _ h
  cases a; cases b
  simp at h1 this
  rw [h1, this]
theorem orderP_trans {a b c : Pth} (h : orderP a b < 0) (h' : orderP b c < 0) : orderP a c < 0 := by
  have ih := cmpL_trans a.ns b.ns c.ns
  unfold orderP at h h' ⊢
  rcases cmpI_cases a.c b.c with ⟨h1, h2⟩ | ⟨h1, h2⟩ | ⟨h1, h2⟩ <;> rcases cmpI_cases b.c c.c with ⟨h3, h4⟩ | ⟨h3, h4⟩ | ⟨h3, h4⟩ <;> rcases cmpI_cases a.c c.c with ⟨h5, h6⟩ | ⟨h5, h6⟩ | ⟨h5, h6⟩ <;> rw [h2] at h <;> rw [h4] at h' <;> rw [h6] <;> simp at h h' ⊢ <;> first
    | omega
    | exact ih h h'
theorem orderP_le {a b : Pth} (h : 0 ≤ orderP b a) : a.c ≤ b.c := by
  unfold orderP at h
  rcases cmpI_cases b.c a.c with ⟨h1, h2⟩ | ⟨h1, h2⟩ | ⟨h1, h2⟩
  · rw [h2] at h; simp at h
  · omega
  · omega
theorem ltP_iff {a b : Pth} : Go.Proofs.ltOf orderP a b = true ↔ orderP a b < 0 := by unfold Go.Proofs.ltOf; simp
theorem ltP_not {a b : Pth} : Go.Proofs.ltOf orderP a b = false ↔ 0 ≤ orderP a b := by unfold Go.Proofs.ltOf; simp
theorem swo_pth : Go.Sort.SWO (Go.Proofs.ltOf orderP) := by
  refine ⟨fun x => ?_, fun x y z h1 h2 => ?_, fun x y z h1 h2 => ?_⟩
  · rw [ltP_not]; have := orderP_neg x x; omega
  · rw [ltP_iff] at *; exact orderP_trans h1 h2
  · rw [ltP_not] at *
    have n1 := orderP_neg x y
    have n2 := orderP_neg y z
    have n3 := orderP_neg x z
    by_cases e1 : orderP x y = 0
    · rw [orderP_zero e1]; exact h2
    · by_cases e2 : orderP y z = 0
      · rw [← orderP_zero e2]; exact h1
      · have := orderP_trans (a := z) (b := y) (c := x) (by omega) (by omega)
        omega
/-! ### Put in order -/
def aheadB (a b : Pth) : Bool := decide (orderP a b < 0)
def insP (o : List Pth) (p : Pth) : List Pth := o.takeWhile (aheadB · p) ++ p :: o.dropWhile (aheadB · p)
def srtW (l : List Pth) : List Pth := l.foldl insP []
theorem ins_perm (o : List Pth) (p : Pth) : (insP o p).Perm (o ++ [p]) := by
  unfold insP
  have h := List.takeWhile_append_dropWhile (p := (aheadB · p)) (l := o)
  conv => rhs; rw [← h]
  rw [List.append_assoc]
  refine List.Perm.append_left _ ?_
  exact (List.perm_append_singleton p _).symm
theorem mem_ins {o : List Pth} {p x : Pth} : x ∈ insP o p ↔ x ∈ o ∨ x = p := by
  rw [(ins_perm o p).mem_iff]
  simp
abbrev SrtP (o : List Pth) : Prop := o.Pairwise fun x y => Go.Proofs.ltOf orderP y x = false
theorem ins_sorted : ∀ {o : List Pth} {p : Pth}, SrtP o → SrtP (insP o p)
  | [], p, _ => by simp [insP]
  | x :: o, p, h => by
    have hc := List.pairwise_cons.1 h
    unfold insP
    rw [List.takeWhile_cons, List.dropWhile_cons]
    cases ha : aheadB x p with
    | true =>
      simp only [↓reduceIte, List.cons_append]
      have ih : SrtP (insP o p) := ins_sorted hc.2
      refine List.pairwise_cons.2 ⟨fun y hy => ?_, ih⟩
      rcases mem_ins.1 (show y ∈ insP o p from hy) with hy | rfl
      · exact hc.1 y hy
      · unfold aheadB at ha
        simp at ha
        rw [ltP_not]
        have := orderP_neg x y
        omega
    | false =>
      simp only [Bool.false_eq_true, ↓reduceIte, List.nil_append]
      unfold aheadB at ha
      simp at ha
      have n1 := orderP_neg x p
      refine List.pairwise_cons.2 ⟨fun y hy => ?_, h⟩
      rw [ltP_not]
      rcases List.mem_cons.1 hy with rfl | hy
      · exact ha
      · have h2 := hc.1 y hy
        have h3 := swo_pth.ntrans y x p h2 (ltP_not.2 ha)
        exact ltP_not.1 h3
theorem fold_sorted : ∀ (l o : List Pth), SrtP o → SrtP (l.foldl insP o) ∧ (l.foldl insP o).Perm (o ++ l)
  | [], o, h => ⟨h, by simp⟩
  | p :: l, o, h => by
    obtain ⟨h1, h2⟩ := fold_sorted l (insP o p) (ins_sorted h)
    refine ⟨h1, h2.trans ?_⟩
    refine ((ins_perm o p).append_right l).trans ?_
    rw [List.append_assoc]
    exact .refl _
theorem srtW_sorted (l : List Pth) : SrtP (srtW l) := (fold_sorted l [] .nil).1
theorem srtW_perm (l : List Pth) : (srtW l).Perm l := (fold_sorted l [] .nil).2
theorem srt_one : ∀ {l m : List Pth}, l.Perm m → SrtP l → SrtP m → l = m
  | [], m, h, _, _ => (List.nil_perm.1 h).symm
  | a :: l, [], h, _, _ => by have := h.length_eq; simp at this
  | a :: l, b :: m, h, hl, hm => by
    have h1 := List.pairwise_cons.1 hl
    have h2 := List.pairwise_cons.1 hm
    have e : a = b := by
      rcases List.mem_cons.1 (h.mem_iff.1 (show a ∈ a :: l by simp)) with e | ha
      · exact e
      · rcases List.mem_cons.1 (h.mem_iff.2 (show b ∈ b :: m by simp)) with e | hb
        · exact e.symm
        · have h3 := ltP_not.1 (h1.1 b hb)
          have h4 := ltP_not.1 (h2.1 a ha)
          have := orderP_neg a b
          exact orderP_zero (by omega)
    subst e
    rw [srt_one ((List.perm_cons a).1 h) h1.2 h2.2]
theorem srtW_is {ts l : List Pth} (h : ts.Perm l) (hs : SrtP ts) : ts = srtW l := srt_one (h.trans (srtW_perm l).symm) hs (srtW_sorted l)
theorem srtW_min {l : List Pth} {x : Pth} {t : List Pth} (h : srtW l = x :: t) {y : Pth} (hy : y ∈ l) : x.c ≤ y.c := by
  have h1 := srtW_sorted l
  have h2 := (srtW_perm l).mem_iff.2 hy
  rw [h] at h1 h2
  rcases List.mem_cons.1 h2 with rfl | h2
  · exact Int.le_refl _
  · exact orderP_le (ltP_not.1 ((List.pairwise_cons.1 h1).1 y h2))
/-- The first plain ways. -/
def nodesV (l : List Arc) : List Int := if arcsB none l then nodesM l else []
def goodK (l : List Arc) (a b m : Int) : Bool := (((a != b) && decide (1 ≤ m)) && decide ((nodesV l).length ≤ 8)) && ((nodesV l).contains a && (nodesV l).contains b)
def allP (l : List Arc) (a b : Int) : List Pth := srtW ((wkN l b 9 [a]).map (mkP l))
def pathsM (l : List Arc) (a b m : Int) : List Pth := if goodK l a b m then (allP l a b).take (min (allP l a b).length (min m.toNat 20)) else []
theorem good_spec {l : List Arc} {a b m : Int} (h : goodK l a b m = true) : a ≠ b ∧ 1 ≤ m ∧ arcsB none l = true ∧ (nodesM l).length ≤ 8 ∧ a ∈ nodesM l ∧ b ∈ nodesM l := by
  unfold goodK nodesV at h
  simp only [Bool.and_eq_true, bne_iff_ne, decide_eq_true_eq] at h
  obtain ⟨⟨⟨h1, h2⟩, h3⟩, h4, h5⟩ := h
  cases hv : arcsB none l with
  | false => rw [hv] at h4; simp at h4
  | true =>
    rw [hv] at h3 h4 h5
    simp only [↓reduceIte, List.contains_iff_mem] at h3 h4 h5
    exact ⟨h1, h2, rfl, h3, h4, h5⟩
theorem one_ok {l : List Arc} {a : Int} (h : a ∈ nodesM l) : NsOk l [a] := ⟨by simp, by simp, fun v hv => by rw [List.mem_singleton.1 hv]; exact h⟩
end A
end Go.Proofs.Ytmcannmjielalaa
set_option linter.unusedVariables false
set_option linter.unusedSimpArgs false
namespace Go.Proofs.Ytmcannmjielalaa
namespace A
open Go.Sort Go.Shelf Go.Lib Go.RowKit
theorem pMin3 {P : Program} {N : Nat} {env : Env} {o : Oper} {xo yo zo : Operand} {ts : Array TypeId} {k k' k'' : IntKind} {x y z : Int} (ho : o.op = .call ⟨.builtin .min, #[xo, yo, zo], ts⟩ := by rfl) (hx : ev env xo = some (.v (.int k x)) := by rfl) (hy : ev env yo = some (.v (.int k' y)) := by rfl) (hz : ev env zo = some (.v (.int k'' z)) := by rfl) : APure P N o env (.v (.int k (min (min x y) z))) := by
  have e : min (min x y) z = if z < (if y < x then y else x) then z else (if y < x then y else x) := by split <;> split <;> omega
  rw [e]
  intro F h a w st
  have hr := st.ev hx
  have hr' := st.ev hy
  have hr'' := st.ev hz
  generalize hv : a.eval xo = v at hr
  generalize hv' : a.eval yo = v' at hr'
  generalize hv'' : a.eval zo = v'' at hr''
  cases hr; cases hr'; cases hr''
  exact ⟨_, .v _, fun w' => by simp [execOp, ho, hv, hv', hv'', resolve, invoke, builtin, Builtin.min_, Builtin.min2]⟩
/-- Weakening while a region draws: what was owned when its first call began is still owned. -/
theorem eWeak {P : Program} {N : Nat} {env : Env} {h : List HA} {K : Cont} {X : List (Nat × Cont)} {Rt : Cont} {ops : Array Oper} {ds : List Nat} {n : Nat} {l : Array Bool} {E0 : Env} {h0 : List HA} {env' : Env} {h' : List HA} (hw : Weak N env h env' h') (hk : ∀ b ∈ owns h0, b ∈ owns h') (h1 : ADraw2 P N ops ds n l E0 h0 env' h' K X Rt) : ADraw2 P N ops ds n l E0 h0 env h K X Rt := by
  intro B F0 w0 F a w s0 s e d hF hO hA
  obtain ⟨F', s', e'⟩ := hw F a w s
  exact h1 B F0 w0 F' a w s0 s' (e.trans e') d (fun b hb => e'.mono b (hF b hb)) (fun b hb => .inl (hk b hb)) hA
/-- A row of values that stand for what is known of it. -/
structure RowR (F : Nat → Prop) (w : World) (k : Nat) (cs : List AV) (xs : List Value) : Prop where
  cl : cs.length = k
  xl : xs.length = k
  one : ∀ v ∈ xs, v.oneCell' = true
  rep : ∀ (j : Nat) (av : AV) (v : Value), cs[j]? = some av → xs[j]? = some v → Rep F w av v
theorem cmp_laysD {α : Type} {ok : α → Prop} {P : Program} {g : FuncId} {fC : α → List AV} {k : Nat} {cf : α → α → Int} {b size : Nat} {w : World} {F : Nat → Prop} [Inhabited {p : α × List Value // RowR F w k (fC p.1) p.2 ∧ ok p.1}] (hsep : ∀ j, F j → j < w.heap.size ∧ j ≠ b)
    (hT : ∀ x y, ok x → ok y → Triple P g [.agg (fC x), .agg (fC y)] [] (Is (.int (cf x y)) [])) : CmpLays P g #[] (fun x : {p : α × List Value // RowR F w k (fC p.1) p.2 ∧ ok p.1} => x.1.2) k (fun x y => cf x.1.1 y.1.1) b 0 size w := by
  intro m os dk hs x y
  have hgr := grownBy_sortedK (n := m) (os := os) (b := b) (w := w) (flatK (fun x : {p : α × List Value // RowR F w k (fC p.1) p.2 ∧ ok p.1} => x.1.2) k dk)
  have hgr2 : w.grownBy (sortWorldK (fun x : {p : α × List Value // RowR F w k (fC p.1) p.2 ∧ ok p.1} => x.1.2) k w b 0 m dk os) (some b) := hgr
  have hagg : ∀ z : {p : α × List Value // RowR F w k (fC p.1) p.2 ∧ ok p.1}, Rep F (sortWorldK (fun x : {p : α × List Value // RowR F w k (fC p.1) p.2 ∧ ok p.1} => x.1.2) k w b 0 m dk os) (.agg (fC z.1.1)) (.agg z.1.2.toArray) := fun z => by
    refine .agg _ _ (by simp [z.2.1.xl, z.2.1.cl]) (fun v hv => z.2.1.one v (by simpa using hv)) (fun j av v hj hv => ?_)
    exact (z.2.1.rep j av v hj (by simpa using hv)).mono (fun _ h => h) (fun j hj => hgr2.block j (hsep j hj).1 (fun e => (hsep j hj).2 (by simpa using e)))
  refine ((hT x.1.1 y.1.1 x.2.2 y.2.2).2 F (sortWorldK (fun x : {p : α × List Value // RowR F w k (fC p.1) p.2 ∧ ok p.1} => x.1.2) k w b 0 m dk os) #[.agg x.1.2.toArray, .agg y.1.2.toArray] ⟨fun x hx => by simp at hx, by simp, fun b hb => by simp at hb, fun j hj => ⟨Nat.lt_of_lt_of_le (hsep j hj).1 hgr2.size, by simp⟩⟩ ?_).mono ?_
  · exact reps_cons (vs := [.agg y.1.2.toArray]) (hagg x) (reps_cons (vs := []) (hagg y) reps_nil)
  · rintro ex w' ⟨r, v, h', F', rfl, ⟨rfl, rfl⟩, hr, hR, hE⟩
    have := rep_v hr
    subst this
    generalize hW : sortWorldK (fun x : {p : α × List Value // RowR F w k (fC p.1) p.2 ∧ ok p.1} => x.1.2) k w b 0 m dk os = W at hE
    refine ⟨rfl, w'.drawn - W.drawn, w'.heap.extract W.heap.size w'.heap.size, ?_⟩
    have hd := hE.dr
    have hh : w'.heap = W.heap ++ w'.heap.extract W.heap.size w'.heap.size := by
      apply Array.ext_getElem?
      intro j
      by_cases hj : j < W.heap.size
      · rw [Array.getElem?_append_left hj]
        exact hE.keep j hj (by simp)
      · rw [Array.getElem?_append_right (by omega), Array.getElem?_extract]
        by_cases hj2 : j < w'.heap.size
        · rw [if_pos (by omega)]
          congr 1
          omega
        · rw [if_neg (by omega), Array.getElem?_eq_none (by omega)]
    obtain ⟨hp, tp, dr, ww, ou⟩ := w'
    obtain ⟨hp0, tp0, dr0, ww0, ou0⟩ := W
    have e1 := hE.os
    have e2 := hE.output
    have e3 := hE.tape
    simp only at e1 e2 e3 hd hh
    subst e1
    subst e2
    subst e3
    simp only [grow, World.drewN, World.mk.injEq, true_and, and_true]
    exact ⟨hh, by omega⟩
theorem triple_sortFuncD {α : Type} [Inhabited α] (ok : α → Prop) (hdo : ok default) {P : Program} {ρ : Ren} {f g : FuncId} (L : SlLaysF0.n6 P ρ) (hf : ρ.f 6 = f) (hb : HasBody P f) {k t : Nat} (ht : ρ.t 24 = t) (hty : tyOf P t = some (k, true)) (h0 : 0 < k) {fC : α → List AV} (hk : ∀ x, (fC x).length = k)
    (dv : List Value) (hdv : ∀ F w, RowR F w k (fC default) dv)
    (cf : α → α → Int) (hO : SWO (ltOf cf)) (hT : ∀ x y, ok x → ok y → Triple P g [.agg (fC x), .agg (fC y)] [] (Is (.int (cf x y)) [])) (hg : HasBody P g) (gg : Option Nat) (c e : Nat) (ws : List α) (hws : ∀ x ∈ ws, ok x) (hz : ws.length < 4611686018427387904) :
    Triple P f [.v (slV gg ws.length c), .fn (.func g) []] [.sl gg c e k (ws.map fC)] (fun r h' => ∃ ts : List α, ts.Perm ws ∧ ts.Pairwise (fun x y => ltOf cf y x = false) ∧ r = .tup [] ∧ h' = [.sl gg c e k (ts.map fC)]) := by
  subst hf
  subst ht
  refine ⟨hb, fun F w vs hR hreps => ?_⟩
  obtain ⟨hv1, hv2⟩ := hreps
  obtain ⟨x, y, rfl⟩ : ∃ x y, vs = #[x, y] := by
    match vs, hv1 with
    | ⟨[x, y]⟩, _ => exact ⟨x, y, rfl⟩
  have hx := hv2 0 _ x rfl rfl
  have hy := hv2 1 _ y rfl rfl
  have hx := rep_v hx
  subst hx
  obtain rfl : y = .func (.func g) #[] #[] := by
    cases hy with
    | fn _ _ cx hcl _ =>
      obtain rfl : cx = #[] := Array.eq_empty_of_size_eq_zero (by simpa using hcl)
      rfl
  have hha := hR.rep _ (List.mem_singleton.2 rfl)
  have hlen : (ws.map fC).length = ws.length := List.length_map _
  have aE : ∀ w, (isAgg (ρ.t 24)).run P w = .ok true w := fun w => run_isAgg hty w
  have zE : ∀ w, (Go.sizeOf (ρ.t 24)).run P w = .ok k w := fun w => run_sizeOf hty w
  match gg with
  | none =>
    have hn : ws = [] := by
      obtain ⟨xs, ho, _⟩ := hha
      rcases ho.2 with ⟨_, h⟩ | ⟨b, _, _, h, _⟩
      · exact List.eq_nil_of_length_eq_zero (by simpa using h)
      · simp [slV] at h
    subst hn
    refine (AnyF.slices_SortFunc_none L none c (.func (.func g) #[] #[]) w).mono ?_
    rintro ex w' ⟨rfl, rfl⟩
    exact ⟨.tup [], .tuple #[], _, F, rfl, ⟨[], .nil, .nil, rfl, rfl⟩, .tup _ _ rfl (fun j av x hj => by simp at hj), hR, .refl _ _ _⟩
  | some b =>
    obtain ⟨cur, hg0, hnc, hcm, hcs, hyz, hrest⟩ := row_of hha
    obtain ⟨xs, hxl, _, hx1, hxc, hxr⟩ := own_cells hha
    rw [hlen] at hxl hnc
    have hat : ∀ i j, i < ws.length → j < k → ((xs.drop (i * k)).take k)[j]? = xs[i * k + j]? := fun i j hi hj => by
      rw [List.getElem?_take_of_lt hj, List.getElem?_drop]
    have hrow : ∀ i, (h : i < ws.length) → RowR F w k (fC ws[i]) ((xs.drop (i * k)).take k) := fun i h => by
      have hle : i * k + k ≤ ws.length * k := by rw [← Nat.succ_mul]; exact Nat.mul_le_mul_right _ h
      refine ⟨hk _, by rw [List.length_take, List.length_drop]; omega, fun v hv => hx1 v (List.mem_of_mem_drop (List.mem_of_mem_take hv)), fun j av v hj hv => ?_⟩
      have hjk : j < k := by have := (List.getElem?_eq_some_iff.1 hj).1; rwa [hk] at this
      rw [hat i j h hjk] at hv
      exact hxr i j _ _ _ (by simp [h]) hj hv
    let β := {p : α × List Value // RowR F w k (fC p.1) p.2 ∧ ok p.1}
    letI : Inhabited β := ⟨⟨(default, dv), hdv F w, hdo⟩⟩
    let enc : β → List Value := fun x => x.1.2
    let bs : List β := List.ofFn fun i : _root_.Fin ws.length => (⟨(ws[i], (xs.drop (i * k)).take k), hrow i i.2, hws _ (List.getElem_mem _)⟩ : β)
    have hbl : bs.length = ws.length := List.length_ofFn
    have hbm : bs.map (fun x => x.1.1) = ws := by
      apply List.ext_getElem
      · rw [List.length_map, hbl]
      · intro i h1 h2
        simp [bs]
    have hbat : ∀ i, (h : i < ws.length) → bs[i]'(by rw [hbl]; exact h) = (⟨(ws[i], (xs.drop (i * k)).take k), hrow i h, hws _ (List.getElem_mem _)⟩ : β) := fun i h => by simp [bs]
    have hencl : ∀ x : β, (enc x).length = k := fun x => x.2.1.xl
    have hflat : ∀ j, j < ws.length * k → xs[j]? = some ((flatK enc k bs.toArray)[j]!) := fun j hj => by
      have hi : j / k < ws.length := by rw [Nat.div_lt_iff_lt_mul h0]; exact hj
      have hm : j % k < k := Nat.mod_lt _ h0
      rw [get_flatK _ _ _ _ (by simpa [hbl] using hj)]
      have e1 : bs.toArray[j / k]! = (⟨(ws[j / k], (xs.drop (j / k * k)).take k), hrow _ hi, hws _ (List.getElem_mem _)⟩ : β) := by
        rw [getElem!_pos bs.toArray (j / k) (by simpa [hbl] using hi)]
        rw [List.getElem_toArray]
        exact hbat _ hi
      rw [e1]
      show _ = some (((xs.drop (j / k * k)).take k)[j % k]!)
      have e2 := hat (j / k) (j % k) hi hm
      rw [Nat.div_add_mod'] at e2
      rw [← e2, List.getElem!_eq_getElem?_getD]
      have hlt : j % k < ((xs.drop (j / k * k)).take k).length := by rw [(hrow _ hi).xl]; exact hm
      rw [List.getElem?_eq_getElem hlt]
      rfl
    have hH : HoldsK enc k w b 0 bs.toArray := by
      intro j hj
      have hj' : j < ws.length * k := by simpa [hbl] using hj
      refine ⟨?_, by simp [World.frozen?, hg0]⟩
      rw [Nat.zero_add]
      exact hxc j _ (hflat j hj')
    have hlt : b < w.heap.size := hR.lt b (by simp [HA.own])
    have hsep : ∀ j, F j → j < w.heap.size ∧ j ≠ b := fun j hj => ⟨(hR.sep j hj).1, fun e => (hR.sep j hj).2 (by simp [HA.own, e])⟩
    have hO' : SWO (ltOf fun x y : β => cf x.1.1 y.1.1) := ⟨fun x => hO.irrefl x.1.1, fun x y z => hO.trans x.1.1 y.1.1 z.1.1, fun x y z => hO.ntrans x.1.1 y.1.1 z.1.1⟩
    have hlen2 : slV (some b) ws.length c = .slice (some ⟨b, 0, none⟩) bs.toArray.size c := by simp [slV, hbl]
    rw [show slV (some b) ws.length c = .slice (some ⟨b, 0, none⟩) bs.toArray.size c from hlen2]
    refine (AnyQ.slices_SortFunc L k aE zE enc hencl (fun x v hv => x.2.1.one v hv) (fun x y => cf x.1.1 y.1.1) hO' g #[] b 0 c bs.toArray w (run_enter hg) (cmp_laysD hsep hT) hH hlt (by simpa [hbl] using hz)).mono ?_
    rintro ex w' ⟨rfl, d', n, os, hp, hs, rfl⟩
    have hsz : d'.size = ws.length := by simpa [hbl] using hp.1
    have hperm : d'.toList.Perm bs := by
      have := hp.2.2
      simp only [List.size_toArray] at this
      simp only [Array.toList_extract, List.drop_zero, List.extract_eq_take_drop, Nat.sub_zero] at this
      rw [List.take_of_length_le (by simp [hsz, hbl]), List.take_of_length_le (by simp)] at this
      exact this
    have hpair : d'.toList.Pairwise (fun x y => ltOf cf y.1.1 x.1.1 = false) := by
      rw [List.pairwise_iff_getElem]
      intro i j hi hj hij
      have hj' : j < d'.size := by simpa using hj
      have := hs i j (Nat.zero_le _) hij (by simpa [hsz, hbl] using hj')
      rw [getElem!_pos d' j hj', getElem!_pos d' i (by omega)] at this
      rw [Array.getElem_toList, Array.getElem_toList]
      exact this
    have hgr := grownBy_sortedK (n := n) (os := os) (b := b) (w := w) (flatK enc k d')
    have hset : ∀ k', F k' → (grow (putRow id (Sort.ahead w n) b 0 (flatK enc k d')) os).heap[k']? = w.heap[k']? := fun k' hk' => hgr.block k' (hR.sep k' hk').1 (fun e => (hR.sep k' hk').2 (by simp at e; simp [HA.own, e]))
    have hfs : (flatK enc k d').size = ws.length * k := by simp [hsz]
    have hcap : (flatK enc k d').size ≤ cur.size := by rw [hfs, hcs]; exact Nat.mul_le_mul_right _ hnc
    refine ⟨.tup [], .tuple #[], [.sl (some b) c e k ((d'.toList.map fun x => x.1.1).map fC)], F, rfl, ⟨d'.toList.map fun x => x.1.1, by rw [← hbm]; exact hperm.map _, by rw [List.pairwise_map]; exact hpair, rfl, rfl⟩, .tup _ _ rfl (fun j av x hj => by simp at hj), ⟨fun y hy => ?_, by simp [HA.own], fun k' hk' => ?_, fun k' hk' => ⟨Nat.lt_of_lt_of_le (hR.sep k' hk').1 hgr.size, fun hm => (hR.sep k' hk').2 (by simpa [HA.own] using hm)⟩⟩, ⟨hgr.os, hgr.output, hgr.tape, hgr.size, fun k' hk' hn => hgr.block k' hk' (fun e => hn (by simp at e; simp [HA.own, e])), fun k' hk' => .inl (by simpa [HA.own] using hk'), fun _ h => h, fun _ h => .inl h, by show w.drawn ≤ w.drawn + n; omega⟩⟩
    · rw [List.mem_singleton] at hy
      subst hy
      have e1 : ((d'.toList.map fun x => x.1.1).map fC).length = ws.length := by simp [hsz]
      have hget : ∀ i j v, i < ws.length → j < k → (flatK enc k d').toList[i * k + j]? = some v → ∃ u, d'[i]? = some u ∧ (enc u)[j]? = some v := fun i j v hi hj hv => by
        have hlt2 : i * k + j < d'.size * k := by rw [hsz]; exact idx_lt hi hj
        rw [Array.getElem?_toList, Array.getElem?_eq_getElem (by simpa using hlt2)] at hv
        have hv := Option.some.inj hv
        rw [← getElem!_pos (flatK enc k d') (i * k + j) (by simpa using hlt2), get_flatK _ _ _ _ hlt2, mul_add_div hj, mul_add_mod hj] at hv
        refine ⟨d'[i]!, by rw [getElem!_pos d' i (by omega)]; exact Array.getElem?_eq_getElem (by omega), ?_⟩
        rw [← hv, getElem!_pos (enc d'[i]!) j (by rw [hencl]; exact hj)]
        exact List.getElem?_eq_getElem _
      refine ⟨(flatK enc k d').toList, ⟨by rw [Array.length_toList, hfs, e1], .inr ⟨b, c, _, by rw [e1]; rfl, Nat.zero_le _, heap_sortedK hg0, by rw [e1]; exact hnc, hcm, by simp [putCells, hcs], ?_⟩⟩, fun y hy => ?_, fun x hx => ?_, ?_⟩
      · rw [e1, ← hfs]; exact take_putCellsK cur _ hcap
      · obtain ⟨z, _, rfl⟩ := List.mem_map.1 hy; exact hk z
      · obtain ⟨j, hj⟩ := List.mem_iff_getElem?.1 hx
        have hj2 : j < ws.length * k := by have := (List.getElem?_eq_some_iff.1 hj).1; simpa [hsz] using this
        have hm : j % k < k := Nat.mod_lt _ h0
        have := hget (j / k) (j % k) x (by rw [Nat.div_lt_iff_lt_mul h0]; exact hj2) hm (by rw [Nat.div_add_mod']; exact hj)
        obtain ⟨u, _, hu⟩ := this
        exact u.2.1.one x (List.mem_of_getElem? hu)
      · intro i j y av x hi hj hx
        rw [List.getElem?_map, Option.map_eq_some_iff] at hi
        obtain ⟨z, hz, rfl⟩ := hi
        rw [List.getElem?_map, Option.map_eq_some_iff] at hz
        obtain ⟨u, hu, rfl⟩ := hz
        have hil : i < ws.length := by have := (List.getElem?_eq_some_iff.1 hu).1; simpa [hsz] using this
        have hjk : j < k := by have := (List.getElem?_eq_some_iff.1 hj).1; rwa [hk] at this
        obtain ⟨z', hz', hx'⟩ := hget i j x hil hjk hx
        have : z' = u := by
          rw [Array.getElem?_toList] at hu
          rw [hu] at hz'
          exact (Option.some.inj hz').symm
        subst this
        exact (z'.2.1.rep j av x hj hx').mono (fun _ h => h) hset
    · have : k' = b := by simpa [HA.own] using hk'
      subst this
      exact Nat.lt_of_lt_of_le hlt hgr.size
end A
end Go.Proofs.Ytmcannmjielalaa
set_option linter.unusedVariables false
set_option linter.unusedSimpArgs false
namespace Go.Proofs.Ytmcannmjielalaa
namespace A
theorem op_Arc : OpC Try.prog 36 3 Arc arcC (fun _ => True) :=
  opMap (opStruct Try.underlying36 (by kernel_rfl) (fsCons rfl (by kernel_rfl) (opInt Try.underlying3) (fsCons rfl (by kernel_rfl) (opInt Try.underlying3) (fsCons rfl (by kernel_rfl) (opInt Try.underlying3) fsNil)))) (fun x => ⟨x.1, x.2.1, x.2.2.1⟩) (fun _ => rfl) (fun _ _ => trivial)
theorem op_Ask : OpC Try.prog 98 3 (Int × Int × Int) (fun p => [.int p.1, .int p.2.1, .int p.2.2]) (fun _ => True) :=
  opMap (opStruct Try.underlying98 (by kernel_rfl) (fsCons rfl (by kernel_rfl) (opInt Try.underlying3) (fsCons rfl (by kernel_rfl) (opInt Try.underlying3) (fsCons rfl (by kernel_rfl) (opInt Try.underlying3) fsNil)))) (fun x => (x.1, x.2.1, x.2.2.1)) (fun _ => rfl) (fun _ _ => trivial)
end A
end Go.Proofs.Ytmcannmjielalaa
set_option linter.unusedVariables false
set_option linter.unusedSimpArgs false
namespace Go.Proofs.Ytmcannmjielalaa
namespace A
theorem el_99 : elemOf Try.prog 99 = some (125, 2, 32) := by kernel_rfl
theorem fd_125_0 : fieldOf Try.prog 125 0 = some (0, 1, false) := by kernel_rfl
theorem fd_125_1 : fieldOf Try.prog 125 1 = some (1, 1, false) := by kernel_rfl
theorem fd_202_0 : fieldOf Try.prog 202 0 = some (0, 1, false) := by kernel_rfl
theorem fd_202_1 : fieldOf Try.prog 202 1 = some (1, 1, false) := by kernel_rfl
theorem fd_202_2 : fieldOf Try.prog 202 2 = some (2, 1, false) := by kernel_rfl
theorem sl_99 : isSl Try.prog 99 = true := by kernel_rfl
theorem st_125 : structPlaces Try.prog 125 = some [(0, 1), (1, 1)] := by kernel_rfl
theorem ty_125 : tyOf Try.prog 125 = some (2, true) := by kernel_rfl
theorem ty_22 : tyOf Try.prog 22 = some (1, false) := by kernel_rfl
theorem ty_99 : tyOf Try.prog 99 = some (1, false) := by kernel_rfl
theorem us_99 : Try.prog.underlying 99 = some (.slice 125) := by kernel_rfl
theorem ze_125 : zeroOf Try.prog 125 = some (.agg #[.slice none 0 0, .int .u64 0]) := by kernel_rfl
/- cmp.isNaN[uint64] -/
set_option maxRecDepth 100000 in
set_option maxHeartbeats 400000 in
theorem cmp_isNaN64 {n : Int} : Triple Try.prog 253 [.v (.int .u64 n)] [] (Is (.v (.bool false)) []) := by
  refine triple_of Try.func253 rfl (by kernel_rfl) rfl (by simp) ?_
  refine aSeq ?_
  refine aReg ?_
  refine sp pMa ?_
  refine oNil ?_
  refine aSeq ?_
  refine aReg ?_
  refine sp pM ?_
  refine sp pM ?_
  refine sp pB ?_
  refine sp pMa ?_
  refine oNil ?_
  refine aRet ?_
  refine finIs rfl ?_
  simp [retOf]
/- cmp.Compare[uint64] -/
set_option maxRecDepth 100000 in
set_option maxHeartbeats 400000 in
theorem cmp_Compare64 {a b : Int} : Triple Try.prog 190 [.v (.int .u64 a), .v (.int .u64 b)] [] (Is (.v (.int .i64 (cmpI a b))) []) := by
  refine triple_of Try.func190 rfl (by kernel_rfl) rfl (by simp) ?_
  refine aSeq ?_
  refine aReg ?_
  refine sp pMa ?_
  refine oNil ?_
  refine aSeq ?_
  refine aReg ?_
  refine sp pM ?_
  refine sq ?_
  refine cv rfl rfl rfl (lents_refl _) cmp_isNaN64 ?_
  refine sp pMa ?_
  refine oNil ?_
  refine aSeq ?_
  refine aReg ?_
  refine sp pM ?_
  refine sq ?_
  refine cv rfl rfl rfl (lents_refl _) cmp_isNaN64 ?_
  refine sp pMa ?_
  refine oNil ?_
  refine aSeq ?_
  refine aSeq ?_
  refine aReg ?_
  refine sp pM ?_
  refine oNil ?_
  refine aCond rfl (fun c11 => ?_) (fun c11 => ?_)
  · skip
    refine aSeq ?_
    refine aSeq ?_
    refine aReg ?_
    refine sp pM ?_
    refine oNil ?_
    refine aCond rfl (fun c12 => ?_) (fun c12 => ?_)
    · skip
      refine aSeq ?_
      refine aReg ?_
      refine sp pMa ?_
      refine oNil ?_
      refine aRet ?_
      refine finIs rfl ?_
      simp_all [retOf, cmpI] <;> omega
    · skip
      refine aSkip ?_
      refine aSeq ?_
      refine aReg ?_
      refine sp pMa ?_
      refine oNil ?_
      refine aRet ?_
      refine finIs rfl ?_
      simp_all [retOf, cmpI] <;> omega
  · skip
    refine aSkip ?_
    refine aSeq ?_
    refine aSeq ?_
    refine aReg ?_
    refine sp pM ?_
    refine oNil ?_
    refine aCond rfl (fun c13 => ?_) (fun c13 => ?_)
    · skip
      refine aSeq ?_
      refine aReg ?_
      refine sp pMa ?_
      refine oNil ?_
      refine aRet ?_
      refine finIs rfl ?_
      simp_all [retOf, cmpI] <;> omega
    · skip
      refine aSkip ?_
      refine aSeq ?_
      refine aSeq ?_
      refine aReg ?_
      refine sp pM ?_
      refine sp pM ?_
      refine sp pB ?_
      refine oNil ?_
      refine aCondDec rfl (fun c16 => ?_) (fun c16 => ?_)
      · skip
        refine aSeq ?_
        refine aReg ?_
        refine sp pMa ?_
        refine oNil ?_
        refine aRet ?_
        refine finIs rfl ?_
        simp_all [retOf, cmpI] <;> omega
      · skip
        refine aSkip ?_
        refine aSeq ?_
        refine aSeq ?_
        refine aReg ?_
        refine sp pM ?_
        refine sp pM ?_
        refine sp pB ?_
        refine oNil ?_
        refine aCondDec rfl (fun c19 => ?_) (fun c19 => ?_)
        · skip
          refine aSeq ?_
          refine aReg ?_
          refine sp pMa ?_
          refine oNil ?_
          refine aRet ?_
          refine finIs rfl ?_
          simp_all [retOf, cmpI] <;> omega
        · skip
          refine aSkip ?_
          refine aSeq ?_
          refine aReg ?_
          refine sp pMa ?_
          refine oNil ?_
          refine aRet ?_
          refine finIs rfl ?_
          simp_all [retOf, cmpI] <;> omega
/- slices.Compare[[]int,int] -/
set_option maxRecDepth 100000 in
set_option maxHeartbeats 400000 in
theorem compare_ints {a b : List Int} (ha : a.length < 9223372036854775807 := by omega) (hb : b.length < 9223372036854775807 := by omega) : Triple Try.prog 244 [.sl 1 (a.map intA), .sl 1 (b.map intA)] [] (Is (.v (.int .i64 (cmpL a b))) []) := by
  refine triple_of Try.func244 rfl (by kernel_rfl) rfl (by simp) ?_
  refine aSeq ?_
  refine aReg ?_
  refine sp pMa ?_
  refine oNil ?_
  refine aSeq ?_
  refine aSeq ?_
  refine aReg ?_
  refine sp pM ?_
  refine sp (by first | exact pLm sl_25 | exact pLs sl_25) ?_
  refine sp pM ?_
  refine oNil ?_
  refine aBlock ?_
  refine loopF (α := Nat) (kept := [(0, _), (1, _), (9, _), (10, _)]) (fun i => i ≤ a.length ∧ i ≤ b.length ∧ cmpL (a.drop i) (b.drop i) = cmpL a b) (fun i => [(11, .int i)]) (fun i => []) (fun i => a.length - i) 0 ?_ ⟨gInt rfl (by first | rfl | omega | simp), rfl, rfl, rfl, rfl, trivial⟩ (by repeat constructor) ?_
  · skip
    exact ⟨by omega, by omega, rfl⟩
  · rintro i ⟨hi, hi2, hv⟩
    refine aSeq ?_
    refine aReg ?_
    refine sp pB ?_
    refine oNil ?_
    refine aSeq ?_
    refine aCondDec rfl (fun c12 => ?_) (fun c12 => ?_)
    · skip
      refine aSkip ?_
      refine aSeq ?_
      refine aBlock ?_
      refine aSeq ?_
      obtain ⟨x, hx⟩ : ∃ z, a[i]? = some z := ⟨_, List.getElem?_eq_getElem (by omega)⟩
      refine aReg ?_
      refine sp pM ?_
      first | refine sp (pIx es_25) ?_ | (refine obtSN 9 11 rfl rfl (by omega) (fun x14 hx14 => ?_); refine sp (pIs es_25 hx14) ?_) | (refine obtS 9 11 rfl rfl (by omega) (by omega) (fun x14 hx14 => ?_); refine sp (pIs es_25 hx14) ?_) | refine sp (pIo es_25) ?_
      refine sr (rS1 ty_3) ?_
      refine sp pMa ?_
      refine sp pMa ?_
      refine oNil ?_
      refine aSeq ?_
      refine aSeq ?_
      refine aReg ?_
      refine sp pM ?_
      refine sp pM ?_
      refine sp (by first | exact pLm sl_25 | exact pLs sl_25) ?_
      refine sp pB ?_
      refine oNil ?_
      refine aCondDec rfl (fun c19 => ?_) (fun c19 => ?_)
      · skip
        refine aSeq ?_
        refine aReg ?_
        refine sp pMa ?_
        refine oNil ?_
        refine aRet ?_
        refine finIs rfl ?_
        rw [← hv, drop_step hx, List.drop_of_length_le (l := b) (by omega)]
        rfl
      · skip
        refine aSkip ?_
        refine aSeq ?_
        obtain ⟨y, hy⟩ : ∃ z, b[i]? = some z := ⟨_, List.getElem?_eq_getElem (by omega)⟩
        refine aReg ?_
        refine sp pM ?_
        refine sp pM ?_
        first | refine sp (pIx es_25) ?_ | (refine obtSN 20 21 rfl rfl (by omega) (fun x22 hx22 => ?_); refine sp (pIs es_25 hx22) ?_) | (refine obtS 20 21 rfl rfl (by omega) (by omega) (fun x22 hx22 => ?_); refine sp (pIs es_25 hx22) ?_) | refine sp (pIo es_25) ?_
        refine sr (rS1 ty_3) ?_
        refine sp pMa ?_
        refine oNil ?_
        refine aSeq ?_
        refine aReg ?_
        refine sp pM ?_
        refine sp pM ?_
        refine sq ?_
        refine cv rfl rfl rfl (lents_refl _) cmp_Compare ?_
        refine sp pMa ?_
        refine oNil ?_
        refine aSeq ?_
        refine aReg ?_
        refine sp pM ?_
        refine sp pB ?_
        refine oNil ?_
        refine aCondNe rfl (fun c28 => ?_) (fun c28 => ?_)
        · skip
          refine aSeq ?_
          refine aReg ?_
          refine sp pM ?_
          refine sp pMa ?_
          refine oNil ?_
          refine aRet ?_
          refine finIs rfl ?_
          rw [← hv, cmpL_step hx hy, if_pos (by assumption)]
          rfl
        · skip
          refine aSkip ?_
          refine aReg ?_
          refine sp pAd ?_
          refine sp pM ?_
          refine oNil ?_
          refine ⟨i + 1, ?_, by (try dsimp only); omega, ⟨gInt rfl (by first | rfl | omega | simp), rfl, rfl, rfl, rfl, trivial⟩, _, (by repeat constructor)⟩
          refine ⟨by omega, by omega, ?_⟩
          rw [← hv, cmpL_step hx hy, if_neg (by simp_all)]
    · skip
      refine aExit rfl ?_
      refine aSeq ?_
      refine aSeq ?_
      refine aReg ?_
      refine sp pM ?_
      refine sp (by first | exact pLm sl_25 | exact pLs sl_25) ?_
      refine sp pM ?_
      refine sp (by first | exact pLm sl_25 | exact pLs sl_25) ?_
      refine sp pB ?_
      refine oNil ?_
      refine aCondDec rfl (fun c35 => ?_) (fun c35 => ?_)
      · skip
        refine aSeq ?_
        obtain ⟨y, hy⟩ : ∃ z, b[i]? = some z := ⟨_, List.getElem?_eq_getElem (by omega)⟩
        refine aReg ?_
        refine sp pMa ?_
        refine oNil ?_
        refine aRet ?_
        refine finIs rfl ?_
        rw [← hv, List.drop_of_length_le (l := a) (by omega), drop_step hy]
        rfl
      · skip
        refine aSkip ?_
        refine aSeq ?_
        refine aReg ?_
        refine sp pMa ?_
        refine oNil ?_
        refine aRet ?_
        refine finIs rfl ?_
        rw [← hv, List.drop_of_length_le (l := a) (by omega), List.drop_of_length_le (l := b) (by omega)]
        rfl
/- slices.Clone[[]int,int] -/
set_option maxRecDepth 100000 in
set_option maxHeartbeats 400000 in
theorem clone_int {l : List Int} (hl : l.length ≤ 1000000 := by omega) : Triple Try.prog 241 [.sl 1 (l.map intA)] [] (Own 3 1 (l.map intA) []) := by
  refine triple_of Try.func241 rfl (by kernel_rfl) rfl (by simp) ?_
  refine aSeq ?_
  refine aReg ?_
  refine sp pMa ?_
  refine oNil ?_
  refine aSeq ?_
  refine aSeq ?_
  refine aReg ?_
  refine sp pM ?_
  refine sa ?_
  refine oSlNil rfl (.inl rfl) rfl sl_25 rfl (by decide) (fun q4 hq4 => ?_)
  refine oNil ?_
  refine aCond rfl (fun c4 => ?_) (fun c4 => ?_)
  · skip
    refine aSeq ?_
    refine aWeak (weak_nil 3 1) ?_
    refine aReg ?_
    refine sp pMa ?_
    refine oNil ?_
    refine aRet ?_
    have he : l = [] := by
      cases l with
      | nil => rfl
      | cons x l => have := hq4 (by simp); simp_all
    subst he
    exact ⟨_, _, _, rfl, .cons .hd .nil, none, 0, rfl, rfl⟩
  · skip
    refine aSkip ?_
    refine aSeq ?_
    refine aReg ?_
    refine sq ?_
    refine qLit (l := []) rfl rfl (by decide) us_25 ty_3 ze_3 rfl (by decide) (by decide) rfl rfl rfl (fun b5 => ?_)
    refine sp pM ?_
    refine sa ?_
    first | refine oAppT (out := []) _ rfl rfl (by repeat constructor) (.inl rfl) el_25 sl_25 (fun g7 k7 => ?_) | refine oAppT (out := []) _ rfl rfl (by repeat constructor) (srcOwn rfl (by repeat constructor) (by first | rfl | simp)) el_25 sl_25 (fun g7 k7 => ?_)
    refine sp pMa ?_
    refine oNil ?_
    refine aRet ?_
    refine finOwn rfl ?_
    rfl
theorem clone_int_s {l : List Int} (hl : l.length ≤ 1000000 := by omega) : Triple Try.prog 241 [.sl 1 (l.map intA)] [] (Is (.sl 1 (l.map intA)) []) := (clone_int (l := l) hl).settle
/- kpath.order -/
def kp_order_r1_T : Bool × List (List Nat × List Nat) := (true, [([], []), ([0], [0]), ([], []), ([2], [2]), ([1, 3], [1, 3]), ([], []), ([5], [5]), ([], []), ([7], [7]), ([6, 8, 4], [6, 8]), ([4, 9], [4, 9]), ([10, 9], [10]), ([11, 11, 0, 1, 2, 3, 4, 5, 6, 7, 8, 9, 10, 11], [11])])
def kp_order_r1_B : List Nat := [0, 1, 0, 4, 15, 0, 32, 0, 128, 511, 1023, 2047, 4095]
theorem kp_order_r1_t : Go.Proofs.YtmcannmjielalaaW.PrintLast.rtab .any (Go.Proofs.YtmcannmjielalaaW.PrintLast.opsOf Try.f166 1) = kp_order_r1_T := by kernel_rfl
theorem kp_order_r1_b : Go.Proofs.YtmcannmjielalaaW.PrintLast.waitsOk kp_order_r1_T.2 kp_order_r1_B = true := by kernel_rfl
set_option maxRecDepth 100000 in
set_option maxHeartbeats 400000 in
theorem kp_order {a b : Pth} (ha : a.ns.length < 9223372036854775807) (hb : b.ns.length < 9223372036854775807) : Triple Try.prog 166 [.agg (pthC a), .agg (pthC b)] [] (Is (.v (.int .i64 (orderP a b))) []) := by
  refine triple_of Try.func166 rfl (by kernel_rfl) rfl (by simp) ?_
  refine aSeq ?_
  refine aReg ?_
  refine sq ?_
  refine qBox rfl rfl (by decide) rfl rfl (fun b2 => ?_)
  refine sq ?_
  refine qBox rfl rfl (by decide) rfl rfl (fun b3 => ?_)
  refine sp pMa ?_
  refine oNil ?_
  refine aSeq ?_
  refine aDrawT kp_order_r1_t kp_order_r1_b [] 13 #[false, false, false, false, false, false, false, false, false, false, false, false, false] (by kernel_rfl) rfl rfl (fun HT => ?_)
  refine dp HT 0 rfl (pFb fd_125_1) ?_
  refine dr HT 1 rfl (rB1 ty_37) ?_
  refine dp HT 2 rfl (pFb fd_125_1) ?_
  refine dr HT 3 rfl (rB1 ty_37) ?_
  refine dp HT 5 rfl (pFb fd_125_0) ?_
  refine dr HT 6 rfl (rB1 ty_25) ?_
  refine dp HT 7 rfl (pFb fd_125_0) ?_
  refine dr HT 8 rfl (rB1 ty_25) ?_
  refine dGo ?_
  refine e1 HT 4 rfl ?_
  refine cv rfl rfl rfl (lents_refl _) cmp_Compare64 ?_
  refine e1 HT 9 rfl ?_
  refine cv rfl rfl rfl (lents_refl _) (compare_ints (a := a.ns) (b := b.ns) ha hb) ?_
  refine e1 HT 10 rfl ?_
  refine qLit (l := [_, _]) rfl rfl (by decide) us_25 ty_3 ze_3 rfl (by decide) (by decide) rfl rfl rfl (fun b15 => ?_)
  refine e1 HT 11 rfl ?_
  refine cv rfl rfl rfl (by repeat (first | exact .nil | refine .cons (.sl (by repeat (first | exact List.mem_cons_self | apply List.mem_cons_of_mem)) (by first | rfl | simp)) ?_ | refine .cons (.same _) ?_)) (cmp_Or [cmpI a.c b.c, cmpL a.ns b.ns]) ?_
  refine ePure (i := 12) #[true, true, true, true, true, true, true, true, true, true, true, true, true] rfl rfl rfl (HT.any (by kernel_rfl)) (by exact pMa) (by decide) ?_
  refine eE HT ?_
  clear HT
  refine aRet ?_
  refine finIs rfl ?_
  by_cases h1 : cmpI a.c b.c = 0 <;> by_cases h2 : cmpL a.ns b.ns = 0 <;> simp [retOf, orI, orderP, h1, h2]
def wkI (l : List Arc) (td : Int) (k : Nat) (ns : List Int) (i : Nat) : List Pth := ((nxtN (l.take i) ns).flatMap fun t => wkN l td k (ns ++ [t])).map (mkP l)
theorem wkI_yes {l : List Arc} {td : Int} {k : Nat} {ns : List Int} {i : Nat} {a : Arc} (h : l[i]? = some a) (ha : okA ns a = true) : wkI l td k ns (i + 1) = wkI l td k ns i ++ (wkN l td k (ns ++ [a.t])).map (mkP l) := by
  unfold wkI
  rw [nxtN_step h, ha, if_pos rfl, List.flatMap_append, List.map_append]
  congr 1
  simp
theorem wkI_no {l : List Arc} {td : Int} {k : Nat} {ns : List Int} {i : Nat} {a : Arc} (h : l[i]? = some a) (ha : okA ns a = false) : wkI l td k ns (i + 1) = wkI l td k ns i := by
  unfold wkI
  rw [nxtN_step h, ha]
  simp
theorem wkI_len {l : List Arc} (hok : arcsB none l = true) (h8 : (nodesM l).length ≤ 8) (td : Int) {k : Nat} {ns : List Int} (h : NsOk l ns) {i : Nat} {a : Arc} (hi : l[i]? = some a) (ha : okA ns a = true) : (wkI l td k ns i).length + facN (8 - (ns.length + 1)) ≤ facN (8 - ns.length) := by
  have h2 := nxt_le hok h h8
  have h3 := nxtN_split l ns (i + 1)
  rw [nxtN_step hi, ha, if_pos rfl] at h3
  have h4 := congrArg List.length h3
  simp only [List.length_append, List.length_singleton] at h4
  unfold wkI
  rw [List.length_map]
  have h1 := flat_len2 (f := fun t => wkN l td k (ns ++ [t])) (m := facN (7 - ns.length)) (nxtN (l.take i) ns) (fun t ht => by
    have := wkN_len hok h8 td k (ns ++ [t]) (h.nxt (arcs_ok hok) (by rw [nxtN_split l ns i]; exact List.mem_append_left _ ht))
    rwa [List.length_append, List.length_singleton, show 8 - (ns.length + 1) = 7 - ns.length by omega] at this)
  have e : facN (8 - ns.length) = (8 - ns.length) * facN (7 - ns.length) := by
    rw [show 8 - ns.length = (7 - ns.length) + 1 by omega]
    rfl
  have h5 := Nat.mul_le_mul_right (facN (7 - ns.length)) (show (nxtN (l.take i) ns).length + 1 ≤ 8 - ns.length by omega)
  rw [Nat.add_mul, Nat.one_mul] at h5
  rw [show 8 - (ns.length + 1) = 7 - ns.length by omega]
  omega
theorem wkI_all {l : List Arc} {td : Int} {k : Nat} {ns : List Int} (h : ¬ lastN ns = td) : wkI l td k ns l.length = (wkN l td (k + 1) ns).map (mkP l) := by
  unfold wkI
  rw [List.take_length]
  conv => rhs; unfold wkN
  rw [if_neg h]
/- kpath.walker).from -/
def kp_fromO_r3_T : Bool × List (List Nat × List Nat) := (true, [([], []), ([], []), ([1], [1]), ([2], [2]), ([3], [3]), ([], []), ([5], [5]), ([6], [6]), ([], []), ([8], [8]), ([7, 9], [7, 9]), ([10], [10]), ([4, 11, 7], [4, 11]), ([0, 0, 1, 2, 3, 4, 5, 6, 7, 8, 9, 10, 11, 12], [0]), ([13, 0, 1, 2, 3, 4, 5, 6, 7, 8, 9, 10, 11, 12], [13]), ([14, 12, 12, 0, 1, 2, 3, 4, 5, 6, 7, 8, 9, 10, 11, 12], [12, 14])])
def kp_fromO_r3_B : List Nat := [0, 0, 2, 6, 14, 0, 32, 96, 0, 256, 992, 2016, 4094, 8191, 16383, 32767]
theorem kp_fromO_r3_t : Go.Proofs.YtmcannmjielalaaW.PrintLast.rtab .any (Go.Proofs.YtmcannmjielalaaW.PrintLast.opsOf Try.f164 3) = kp_fromO_r3_T := by kernel_rfl
theorem kp_fromO_r3_b : Go.Proofs.YtmcannmjielalaaW.PrintLast.waitsOk kp_fromO_r3_T.2 kp_fromO_r3_B = true := by kernel_rfl
def kp_fromO_r8_T : Bool × List (List Nat × List Nat) := (true, [([], []), ([], []), ([1], [1]), ([2], [2]), ([], []), ([4], [4]), ([5], [5]), ([3, 6, 3], [3, 6]), ([], []), ([8], [8]), ([], []), ([10], [10]), ([11], [11]), ([9, 12, 7], [9, 12]), ([7, 13], [7, 13]), ([0, 14, 13], [0, 14])])
def kp_fromO_r8_B : List Nat := [0, 0, 2, 6, 0, 16, 48, 126, 0, 256, 0, 1024, 3072, 8190, 16382, 32767]
theorem kp_fromO_r8_t : Go.Proofs.YtmcannmjielalaaW.PrintLast.rtab .any (Go.Proofs.YtmcannmjielalaaW.PrintLast.opsOf Try.f164 8) = kp_fromO_r8_T := by kernel_rfl
theorem kp_fromO_r8_b : Go.Proofs.YtmcannmjielalaaW.PrintLast.waitsOk kp_fromO_r8_T.2 kp_fromO_r8_B = true := by kernel_rfl
set_option maxRecDepth 100000 in
set_option maxHeartbeats 4000000 in
theorem kp_fromO {l : List Arc} {td : Int} {k : Nat} {ns : List Int} (wb : Nat) (g0 : Option Nat) (c0 : Nat) (out0 : List Pth) (hok : arcsB none l = true) (hll : l.length ≤ 1000000) (h8 : (nodesM l).length ≤ 8) (hns : NsOk l ns) (hk : 9 ≤ ns.length + k) (hol : out0.length + facN (8 - ns.length) ≤ 1000000) (ih : ∀ (t : Int) (g : Option Nat) (c : Nat) (out : List Pth), 0 < k → t ∈ nxtN l ns → out.length + facN (8 - (ns.length + 1)) ≤ 1000000 → Triple Try.prog 164 [(.v (.pointer (some ⟨wb, 0, none⟩))), .agg [.sl 1 ((ns ++ [t]).map intA), .v (.int .u64 (pcost l (ns ++ [t])))]] [.box wb [.sl 3 (l.map arcC), .int td, .v (slV g (out).length c)], .sl g c 125 2 ((out).map pthC)] (fun q h' => ∃ g' c', q = .tup [] ∧ h' = [.box wb [.sl 3 (l.map arcC), .int td, .v (slV g' (out ++ ((wkN l td (k - 1) (ns ++ [t])).map (mkP l))).length c')], .sl g' c' 125 2 ((out ++ ((wkN l td (k - 1) (ns ++ [t])).map (mkP l))).map pthC)])) : Triple Try.prog 164 [(.v (.pointer (some ⟨wb, 0, none⟩))), .agg [.sl 1 (ns.map intA), .v (.int .u64 (pcost l ns))]] [.box wb [.sl 3 (l.map arcC), .int td, .v (slV g0 (out0).length c0)], .sl g0 c0 125 2 ((out0).map pthC)] (fun q h' => ∃ g' c', q = .tup [] ∧ h' = [.box wb [.sl 3 (l.map arcC), .int td, .v (slV g' (out0 ++ ((wkN l td k ns).map (mkP l))).length c')], .sl g' c' 125 2 ((out0 ++ ((wkN l td k ns).map (mkP l))).map pthC)]) := by
  have hl := arcs_ok hok
  have hnl := hns.len h8
  have hk0 : 0 < k := by omega
  have hn0 := List.length_pos_iff.2 hns.ne
  have hx : ns[((ns.length : Int) - 1).toNat]? = some (lastN ns) := by rw [show ((ns.length : Int) - 1).toNat = ns.length - 1 by omega]; exact lastN_at hns.ne
  have hpr := pcost_rng hl ns
  have hp1 := facN_pos (8 - ns.length)
  refine triple_of Try.func164 rfl (by kernel_rfl) rfl (by simp) ?_
  refine aSeq ?_
  refine aReg ?_
  refine sq ?_
  refine qBox rfl rfl (by decide) rfl rfl (fun b3 => ?_)
  refine oNil ?_
  refine aSeq ?_
  refine aReg ?_
  refine sp (pFb fd_125_0) ?_
  refine sr (rB1 ty_25) ?_
  refine sp (pFb fd_125_0) ?_
  refine sr (rB1 ty_25) ?_
  refine sp (by first | exact pLm sl_25 | exact pLs sl_25 | exact pLv sl_25) ?_
  refine sp pSu ?_
  first | refine sp (pIx es_25) ?_ | (refine obtSN 8 12 rfl rfl (by omega) (fun x13 hx13 => ?_); refine sp (pIs es_25 hx13) ?_) | (refine obtS 8 12 rfl rfl (by omega) (by omega) (fun x13 hx13 => ?_); refine sp (pIs es_25 hx13) ?_) | refine sp (pIo es_25) ?_
  refine sr (by first | exact rS1 ty_3 | exact rB1 ty_3 | exact rAr ty_3 | exact rArL ty_3 | exact rArR2 ty_3) ?_
  refine sp pMa ?_
  refine oNil ?_
  refine aSeq ?_
  refine aSeq ?_
  refine aReg ?_
  refine sp pM ?_
  refine sp pM ?_
  refine sp pNv ?_
  refine sp (pFb fd_202_1) ?_
  refine sr (rB1 ty_3) ?_
  refine sp pB ?_
  refine oNil ?_
  refine aCondEq rfl (fun c20 => ?_) (fun c20 => ?_)
  · skip
    refine aSeq ?_
    have hw1 : wkN l td k ns = [ns] := by
      obtain ⟨j, rfl⟩ : ∃ j, k = j + 1 := ⟨k - 1, by omega⟩
      unfold wkN
      rw [if_pos (by assumption)]
    refine aDrawT kp_fromO_r3_t kp_fromO_r3_b [12, 15] 16 #[false, false, false, false, false, false, false, false, false, false, false, false, false, false, false, false] (by kernel_rfl) rfl rfl (fun HT => ?_)
    refine dp HT 0 rfl pM ?_
    refine dp HT 1 rfl pM ?_
    refine dp HT 2 rfl pNv ?_
    refine dp HT 3 rfl (pFb fd_202_2) ?_
    refine dr HT 4 rfl (rB1 ty_99) ?_
    refine dp HT 5 rfl (pFb fd_125_0) ?_
    refine dr HT 6 rfl (rB1 ty_25) ?_
    refine dp HT 8 rfl (pFb fd_125_1) ?_
    refine dr HT 9 rfl (rB1 ty_37) ?_
    refine dGo ?_
    refine e1 HT 7 rfl ?_
    refine ci rfl rfl rfl (clone_int_s (l := ns) (by omega)) ?_
    refine ef HT 10 rfl (pBuild rfl st_125 ze_125 rfl rfl rfl rfl) ?_
    refine e1 HT 11 rfl ?_
    refine qLit (l := [_]) rfl rfl (by decide) us_99 ty_125 ze_125 rfl (by decide) (by decide) rfl rfl rfl (fun b32 => ?_)
    refine eLast ?_
    refine f1 HT 12 rfl ?_
    refine oAppT ([mkP l ns] : List Pth) rfl rfl (by repeat constructor) (srcOwn rfl (by repeat constructor) rfl) el_99 sl_99 (fun g33 k33 => ?_)
    refine fp HT 13 rfl pNv ?_
    refine fp HT 14 rfl (pFb fd_202_2) ?_
    refine f1 HT 15 rfl ?_
    refine oStB rfl rfl rfl rfl (by repeat constructor) ty_99 rfl (Nat.le_of_ble_eq_true rfl) rfl ?_
    refine fE HT ?_
    clear HT
    refine aRet ?_
    rw [hw1]
    exact ⟨_, _, _, rfl, (by repeat constructor), _, _, rfl, rfl⟩
  · skip
    refine aSkip ?_
    refine aSeq ?_
    have hnt : ¬ lastN ns = td := by assumption
    refine aReg ?_
    refine sp pM ?_
    refine sp pNv ?_
    refine sp (pFb fd_202_0) ?_
    refine sr (rB1 ty_22) ?_
    refine sp (by first | exact pLm sl_22 | exact pLs sl_22 | exact pLv sl_22) ?_
    refine sp pM ?_
    refine oNil ?_
    refine aBlock ?_
    refine loopF (α := Nat × Option Nat × Nat × List Pth) (kept := [(0, _), (3, _), (4, _), (39, _), (40, _)]) (fun (i, g, c, out) => i ≤ l.length ∧ out = out0 ++ wkI l td (k - 1) ns i) (fun (i, g, c, out) => [(41, .int i)]) (fun (i, g, c, out) => [.box wb [.sl 3 (l.map arcC), .int td, .v (slV g (out).length c)], .sl g c 125 2 ((out).map pthC)]) (fun (i, g, c, out) => l.length - i) (0, g0, c0, out0) ?_ ⟨gInt rfl (by first | rfl | omega | simp), rfl, rfl, rfl, rfl, rfl, trivial⟩ (by repeat constructor) ?_
    · skip
      exact ⟨by omega, by simp [wkI, nxtN]⟩
    · rintro ⟨i, g, c, out⟩ ⟨hi, ho⟩
      refine aSeq ?_
      refine aReg ?_
      refine sp pB ?_
      refine oNil ?_
      refine aSeq ?_
      refine aCondDec rfl (fun c42 => ?_) (fun c42 => ?_)
      · skip
        refine aSkip ?_
        refine aSeq ?_
        refine aBlock ?_
        refine aSeq ?_
        obtain ⟨a, ha⟩ : ∃ z, l[i]? = some z := ⟨_, List.getElem?_eq_getElem (by omega)⟩
        have hak := hl a (List.mem_of_getElem? ha)
        unfold AOk at hak
        refine aReg ?_
        first | refine sp (pIx es_22) ?_ | (refine obtSN 39 41 rfl rfl (by omega) (fun x43 hx43 => ?_); refine sp (pIs es_22 hx43) ?_) | (refine obtS 39 41 rfl rfl (by omega) (by omega) (fun x43 hx43 => ?_); refine sp (pIs es_22 hx43) ?_) | refine sp (pIo es_22) ?_
        refine sr (by first | exact rSW ty_36 rfl | exact rSA ty_36 | exact rBWa ty_36 | exact rBW ty_36 | exact rBA ty_36 | exact rArA ty_36 (fun _ => rfl)) ?_
        refine sq ?_
        refine qAlloc rfl rfl (by decide) ze_36 rfl (fun b6 => ?_)
        refine sa ?_
        refine oStW rfl rfl rfl rfl (by repeat constructor) ty_36 ?_
        refine oNil ?_
        refine aSeq ?_
        refine aReg ?_
        refine sp (pFb fd_36_0) ?_
        refine sr (rB1 ty_3) ?_
        refine sp pM ?_
        refine sp pB ?_
        refine sp pM ?_
        refine oSplitEq 49 rfl (fun c49 => ?_) (fun c49 => ?_)
        · skip
          refine gp (pFb fd_125_0) ?_
          refine gr (rB1 ty_25) ?_
          refine gp (pFb fd_36_1) ?_
          refine gr (rB1 ty_3) ?_
          refine ga ?_
          refine (cv rfl rfl rfl (lents_refl _) (contains_int (l := ns) (n := a.t) (by omega)) ?_).op
          refine gp pNo ?_
          refine sp pK ?_
          refine oNil ?_
          refine aCondNot rfl (fun c56 => ?_) (fun c56 => ?_)
          · skip
            have hoa : okA ns a = true := by unfold okA; simp_all
            have hnx : a.t ∈ nxtN l ns := by
              refine nxtN_mem.2 ⟨⟨a, List.mem_of_getElem? ha, ?_, rfl⟩, ?_⟩
              · unfold okA at hoa; simp at hoa; exact hoa.1
              · unfold okA at hoa; simp at hoa; exact hoa.2
            have hwl := wkI_len hok h8 td (k := k - 1) hns ha hoa
            have hca : cst l (lastN ns) a.t = a.c := by
              have := cst_arc (arcsB_sorted hok) (List.mem_of_getElem? ha)
              rwa [show a.f = lastN ns by unfold okA at hoa; simp at hoa; exact hoa.1] at this
            have hpa := pcost_app (l := l) (t := a.t) hns.ne
            rw [hca] at hpa
            refine aDrawT kp_fromO_r8_t kp_fromO_r8_b [15] 16 #[false, false, false, false, false, false, false, false, false, false, false, false, false, false, false, false] (by kernel_rfl) rfl rfl (fun HT => ?_)
            refine dp HT 0 rfl pM ?_
            refine dp HT 1 rfl (pFb fd_125_0) ?_
            refine dr HT 2 rfl (rB1 ty_25) ?_
            refine dp HT 4 rfl (pFb fd_36_1) ?_
            refine dr HT 5 rfl (rB1 ty_3) ?_
            refine dp HT 8 rfl (pFb fd_125_1) ?_
            refine dr HT 9 rfl (rB1 ty_37) ?_
            refine dp HT 10 rfl (pFb fd_36_2) ?_
            refine dr HT 11 rfl (rB1 ty_3) ?_
            refine dp HT 12 rfl (by first | exact pCvK ik_3 ik_37 | exact pConv rfl rfl ik_3 ik_37 rfl) ?_
            refine dGo ?_
            refine eTwoS (i := 3) (j := 6) #[true, true, true, true, true, true, false, false, true, true, true, true, true, false, false, false] #[true, true, true, false, true, true, true, false, true, true, true, true, true, false, false, false] rfl rfl (HT.two (by kernel_rfl)) (by decide) (by decide) ?_ ?_
            · skip
              refine stA (hx := []) (wantN rfl) (fun t ht => by cases ht <;> decide) .nil (by repeat constructor) ?_
              first | refine coM rfl rfl rfl (clone_int (l := ns) (by omega)) (fun g60 k60 => ?_) | refine co rfl rfl rfl (clone_int (l := ns) (by omega)) (fun g60 k60 => ?_)
              refine undel (d := 60) rfl ?_
              dsimp only [List.cons_append, List.nil_append]
              refine e1 HT 6 rfl ?_
              refine qLit (l := [_]) rfl rfl (by decide) us_25 ty_3 ze_3 rfl (by decide) (by decide) rfl rfl rfl (fun b63 => ?_)
              refine eOneS (i := 7) #[true, true, true, true, true, true, true, true, true, true, true, true, true, false, false, false] rfl (HT.one (by kernel_rfl)) (by decide) ?_
              · skip
                refine stA (hx := [.sl g60 k60 _ 1 _, .sl (some b63) _ _ 1 _]) (wantN rfl) (fun t ht => by cases ht <;> decide) (.cons (by repeat constructor) (.cons (by repeat constructor) .nil)) (by repeat constructor) ?_
                refine oAppT ([a.t] : List Int) rfl rfl (by repeat constructor) (srcOwn rfl (by repeat constructor) rfl) el_25 sl_25 (fun g64 k64 => ?_)
                refine undel (d := 64) rfl ?_
                dsimp only [List.cons_append, List.nil_append]
                refine eWeak (weak_settle (k := 64) rfl (by repeat constructor) (by simp)) (fun b hb => by simp [owns, HA.own] at hb ⊢; rcases hb with h | h | h | h <;> simp [h]) ?_
                refine e1 HT 13 rfl ?_
                refine cv rfl rfl rfl (lents_refl _) (cost_Add (by omega) (by omega) (by omega) (by omega)) ?_
                rw [if_neg (by omega), ← hpa]
                refine ef HT 14 rfl (pBuild rfl st_125 ze_125 rfl rfl rfl rfl) ?_
                refine eLast ?_
                refine f1 HT 15 rfl ?_
                refine ca rfl rfl rfl (ih a.t g c out hk0 hnx (by rw [ho, List.length_append]; omega)) ?_
                rintro _ _ ⟨g2, c2, rfl, rfl⟩
                refine fE HT ?_
                clear HT
                refine aReg ?_
                refine sp pAd ?_
                refine sp pM ?_
                refine oNil ?_
                refine ⟨(i + 1, _, _, _), ?_, by (try dsimp only); omega, ⟨gInt rfl (by first | rfl | omega | simp), rfl, rfl, rfl, rfl, rfl, trivial⟩, _, (by repeat constructor)⟩
                refine ⟨by omega, ?_⟩
                first
                  | (rw [wkI_yes ha hoa, ho, List.append_assoc]; done)
                  | (rw [wkI_no ha (by unfold okA; simp_all), ho]; done)
            · skip
              refine stQ (wantN rfl) (fun t ht => by cases ht <;> decide) ?_
              refine qLit (l := [_]) rfl rfl (by decide) us_25 ty_3 ze_3 rfl (by decide) (by decide) rfl rfl rfl (fun b63 => ?_)
              refine undel (d := 63) rfl ?_
              refine eOneS (i := 3) #[true, true, true, true, true, true, true, false, true, true, true, true, true, false, false, false] rfl (HT.one (by kernel_rfl)) (by decide) ?_
              · skip
                refine stA (hx := []) (wantN rfl) (fun t ht => by cases ht <;> decide) .nil (by repeat constructor) ?_
                first | refine coM rfl rfl rfl (clone_int (l := ns) (by omega)) (fun g60 k60 => ?_) | refine co rfl rfl rfl (clone_int (l := ns) (by omega)) (fun g60 k60 => ?_)
                refine undel (d := 60) rfl ?_
                dsimp only [List.cons_append, List.nil_append]
                refine eOneS (i := 7) #[true, true, true, true, true, true, true, true, true, true, true, true, true, false, false, false] rfl (HT.one (by kernel_rfl)) (by decide) ?_
                · skip
                  refine stA (hx := [.sl g60 k60 _ 1 _, .sl (some b63) _ _ 1 _]) (wantN rfl) (fun t ht => by cases ht <;> decide) (.cons (by repeat constructor) (.cons (by repeat constructor) .nil)) (by repeat constructor) ?_
                  refine oAppT ([a.t] : List Int) rfl rfl (by repeat constructor) (srcOwn rfl (by repeat constructor) rfl) el_25 sl_25 (fun g64 k64 => ?_)
                  refine undel (d := 64) rfl ?_
                  dsimp only [List.cons_append, List.nil_append]
                  refine eWeak (weak_settle (k := 64) rfl (by repeat constructor) (by simp)) (fun b hb => by simp [owns, HA.own] at hb ⊢; rcases hb with h | h | h | h <;> simp [h]) ?_
                  refine e1 HT 13 rfl ?_
                  refine cv rfl rfl rfl (lents_refl _) (cost_Add (by omega) (by omega) (by omega) (by omega)) ?_
                  rw [if_neg (by omega), ← hpa]
                  refine ef HT 14 rfl (pBuild rfl st_125 ze_125 rfl rfl rfl rfl) ?_
                  refine eLast ?_
                  refine f1 HT 15 rfl ?_
                  refine ca rfl rfl rfl (ih a.t g c out hk0 hnx (by rw [ho, List.length_append]; omega)) ?_
                  rintro _ _ ⟨g2, c2, rfl, rfl⟩
                  refine fE HT ?_
                  clear HT
                  refine aReg ?_
                  refine sp pAd ?_
                  refine sp pM ?_
                  refine oNil ?_
                  refine ⟨(i + 1, _, _, _), ?_, by (try dsimp only); omega, ⟨gInt rfl (by first | rfl | omega | simp), rfl, rfl, rfl, rfl, rfl, trivial⟩, _, (by repeat constructor)⟩
                  refine ⟨by omega, ?_⟩
                  first
                    | (rw [wkI_yes ha hoa, ho, List.append_assoc]; done)
                    | (rw [wkI_no ha (by unfold okA; simp_all), ho]; done)
          · skip
            refine aSkip ?_
            refine aReg ?_
            refine sp pAd ?_
            refine sp pM ?_
            refine oNil ?_
            refine ⟨(i + 1, _, _, _), ?_, by (try dsimp only); omega, ⟨gInt rfl (by first | rfl | omega | simp), rfl, rfl, rfl, rfl, rfl, trivial⟩, _, (by repeat constructor)⟩
            refine ⟨by omega, ?_⟩
            first
              | (rw [wkI_yes ha hoa, ho, List.append_assoc]; done)
              | (rw [wkI_no ha (by unfold okA; simp_all), ho]; done)
        · skip
          refine gf ?_
          refine gf ?_
          refine gf ?_
          refine gf ?_
          refine gf ?_
          refine gf ?_
          refine sp pK ?_
          refine oNil ?_
          refine aCondF rfl ?_
          refine aSkip ?_
          refine aReg ?_
          refine sp pAd ?_
          refine sp pM ?_
          refine oNil ?_
          refine ⟨(i + 1, _, _, _), ?_, by (try dsimp only); omega, ⟨gInt rfl (by first | rfl | omega | simp), rfl, rfl, rfl, rfl, rfl, trivial⟩, _, (by repeat constructor)⟩
          refine ⟨by omega, ?_⟩
          first
            | (rw [wkI_yes ha hoa, ho, List.append_assoc]; done)
            | (rw [wkI_no ha (by unfold okA; simp_all), ho]; done)
      · skip
        refine aExit rfl ?_
        have hwa := wkI_all (l := l) (k := k - 1) hnt
        rw [show k - 1 + 1 = k by omega] at hwa
        obtain rfl : i = l.length := by omega
        rw [hwa] at ho
        rw [← ho]
        refine ⟨_, [.box wb [.sl 3 (l.map arcC), .int td, .v (slV g (out).length c)], .sl g c 125 2 ((out).map pthC)], _, rfl, (.cons (by repeat constructor) (.cons (by repeat constructor) .nil)), g, c, rfl, rfl⟩
end A
end Go.Proofs.Ytmcannmjielalaa
set_option linter.unusedVariables false
set_option linter.unusedSimpArgs false
namespace Go.Proofs.Ytmcannmjielalaa
namespace A
theorem es_99 : elemSize Try.prog 99 = some 2 := by kernel_rfl
theorem st_202 : structPlaces Try.prog 202 = some [(0, 1), (1, 1), (2, 1)] := by kernel_rfl
theorem ze_202 : zeroOf Try.prog 202 = some (.agg #[.slice none 0 0, .int .i64 0, .slice none 0 0]) := by kernel_rfl
def srtP_ren : Go.Shelf.Ren := ⟨fun | 6 => 165 | 15 => 243 | 14 => 242 | 28 => 282 | 29 => 283 | 20 => 274 | 21 => 275 | 22 => 276 | 23 => 277 | 24 => 278 | 25 => 279 | 26 => 280 | 27 => 281 | 46 => 319 | 47 => 320 | 48 => 321 | 49 => 322 | 50 => 323 | 57 => 337 | n => n, fun | 22 => 99 | 24 => 125 | 25 => 205 | 3 => 3 | 39 => 270 | 0 => 0 | 53 => 313 | 55 => 37 | 4 => 4 | 46 => 307 | 45 => 306 | 50 => 175 | 5 => 5 | 9 => 9 | 66 => 341 | 70 => 344 | 76 => 354 | 77 => 187 | n => n, fun | n => n⟩
theorem srtP : Go.Proofs.SlLaysF0.n6 Try.prog srtP_ren := {
  mixed := by kernel_rfl,
  f6 := ⟨"slices.SortFunc[[]waymark/api.Path,waymark/api.Path]", by decide, Try.func165.trans (congrArg some (by kernel_rfl))⟩,
  f14 := ⟨"slices.pdqsortCmpFunc[waymark/api.Path]", by decide, Try.func242.trans (congrArg some (by kernel_rfl))⟩,
  f15 := Try.func243.trans (congrArg some (by kernel_rfl)),
  f20 := ⟨"slices.insertionSortCmpFunc[waymark/api.Path]", by decide, Try.func274.trans (congrArg some (by kernel_rfl))⟩,
  f21 := ⟨"slices.heapSortCmpFunc[waymark/api.Path]", by decide, Try.func275.trans (congrArg some (by kernel_rfl))⟩,
  f22 := ⟨"slices.breakPatternsCmpFunc[waymark/api.Path]", by decide, Try.func276.trans (congrArg some (by kernel_rfl))⟩,
  f23 := ⟨"slices.choosePivotCmpFunc[waymark/api.Path]", by decide, Try.func277.trans (congrArg some (by kernel_rfl))⟩,
  f24 := ⟨"slices.reverseRangeCmpFunc[waymark/api.Path]", by decide, Try.func278.trans (congrArg some (by kernel_rfl))⟩,
  f25 := ⟨"slices.partialInsertionSortCmpFunc[waymark/api.Path]", by decide, Try.func279.trans (congrArg some (by kernel_rfl))⟩,
  f26 := ⟨"slices.partitionEqualCmpFunc[waymark/api.Path]", by decide, Try.func280.trans (congrArg some (by kernel_rfl))⟩,
  f27 := ⟨"slices.partitionCmpFunc[waymark/api.Path]", by decide, Try.func281.trans (congrArg some (by kernel_rfl))⟩,
  f28 := Try.func282.trans (congrArg some (by kernel_rfl)),
  f29 := Try.func283.trans (congrArg some (by kernel_rfl)),
  f46 := ⟨"slices.siftDownCmpFunc[waymark/api.Path]", by decide, Try.func319.trans (congrArg some (by kernel_rfl))⟩,
  f47 := Try.func320.trans (congrArg some (by kernel_rfl)),
  f48 := Try.func321.trans (congrArg some (by kernel_rfl)),
  f49 := ⟨"slices.medianAdjacentCmpFunc[waymark/api.Path]", by decide, Try.func322.trans (congrArg some (by kernel_rfl))⟩,
  f50 := ⟨"slices.medianCmpFunc[waymark/api.Path]", by decide, Try.func323.trans (congrArg some (by kernel_rfl))⟩,
  f57 := ⟨"slices.order2CmpFunc[waymark/api.Path]", by decide, Try.func337.trans (congrArg some (by kernel_rfl))⟩,
  t0 := Try.underlying0,
  a0 := Try.isAgg0,
  z0 := Try.sizeOf0,
  v0 := Try.zeroValue0,
  t3 := Try.underlying3,
  a3 := Try.isAgg3,
  z3 := Try.sizeOf3,
  v3 := Try.zeroValue3,
  t4 := Try.underlying4,
  a4 := Try.isAgg4,
  z4 := Try.sizeOf4,
  v4 := Try.zeroValue4,
  t5 := Try.underlying5,
  a5 := Try.isAgg5,
  z5 := Try.sizeOf5,
  v5 := Try.zeroValue5,
  t9 := Try.underlying9,
  a9 := Try.isAgg9,
  z9 := Try.sizeOf9,
  v9 := Try.zeroValue9,
  t22 := Try.underlying99,
  a22 := Try.isAgg99,
  z22 := Try.sizeOf99,
  v22 := Try.zeroValue99,
  t25 := Try.underlying205,
  a25 := Try.isAgg205,
  z25 := Try.sizeOf205,
  v25 := Try.zeroValue205,
  t39 := Try.underlying270,
  a39 := Try.isAgg270,
  z39 := Try.sizeOf270,
  v39 := Try.zeroValue270,
  t45 := Try.underlying306,
  a45 := Try.isAgg306,
  z45 := Try.sizeOf306,
  v45 := Try.zeroValue306,
  t46 := Try.underlying307,
  a46 := Try.isAgg307,
  z46 := Try.sizeOf307,
  v46 := Try.zeroValue307,
  t50 := Try.underlying175,
  a50 := Try.isAgg175,
  z50 := Try.sizeOf175,
  v50 := Try.zeroValue175,
  t53 := Try.underlying313,
  a53 := Try.isAgg313,
  z53 := Try.sizeOf313,
  v53 := Try.zeroValue313,
  t55 := Try.underlying37,
  a55 := Try.isAgg37,
  z55 := Try.sizeOf37,
  v55 := Try.zeroValue37,
  t66 := Try.underlying341,
  a66 := Try.isAgg341,
  z66 := Try.sizeOf341,
  v66 := Try.zeroValue341,
  t70 := Try.underlying344,
  a70 := Try.isAgg344,
  z70 := Try.sizeOf344,
  v70 := Try.zeroValue344,
  t76 := Try.underlying354,
  a76 := Try.isAgg354,
  z76 := Try.sizeOf354,
  v76 := Try.zeroValue354,
  t77 := Try.underlying187,
  a77 := Try.isAgg187,
  z77 := Try.sizeOf187,
  v77 := Try.zeroValue187 }
theorem hb_srtP : HasBody Try.prog 165 := ⟨_, Try.func165, by kernel_rfl, rfl⟩
theorem hb_kpo : HasBody Try.prog 166 := ⟨_, Try.func166, by kernel_rfl, rfl⟩
theorem kp_from {l : List Arc} {td : Int} (wb : Nat) (hok : arcsB none l = true) (hll : l.length ≤ 1000000) (h8 : (nodesM l).length ≤ 8) : ∀ (k : Nat) (ns : List Int) (g : Option Nat) (c : Nat) (out : List Pth), NsOk l ns → 9 ≤ ns.length + k → out.length + facN (8 - ns.length) ≤ 1000000 → Triple Try.prog 164 [(.v (.pointer (some ⟨wb, 0, none⟩))), .agg [.sl 1 (ns.map intA), .v (.int .u64 (pcost l ns))]] [.box wb [.sl 3 (l.map arcC), .int td, .v (slV g (out).length c)], .sl g c 125 2 ((out).map pthC)] (fun q h' => ∃ g' c', q = .tup [] ∧ h' = [.box wb [.sl 3 (l.map arcC), .int td, .v (slV g' (out ++ ((wkN l td k ns).map (mkP l))).length c')], .sl g' c' 125 2 ((out ++ ((wkN l td k ns).map (mkP l))).map pthC)])
  | 0, ns, _, _, _, hns, hk, _ => by have := hns.len h8; omega
  | k + 1, ns, g, c, out, hns, hk, hol => kp_fromO wb g c out hok hll h8 hns hk hol (fun t g c out _ ht ho => kp_from wb hok hll h8 k (ns ++ [t]) g c out (hns.nxt (arcs_ok hok) ht) (by rw [List.length_append, List.length_singleton]; omega) (by rw [List.length_append, List.length_singleton]; exact ho))
theorem wkN_ok {l : List Arc} {td : Int} (hl : ∀ a ∈ l, AOk a) : ∀ (k : Nat) (ns : List Int), NsOk l ns → ∀ p ∈ wkN l td k ns, NsOk l p
  | 0, _, _, p, hp => by simp [wkN] at hp
  | k + 1, ns, h, p, hp => by
    unfold wkN at hp
    split at hp
    · rw [List.mem_singleton.1 hp]; exact h
    · obtain ⟨t, ht, hp⟩ := List.mem_flatMap.1 hp
      exact wkN_ok hl k _ (h.nxt hl ht) p hp
theorem sort_pth (g : Option Nat) (c : Nat) (l : List Pth) (hl : l.length ≤ 1000000) (hok : ∀ x ∈ l, x.ns.length ≤ 64) : Triple Try.prog 165 [.v (slV g l.length c), .fn (.func 166) []] [.sl g c 125 2 (l.map pthC)] (fun r h' => ∃ ts : List Pth, ts.Perm l ∧ ts.Pairwise (fun x y => Go.Proofs.ltOf orderP y x = false) ∧ r = .tup [] ∧ h' = [.sl g c 125 2 (ts.map pthC)]) :=
  triple_sortFuncD (fun x : Pth => x.ns.length ≤ 64) (by decide) (P := Try.prog) srtP rfl hb_srtP (k := 2) rfl ty_125 (by decide) (fC := pthC) (fun _ => rfl) [.slice none 0 0, .int .u64 0]
    (fun F w => ⟨rfl, rfl, fun v hv => by simp at hv; rcases hv with rfl | rfl <;> rfl, fun j av v h1 h2 => by
      match j with
      | 0 => simp [pthC] at h1 h2; subst h1; subst h2; exact .sl0 _ _ _
      | 1 => simp [pthC] at h1 h2; subst h1; subst h2; exact .v _
      | j + 2 => simp at h2⟩) orderP swo_pth (fun x y hx hy => kp_order (a := x) (b := y) (by omega) (by omega)) hb_kpo g c 125 l hok (by omega)
theorem kp_Nodes {l : List Arc} (hl : l.length ≤ 1000000 := by omega) : Triple Try.prog 29 [.sl 3 (l.map arcC)] [] (Is (.sl 1 ((nodesV l).map intA)) []) := (graph_Nodes (l := l) hl).settle
theorem nodesV_len (l : List Arc) : (nodesV l).length ≤ 65 := by
  unfold nodesV
  split
  · exact nodesM_len l
  · simp
theorem lent_fn3 {h : List HA} {f : Fn} {a b a2 b2 a3 b3 : AV} (l : Lent h a b) (l2 : Lent h a2 b2) (l3 : Lent h a3 b3) : Lent h (.fn f [a, a2, a3]) (.fn f [b, b2, b3]) := .fn rfl (fun i x y hx hy => by
  match i with
  | 0 => simp at hx hy; subst hx; subst hy; exact l
  | 1 => simp at hx hy; subst hx; subst hy; exact l2
  | 2 => simp at hx hy; subst hx; subst hy; exact l3
  | i + 3 => simp at hx)
/-! ### Ways that there are -/
def chainB (l : List Arc) : List Int → Bool
  | a :: b :: t => (l.any fun x => x.f == a && x.t == b) && chainB l (b :: t)
  | _ => true
theorem chain_app {l : List Arc} {t : Int} : ∀ {ns : List Int}, ns ≠ [] → chainB l (ns ++ [t]) = (chainB l ns && l.any fun x => x.f == lastN ns && x.t == t)
  | [], h => absurd rfl h
  | [a], _ => by show ((l.any fun x => x.f == a && x.t == t) && true) = (true && _); rw [Bool.and_true, Bool.true_and]; rfl
  | a :: b :: s, _ => by
    have h := chain_app (l := l) (t := t) (ns := b :: s) (by simp)
    rw [lastN_cons]
    show ((l.any fun x => x.f == a && x.t == b) && chainB l ((b :: s) ++ [t])) = (((l.any fun x => x.f == a && x.t == b) && chainB l (b :: s)) && _)
    rw [h, Bool.and_assoc]
theorem take_ne {ns : List Int} {i : Nat} (h : i < ns.length) : ns.take (i + 1) ≠ [] := fun e => by have := congrArg List.length e; rw [List.length_take] at this; simp only [List.length_nil] at this; omega
theorem take_last {ns : List Int} {i : Nat} {u : Int} (h : ns[i]? = some u) : lastN (ns.take (i + 1)) = u := by rw [take_step h]; exact lastN_app _ _
theorem chain_step {l : List Arc} {ns : List Int} {i : Nat} {u v : Int} (hu : ns[i]? = some u) (hv : ns[i + 1]? = some v) : chainB l (ns.take (i + 2)) = (chainB l (ns.take (i + 1)) && l.any fun x => x.f == u && x.t == v) := by
  have := (List.getElem?_eq_some_iff.1 hu).1
  rw [show i + 2 = (i + 1) + 1 by omega, take_step hv, chain_app (take_ne this), take_last hu]
theorem cost_step {l : List Arc} {ns : List Int} {i : Nat} {u v : Int} (hu : ns[i]? = some u) (hv : ns[i + 1]? = some v) : pcost l (ns.take (i + 2)) = pcost l (ns.take (i + 1)) + cst l u v := by
  have := (List.getElem?_eq_some_iff.1 hu).1
  rw [show i + 2 = (i + 1) + 1 by omega, take_step hv, pcost_app (take_ne this), take_last hu]
theorem chain_take {l : List Arc} {ns : List Int} (h : chainB l ns = true) : ∀ k, chainB l (ns.take (ns.length - k)) = true
  | 0 => by rw [Nat.sub_zero, List.take_length]; exact h
  | k + 1 => by
    have ih := chain_take h k
    by_cases hk : k + 1 < ns.length
    · have hu' : ∃ u, ns[ns.length - (k + 2)]? = some u := ⟨_, List.getElem?_eq_getElem (by omega)⟩
      have hv' : ∃ v, ns[ns.length - (k + 2) + 1]? = some v := ⟨_, List.getElem?_eq_getElem (by omega)⟩
      obtain ⟨u, hu⟩ := hu'
      obtain ⟨v, hv⟩ := hv'
      have := chain_step (l := l) hu hv
      rw [show ns.length - (k + 2) + 2 = ns.length - k by omega, ih, show ns.length - (k + 2) + 1 = ns.length - (k + 1) by omega] at this
      have := this.symm
      rw [Bool.and_eq_true] at this
      exact this.1
    · rw [show ns.length - (k + 1) = 0 by omega, List.take_zero]; rfl
theorem chain_pre {l : List Arc} {ns : List Int} (h : chainB l ns = true) (i : Nat) : chainB l (ns.take i) = true := by
  by_cases hi : i ≤ ns.length
  · have := chain_take h (ns.length - i)
    rwa [show ns.length - (ns.length - i) = i by omega] at this
  · rw [List.take_of_length_le (by omega)]; exact h
theorem chain_bad {l : List Arc} {ns : List Int} {i : Nat} {u v : Int} (hu : ns[i]? = some u) (hv : ns[i + 1]? = some v) (h : (l.any fun x => x.f == u && x.t == v) = false) : chainB l ns = false := by
  cases hc : chainB l ns with
  | false => rfl
  | true =>
    have h1 := chain_pre hc (i + 2)
    rw [chain_step hu hv, h, Bool.and_false] at h1
    cases h1
theorem find_any {l : List Arc} {u v : Int} {x : Arc} (h : l.find? (fun x => x.f == u && x.t == v) = some x) : x ∈ l ∧ cst l u v = x.c := by
  refine ⟨List.mem_of_find?_eq_some h, ?_⟩
  unfold cst
  rw [h]
  rfl
/- kpath.Paths -/
def kp_Paths_r7_T : Bool × List (List Nat × List Nat) := (true, [([], []), ([0], [0]), ([1], [1]), ([2], [2]), ([], []), ([4], [4]), ([5], [5]), ([6], [6]), ([7], [7]), ([], []), ([8, 9], [8, 9]), ([3, 10], [3, 10]), ([11, 0, 1, 2, 3, 4, 5, 6, 7, 8, 9, 10, 11], [11])])
def kp_Paths_r7_B : List Nat := [0, 1, 3, 7, 0, 16, 48, 112, 240, 0, 1008, 2047, 4095]
theorem kp_Paths_r7_t : Go.Proofs.YtmcannmjielalaaW.PrintLast.rtab .any (Go.Proofs.YtmcannmjielalaaW.PrintLast.opsOf Try.f83 7) = kp_Paths_r7_T := by kernel_rfl
theorem kp_Paths_r7_b : Go.Proofs.YtmcannmjielalaaW.PrintLast.waitsOk kp_Paths_r7_T.2 kp_Paths_r7_B = true := by kernel_rfl
set_option maxRecDepth 100000 in
set_option maxHeartbeats 4000000 in
theorem kp_Paths {l : List Arc} {a b m : Int} (hll : l.length ≤ 1000000) : Triple Try.prog 83 [.sl 3 (l.map arcC), .int a, .int b, .int m] [] (Is (.sl 2 ((pathsM l a b m).map pthC)) []) := by
  have hnv := nodesV_len l
  refine triple_of Try.func83 rfl (by kernel_rfl) rfl (by simp) ?_
  refine aSeq ?_
  refine aReg ?_
  refine sp pMa ?_
  refine oNil ?_
  refine aSeq ?_
  refine aReg ?_
  refine sp pM ?_
  refine sq ?_
  refine ci rfl rfl rfl (kp_Nodes (l := l) hll) ?_
  refine sp pMa ?_
  refine oNil ?_
  refine aSeq ?_
  refine aSeq ?_
  refine aReg ?_
  refine sp pM ?_
  refine sp pM ?_
  refine sp pB ?_
  refine sp pM ?_
  refine oSplitEq 16 rfl (fun c16 => ?_) (fun c16 => ?_)
  · skip
    refine gf ?_
    refine gf ?_
    refine sp pK ?_
    refine sp pM ?_
    refine gf ?_
    refine gf ?_
    refine gf ?_
    refine sp pK ?_
    refine sp pM ?_
    refine gf ?_
    refine gf ?_
    refine gf ?_
    refine gf ?_
    refine sp pK ?_
    refine sp pM ?_
    refine gf ?_
    refine gf ?_
    refine gf ?_
    refine gf ?_
    refine sp pK ?_
    refine oNil ?_
    refine aCondT rfl ?_
    refine aSeq ?_
    have hno : goodK l a b m = false := by
      cases h : goodK l a b m with
      | false => rfl
      | true =>
        exfalso
        unfold goodK at h
        simp only [Bool.and_eq_true, bne_iff_ne, decide_eq_true_eq] at h
        first
          | omega
          | (simp_all; done)
    refine aWeak (weak_nil 125 2) ?_
    refine aReg ?_
    refine sp pMa ?_
    refine oNil ?_
    refine aWeak (weak_settle (k := 8) rfl .hd rfl) ?_
    refine aRet ?_
    refine finIs rfl ?_
    unfold pathsM
    rw [hno]
    rfl
  · skip
    refine gp pM ?_
    refine gp pB ?_
    refine sp pK ?_
    refine sp pM ?_
    refine oSplitDec 20 rfl (fun c20 => ?_) (fun c20 => ?_)
    · skip
      refine gf ?_
      refine gf ?_
      refine gf ?_
      refine sp pK ?_
      refine sp pM ?_
      refine gf ?_
      refine gf ?_
      refine gf ?_
      refine gf ?_
      refine sp pK ?_
      refine sp pM ?_
      refine gf ?_
      refine gf ?_
      refine gf ?_
      refine gf ?_
      refine sp pK ?_
      refine oNil ?_
      refine aCondT rfl ?_
      refine aSeq ?_
      have hno : goodK l a b m = false := by
        cases h : goodK l a b m with
        | false => rfl
        | true =>
          exfalso
          unfold goodK at h
          simp only [Bool.and_eq_true, bne_iff_ne, decide_eq_true_eq] at h
          first
            | omega
            | (simp_all; done)
      refine aWeak (weak_nil 125 2) ?_
      refine aReg ?_
      refine sp pMa ?_
      refine oNil ?_
      refine aWeak (weak_settle (k := 8) rfl .hd rfl) ?_
      refine aRet ?_
      refine finIs rfl ?_
      unfold pathsM
      rw [hno]
      rfl
    · skip
      refine gp pM ?_
      refine gp (by first | exact pLm sl_25 | exact pLs sl_25 | exact pLv sl_25) ?_
      refine gp pB ?_
      refine sp pK ?_
      refine sp pM ?_
      refine oSplitDec 25 rfl (fun c25 => ?_) (fun c25 => ?_)
      · skip
        refine gf ?_
        refine gf ?_
        refine gf ?_
        refine gf ?_
        refine sp pK ?_
        refine sp pM ?_
        refine gf ?_
        refine gf ?_
        refine gf ?_
        refine gf ?_
        refine sp pK ?_
        refine oNil ?_
        refine aCondT rfl ?_
        refine aSeq ?_
        have hno : goodK l a b m = false := by
          cases h : goodK l a b m with
          | false => rfl
          | true =>
            exfalso
            unfold goodK at h
            simp only [Bool.and_eq_true, bne_iff_ne, decide_eq_true_eq] at h
            first
              | omega
              | (simp_all; done)
        refine aWeak (weak_nil 125 2) ?_
        refine aReg ?_
        refine sp pMa ?_
        refine oNil ?_
        refine aWeak (weak_settle (k := 8) rfl .hd rfl) ?_
        refine aRet ?_
        refine finIs rfl ?_
        unfold pathsM
        rw [hno]
        rfl
      · skip
        refine gp pM ?_
        refine gp pM ?_
        refine ga ?_
        refine (cv rfl rfl rfl (lents_refl _) (contains_int (l := nodesV l) (n := a) (by omega)) ?_).op
        refine gp pNo ?_
        refine sp pK ?_
        refine sp pM ?_
        refine oSplitNot 31 rfl (fun c31 => ?_) (fun c31 => ?_)
        · skip
          refine gf ?_
          refine gf ?_
          refine gf ?_
          refine gf ?_
          refine sp pK ?_
          refine oNil ?_
          refine aCondT rfl ?_
          refine aSeq ?_
          have hno : goodK l a b m = false := by
            cases h : goodK l a b m with
            | false => rfl
            | true =>
              exfalso
              unfold goodK at h
              simp only [Bool.and_eq_true, bne_iff_ne, decide_eq_true_eq] at h
              first
                | omega
                | (simp_all; done)
          refine aWeak (weak_nil 125 2) ?_
          refine aReg ?_
          refine sp pMa ?_
          refine oNil ?_
          refine aWeak (weak_settle (k := 8) rfl .hd rfl) ?_
          refine aRet ?_
          refine finIs rfl ?_
          unfold pathsM
          rw [hno]
          rfl
        · skip
          refine gp pM ?_
          refine gp pM ?_
          refine ga ?_
          refine (cv rfl rfl rfl (lents_refl _) (contains_int (l := nodesV l) (n := b) (by omega)) ?_).op
          refine gp pNo ?_
          refine sp pK ?_
          refine oNil ?_
          refine aCondNot rfl (fun c36 => ?_) (fun c36 => ?_)
          · skip
            refine aSeq ?_
            have hno : goodK l a b m = false := by
              cases h : goodK l a b m with
              | false => rfl
              | true =>
                exfalso
                unfold goodK at h
                simp only [Bool.and_eq_true, bne_iff_ne, decide_eq_true_eq] at h
                first
                  | omega
                  | (simp_all; done)
            refine aWeak (weak_nil 125 2) ?_
            refine aReg ?_
            refine sp pMa ?_
            refine oNil ?_
            refine aWeak (weak_settle (k := 8) rfl .hd rfl) ?_
            refine aRet ?_
            refine finIs rfl ?_
            unfold pathsM
            rw [hno]
            rfl
          · skip
            refine aSkip ?_
            refine aSeq ?_
            have hyes : goodK l a b m = true := by
              unfold goodK
              simp only [Bool.and_eq_true, bne_iff_ne, decide_eq_true_eq]
              refine ⟨⟨⟨by omega, by omega⟩, by omega⟩, ?_, ?_⟩ <;> simp_all
            have hgs := good_spec hyes
            have hwl := wkN_len hgs.2.2.1 hgs.2.2.2.1 b 9 [a] (one_ok hgs.2.2.2.2.1)
            rw [show facN (8 - [a].length) = 5040 from rfl] at hwl
            refine aReg ?_
            refine sp pM ?_
            refine sp pM ?_
            refine sp (pBuild rfl st_202 ze_202 rfl rfl rfl rfl) ?_
            refine sq ?_
            refine qBox rfl rfl (by decide) rfl rfl (fun b40 => ?_)
            refine sp pMa ?_
            refine oNil ?_
            refine aSeq ?_
            refine aWeak (weak_nil 125 2) ?_
            refine aReg ?_
            refine sp pM ?_
            refine sp pM ?_
            refine sq ?_
            refine qLit (l := [_]) rfl rfl (by decide) us_25 ty_3 ze_3 rfl (by decide) (by decide) rfl rfl rfl (fun b43 => ?_)
            refine oWeak (weak_settle (k := 43) rfl (by repeat constructor) (by simp)) ?_
            refine sp (pBuild rfl st_125 ze_125 rfl rfl rfl rfl) ?_
            refine sa ?_
            refine ca rfl rfl rfl (kp_from (td := b) b40 hgs.2.2.1 hll hgs.2.2.2.1 9 [a] none 0 [] (one_ok hgs.2.2.2.2.1) (by simp) (by show 0 + facN 7 ≤ 1000000; decide)) ?_
            rintro _ _ ⟨g2, c2, rfl, rfl⟩
            refine oNil ?_
            refine aSeq ?_
            rw [List.nil_append]
            obtain ⟨W, hW⟩ : ∃ W, W = (wkN l b 9 [a]).map (mkP l) := ⟨_, rfl⟩
            rw [← hW]
            have hWn : ∀ x ∈ W, x.ns.length ≤ 64 := fun x hx => by
              rw [hW] at hx
              obtain ⟨p, hp, rfl⟩ := List.mem_map.1 hx
              have := (wkN_ok (arcs_ok hgs.2.2.1) 9 [a] (one_ok hgs.2.2.2.2.1) p hp).len hgs.2.2.2.1
              show p.length ≤ 64
              omega
            refine aReg ?_
            refine sp pM ?_
            refine sp pNv ?_
            refine sp (pFb fd_202_2) ?_
            refine sr (rB1 ty_99) ?_
            refine sa ?_
            refine ca rfl rfl rfl (sort_pth g2 c2 W (by rw [hW, List.length_map]; omega) hWn) ?_
            rintro _ _ ⟨ts, hperm, hsort, rfl, rfl⟩
            refine oNil ?_
            refine aSeq ?_
            have hts := srtW_is (hperm.trans (List.Perm.of_eq hW)) hsort
            rw [← hperm.length_eq]
            refine aWeak (weak_deep (k := 10) (b := .sp [.sl 3 (l.map arcC), .int b, .sl 2 (ts.map pthC)]) rfl (.cons .hd (.cons .hd .nil)) (.sp (by repeat (first | exact List.mem_cons_self | apply List.mem_cons_of_mem)) (.same (.same (.sl (by repeat (first | exact List.mem_cons_self | apply List.mem_cons_of_mem)) (by rw [List.length_map]) Deep.refl (.row .nil)))) (.row .nil))) ?_
            refine aDrawT kp_Paths_r7_t kp_Paths_r7_b [] 13 #[false, false, false, false, false, false, false, false, false, false, false, false, false] (by kernel_rfl) rfl rfl (fun HT => ?_)
            refine dp HT 0 rfl pM ?_
            refine dp HT 1 rfl pNs ?_
            refine dp HT 2 rfl (pFs fd_202_2) ?_
            refine dr HT 3 rfl (rS1 ty_99) ?_
            refine dp HT 4 rfl pM ?_
            refine dp HT 5 rfl pNs ?_
            refine dp HT 6 rfl (pFs fd_202_2) ?_
            refine dr HT 7 rfl (rS1 ty_99) ?_
            refine dp HT 8 rfl (pLm (f := pthC) (l := ts) sl_99) ?_
            refine dp HT 9 rfl pM ?_
            refine dp HT 10 rfl pMin3 ?_
            rw [show min (min (ts.length : Int) m) 20 = ((min ts.length (min m.toNat 20) : Nat) : Int) by omega]
            refine dp HT 11 rfl (pSlice (es := ts.map pthC) rfl rfl es_99 (bdN rfl) (bdI rfl) (by omega) (by simp only [List.length_map]; omega)) ?_
            refine dp HT 12 rfl pMa ?_
            refine dE HT ?_
            clear HT
            refine aRet ?_
            refine finIs rfl ?_
            show AV.sl 2 _ = AV.sl 2 _
            unfold pathsM allP
            rw [if_pos hyes, ← hts, List.drop_zero, List.map_take]
            congr 2
/- kpath.Cost$1 -/
def kp_Cost1_r1_T : Bool × List (List Nat × List Nat) := (true, [([], []), ([0], [0]), ([], []), ([], []), ([2, 3], [2, 3]), ([4], [4]), ([1, 5], [1, 5]), ([6], [6]), ([7], [7]), ([8, 7], [7, 8]), ([7], [7]), ([9, 10, 7], [7, 9, 10]), ([7, 11], [7, 11]), ([12, 7, 0, 1, 2, 3, 4, 5, 6, 7, 8, 9, 10, 11, 12], [12])])
def kp_Cost1_r1_B : List Nat := [0, 1, 0, 0, 12, 28, 63, 127, 255, 511, 255, 2047, 4095, 8191]
theorem kp_Cost1_r1_t : Go.Proofs.YtmcannmjielalaaW.PrintLast.rtab .any (Go.Proofs.YtmcannmjielalaaW.PrintLast.opsOf Try.f197 1) = kp_Cost1_r1_T := by kernel_rfl
theorem kp_Cost1_r1_b : Go.Proofs.YtmcannmjielalaaW.PrintLast.waitsOk kp_Cost1_r1_T.2 kp_Cost1_r1_B = true := by kernel_rfl
set_option maxRecDepth 100000 in
set_option maxHeartbeats 400000 in
theorem kp_Cost1 {x : Arc} {ns : List Int} {i : Nat} {u n : Int} (hu : ns[i]? = some u) : Triple Try.prog 197 [.agg (arcC x), .sp [.sl 1 (ns.map intA)], .sp [.int i], .sp [.int n]] [] (Is (.v (.bool (x.f == u && x.t == n))) []) := by
  have hu2 : ns[((i : Nat) : Int).toNat]? = some u := by simpa using hu
  have hul := (List.getElem?_eq_some_iff.1 hu).1
  refine triple_of Try.func197 rfl (by kernel_rfl) rfl (by simp) ?_
  refine aSeq ?_
  refine aReg ?_
  refine sq ?_
  refine qBox rfl rfl (by decide) rfl rfl (fun b4 => ?_)
  refine sp pMa ?_
  refine oNil ?_
  refine aSeq ?_
  refine aDrawT kp_Cost1_r1_t kp_Cost1_r1_b [] 14 #[false, false, false, false, false, false, false, false, false, false, false, false, false, false] (by kernel_rfl) rfl rfl (fun HT => ?_)
  refine dp HT 0 rfl (pFb fd_36_0) ?_
  refine dr HT 1 rfl (rB1 ty_3) ?_
  refine dr HT 2 rfl (rS1 ty_25) ?_
  refine dr HT 3 rfl (rS1 ty_3) ?_
  first | refine dp HT 4 rfl (pIx es_25) ?_ | (refine obtDN 8 9 rfl rfl (by omega) (fun x10 hx10 => ?_); refine dp HT 4 rfl (pIs es_25 hx10) ?_) | (refine obtD 8 9 rfl rfl (by omega) (by omega) (fun x10 hx10 => ?_); refine dp HT 4 rfl (pIs es_25 hx10) ?_) | refine dp HT 4 rfl (pIo es_25) ?_
  refine dr HT 5 rfl (by first | exact rS1 ty_3 | exact rB1 ty_3 | exact rAr ty_3 | exact rArL ty_3 | exact rArR2 ty_3) ?_
  refine dp HT 6 rfl pB ?_
  refine dp HT 7 rfl pM ?_
  refine dSplitEq 13 rfl (fun c13 => ?_) (fun c13 => ?_)
  · skip
    refine dpG HT 8 rfl (pFb fd_36_1) ?_
    refine drG HT 9 rfl (rB1 ty_3) ?_
    refine drG HT 10 rfl (rS1 ty_3) ?_
    refine dpG HT 11 rfl pB ?_
    refine dp HT 12 rfl pK ?_
    refine dp HT 13 rfl pMa ?_
    refine dE HT ?_
    clear HT
    refine aRet ?_
    refine finIs rfl ?_
    simp_all [retOf]
  · skip
    refine dS HT 8 rfl ?_
    refine dS HT 9 rfl ?_
    refine dS HT 10 rfl ?_
    refine dS HT 11 rfl ?_
    refine dp HT 12 rfl pK ?_
    refine dp HT 13 rfl pMa ?_
    refine dE HT ?_
    clear HT
    refine aRet ?_
    refine finIs rfl ?_
    simp_all [retOf]
/- kpath.Cost -/
def kp_Cost_r1_T : Bool × List (List Nat × List Nat) := (true, [([], []), ([0], [0]), ([1], [1]), ([2], [2]), ([3], [3]), ([4, 3, 3], [3, 4]), ([3], [3]), ([6, 3], [3, 6]), ([7, 3], [3, 7]), ([5, 8, 5, 3], [3, 5, 8]), ([9, 3], [3, 9]), ([3, 10], [3, 10])])
def kp_Cost_r1_B : List Nat := [0, 1, 3, 7, 15, 31, 15, 79, 207, 511, 1023, 2047]
theorem kp_Cost_r1_t : Go.Proofs.YtmcannmjielalaaW.PrintLast.rtab .any (Go.Proofs.YtmcannmjielalaaW.PrintLast.opsOf Try.f106 1) = kp_Cost_r1_T := by kernel_rfl
theorem kp_Cost_r1_b : Go.Proofs.YtmcannmjielalaaW.PrintLast.waitsOk kp_Cost_r1_T.2 kp_Cost_r1_B = true := by kernel_rfl
set_option maxRecDepth 100000 in
set_option maxHeartbeats 4000000 in
theorem kp_Cost {l : List Arc} {ns : List Int} (hok : arcsB none l = true) (hll : l.length ≤ 1000000) (hne : ns ≠ []) (hnl : ns.length ≤ 64) (h0 : ∃ v, ns[0]? = some v ∧ (nodesV l).contains v = true) (hch : chainB l ns = true) : Triple Try.prog 106 [.sl 3 (l.map arcC), .sl 1 (ns.map intA)] [] (Is (.tup [.v (.int .u64 (pcost l ns)), .v (.bool true)]) []) := by
  have hnv := nodesV_len l
  have hn0 := List.length_pos_iff.2 hne
  obtain ⟨v0, hv0, hvc⟩ := h0
  have hv02 : ns[(0 : Int).toNat]? = some v0 := hv0
  have hl := arcs_ok hok
  refine triple_of Try.func106 rfl (by kernel_rfl) rfl (by simp) ?_
  refine aSeq ?_
  refine aReg ?_
  refine sq ?_
  refine qBox rfl rfl (by decide) rfl rfl (fun b3 => ?_)
  refine sp pMa ?_
  refine sp pMa ?_
  refine oNil ?_
  refine aSeq ?_
  refine aSeq ?_
  refine aDrawT kp_Cost_r1_t kp_Cost_r1_b [] 12 #[false, false, false, false, false, false, false, false, false, false, false, false] (by kernel_rfl) rfl rfl (fun HT => ?_)
  refine dr HT 0 rfl (rB1 ty_25) ?_
  refine dp HT 1 rfl (by first | exact pLm sl_25 | exact pLs sl_25 | exact pLv sl_25) ?_
  refine dp HT 2 rfl pB ?_
  refine dp HT 3 rfl pM ?_
  refine dSplitEq 13 rfl (fun c13 => ?_) (fun c13 => ?_)
  · skip
    refine dS HT 4 rfl ?_
    refine dS HT 5 rfl ?_
    refine dS HT 6 rfl ?_
    refine dS HT 7 rfl ?_
    refine dS HT 8 rfl ?_
    refine dGo ?_
    refine eS HT 9 rfl ?_
    refine eS HT 10 rfl ?_
    refine ef HT 11 rfl pK ?_
    refine eE HT ?_
    clear HT
    refine aCondT rfl ?_
    refine aSeq ?_
    refine aReg ?_
    refine sp pMa ?_
    refine sp pMa ?_
    refine oNil ?_
    refine aRet ?_
    exfalso
    simp_all
  · skip
    refine dpG HT 4 rfl pM ?_
    refine drG HT 6 rfl (rB1 ty_25) ?_
    first | refine dpG HT 7 rfl (pIx es_25) ?_ | refine dpG HT 7 rfl (pIo es_25) ?_
    refine drG HT 8 rfl (by first | exact rS1 ty_3 | exact rB1 ty_3 | exact rAr ty_3 | exact rArL ty_3 | exact rArR2 ty_3) ?_
    refine dGo ?_
    refine e1G HT 5 rfl ?_
    refine ci rfl rfl rfl (kp_Nodes (l := l) hll) ?_
    refine e1G HT 9 rfl ?_
    refine cv rfl rfl rfl (lents_refl _) (contains_int (l := nodesV l) (n := v0) (by omega)) ?_
    refine efG HT 10 rfl pNo ?_
    refine ef HT 11 rfl pK ?_
    refine eE HT ?_
    clear HT
    refine aCondNot rfl (fun c21 => ?_) (fun c21 => ?_)
    · skip
      refine aSeq ?_
      refine aReg ?_
      refine sp pMa ?_
      refine sp pMa ?_
      refine oNil ?_
      refine aRet ?_
      exfalso
      simp_all
    · skip
      refine aSkip ?_
      refine aSeq ?_
      refine aReg ?_
      refine sp pMa ?_
      refine oNil ?_
      refine aSeq ?_
      refine aSeq ?_
      refine aReg ?_
      refine sr (rB1 ty_25) ?_
      refine sp (pSlice rfl rfl es_25 (bdI rfl) (bdN rfl) (by first | omega | (simp only [List.length_map]; omega)) (by first | omega | (simp only [List.length_map]; omega))) ?_
      rw [show List.take ((List.map intA ns).length - 1) (List.drop 1 (List.map intA ns)) = (ns.drop 1).map intA by rw [List.length_map, List.take_of_length_le (by simp), List.map_drop]]
      have hdl : (ns.drop 1).length = ns.length - 1 := List.length_drop
      refine sp (by first | exact pLm sl_25 | exact pLs sl_25 | exact pLv sl_25) ?_
      refine sp pM ?_
      refine oNil ?_
      refine aBlock ?_
      refine loopF (α := Nat × Int) (kept := [(0, _), (3, _), (23, _), (24, _)]) (fun (i, s) => i + 1 ≤ ns.length ∧ s = pcost l (ns.take (i + 1))) (fun (i, s) => [(25, .int i), (6, .v (.int .u64 s))]) (fun (i, s) => []) (fun (i, s) => ns.length - i) (0, 0) ?_ ⟨gInt rfl (by first | rfl | omega | simp), rfl, rfl, rfl, rfl, rfl, trivial⟩ (by repeat constructor) ?_
      · skip
        exact ⟨by omega, by rw [take_step hv0]; rfl⟩
      · rintro ⟨i, s⟩ ⟨hi, hs⟩
        refine aSeq ?_
        refine aReg ?_
        refine sp pB ?_
        refine oNil ?_
        refine aSeq ?_
        refine aCondDec rfl (fun c26 => ?_) (fun c26 => ?_)
        · skip
          refine aSkip ?_
          refine aSeq ?_
          refine aBlock ?_
          refine aSeq ?_
          obtain ⟨u, hu⟩ : ∃ z, ns[i]? = some z := ⟨_, List.getElem?_eq_getElem (by omega)⟩
          obtain ⟨v, hv⟩ : ∃ z, ns[(i + 1)]? = some z := ⟨_, List.getElem?_eq_getElem (by omega)⟩
          have hv2 : (ns.drop 1)[i]? = some v := by rw [List.getElem?_drop, Nat.add_comm]; exact hv
          have hany := chain_pre hch (i + 2)
          rw [chain_step hu hv, Bool.and_eq_true] at hany
          refine aReg ?_
          refine sp pM ?_
          first | refine sp (pIx es_25) ?_ | (refine obtSN 23 25 rfl rfl (by omega) (fun x28 hx28 => ?_); refine sp (pIs es_25 hx28) ?_) | (refine obtS 23 25 rfl rfl (by omega) (by omega) (fun x28 hx28 => ?_); refine sp (pIs es_25 hx28) ?_) | refine sp (pIo es_25) ?_
          refine sr (by first | exact rS1 ty_3 | exact rB1 ty_3 | exact rAr ty_3 | exact rArL ty_3 | exact rArR2 ty_3) ?_
          refine sq ?_
          refine qAlloc rfl rfl (by decide) ze_3 rfl (fun b7 => ?_)
          refine sq ?_
          refine qAlloc rfl rfl (by decide) ze_3 rfl (fun b8 => ?_)
          refine sa ?_
          refine oStB rfl rfl rfl rfl (by repeat constructor) ty_3 rfl (Nat.le_of_ble_eq_true rfl) rfl ?_
          refine sa ?_
          refine oStB rfl rfl rfl rfl (by repeat constructor) ty_3 rfl (Nat.le_of_ble_eq_true rfl) rfl ?_
          refine oNil ?_
          refine aSeq ?_
          refine aReg ?_
          refine sp pM ?_
          refine sp (pFn rfl rfl) ?_
          refine sq ?_
          refine cv rfl rfl rfl (.cons (.same _) (.cons (lent_fn3 (.sp (by repeat (first | exact List.mem_cons_self | apply List.mem_cons_of_mem))) (.sp (by repeat (first | exact List.mem_cons_self | apply List.mem_cons_of_mem))) (.sp (by repeat (first | exact List.mem_cons_self | apply List.mem_cons_of_mem)))) .nil)) (index_Arc (p := fun x => x.f == u && x.t == v) (fun x => kp_Cost1 (ns := ns) (i := i) hu) l hll) ?_
          refine sp pMa ?_
          refine oNil ?_
          refine aSeq ?_
          refine aSeq ?_
          refine aReg ?_
          refine sp pM ?_
          refine sp pB ?_
          refine oNil ?_
          refine aCondDec rfl (fun c34 => ?_) (fun c34 => ?_)
          · skip
            refine aSeq ?_
            refine aReg ?_
            refine sp pMa ?_
            refine sp pMa ?_
            refine oNil ?_
            refine aRet ?_
            exfalso
            rcases idxF_cases (fun x : Arc => x.f == u && x.t == v) l with ⟨_, h2⟩ | ⟨j, y, h1, _⟩
            · obtain ⟨y, hy, hp⟩ := List.any_eq_true.1 hany.2
              exact absurd hp (by simpa using List.find?_eq_none.1 h2 y hy)
            · omega
          · skip
            refine aSkip ?_
            obtain ⟨j, y, h1, h2, h3⟩ : ∃ j y, idxF (fun x : Arc => x.f == u && x.t == v) l = (j : Nat) ∧ l[j]? = some y ∧ l.find? (fun x : Arc => x.f == u && x.t == v) = some y := by
              rcases idxF_cases (fun x : Arc => x.f == u && x.t == v) l with ⟨h1, h2⟩ | h
              · omega
              · exact h
            rw [h1] at *
            have hfa := find_any h3
            have hyk := hl y hfa.1
            unfold AOk at hyk
            have hcs := cost_step (l := l) hu hv
            have hpr := pcost_rng hl (ns.take (i + 1))
            have htl : (ns.take (i + 1)).length ≤ 64 := by rw [List.length_take]; omega
            refine aReg ?_
            refine sp pM ?_
            refine sp pM ?_
            refine sp pM ?_
            first | refine sp (pIx es_22) ?_ | (refine obtSN 36 37 rfl rfl (by omega) (fun x38 hx38 => ?_); refine sp (pIs es_22 hx38) ?_) | (refine obtS 36 37 rfl rfl (by omega) (by omega) (fun x38 hx38 => ?_); refine sp (pIs es_22 hx38) ?_) | refine sp (pIo es_22) ?_
            refine sp (pFs fd_36_2) ?_
            refine sr (rS1 ty_3) ?_
            refine sp (by first | exact pCvK ik_3 ik_37 | exact pConv rfl rfl ik_3 ik_37 rfl) ?_
            refine sq ?_
            refine cv rfl rfl rfl (lents_refl _) (cost_Add (by omega) (by omega) (by omega) (by omega)) ?_
            rw [if_neg (by omega)]
            refine sp pMa ?_
            refine oNil ?_
            refine aReg ?_
            refine sp pAd ?_
            refine sp pM ?_
            refine oNil ?_
            refine ⟨(i + 1, _), ?_, by (try dsimp only); omega, ⟨gInt rfl (by first | rfl | omega | simp), rfl, rfl, rfl, rfl, rfl, trivial⟩, _, (by repeat constructor)⟩
            refine ⟨by omega, ?_⟩
            rw [hcs, hfa.2, hs]
        · skip
          refine aExit rfl ?_
          refine aSeq ?_
          refine aReg ?_
          refine sp pM ?_
          refine sp pMa ?_
          refine sp pMa ?_
          refine oNil ?_
          refine aRet ?_
          refine finIs rfl ?_
          rw [take_all (by omega)] at hs
          rw [hs]
          rfl
end A
end Go.Proofs.Ytmcannmjielalaa
set_option linter.unusedVariables false
set_option linter.unusedSimpArgs false
namespace Go.Proofs.Ytmcannmjielalaa
namespace A
theorem tw_split {α : Type} {p : α → Bool} : ∀ {l : List α} {k : Nat}, (∀ x ∈ l.take k, p x = true) → k ≤ l.length → (∀ x, l[k]? = some x → p x = false) → l.takeWhile p = l.take k ∧ l.dropWhile p = l.drop k
  | l, 0, _, _, h => by
    cases l with
    | nil => simp
    | cons x l => have := h x rfl; simp [this]
  | [], k + 1, _, h, _ => by simp at h
  | x :: l, k + 1, h1, h2, h3 => by
    have hx : p x = true := h1 x (by simp)
    have := tw_split (l := l) (k := k) (fun y hy => h1 y (by simp [hy])) (by simpa using h2) (fun y hy => h3 y (by simpa using hy))
    simp [hx, this.1, this.2]
theorem cst_take {l : List Arc} (h : l.Pairwise ltA) {k : Nat} {x : Arc} (hx : l[k]? = some x) (u v : Int) : cst (l.take (k + 1)) u v = if x.f = u ∧ x.t = v then x.c else cst (l.take k) u v := by
  have hs : (l.take (k + 1)).Pairwise ltA := h.sublist (List.take_sublist _ _)
  split
  · rename_i e
    rw [← e.1, ← e.2]
    exact cst_arc hs (by rw [take_step hx]; simp)
  · rename_i e
    unfold cst
    rw [take_step hx, List.find?_append]
    have : ([x].find? fun x => x.f == u && x.t == v) = none := by
      rw [List.find?_eq_none]
      intro y hy
      rw [List.mem_singleton.1 hy]
      simpa using e
    rw [this]
    simp
theorem cst_zero {l : List Arc} (hl : ∀ a ∈ l, AOk a) {u v : Int} : (cst l u v = 0) ↔ (l.any fun x => x.f == u && x.t == v) = false := by
  unfold cst
  cases hf : l.find? (fun x => x.f == u && x.t == v) with
  | none =>
    simp only [Option.map_none, Option.getD_none, true_iff]
    rw [List.any_eq_false]
    intro x hx
    exact List.find?_eq_none.1 hf x hx
  | some x =>
    have hm := List.mem_of_find?_eq_some hf
    have := hl x hm
    unfold AOk at this
    simp only [Option.map_some, Option.getD_some]
    constructor
    · intro e; omega
    · intro e
      rw [List.any_eq_false] at e
      exact absurd (List.find?_some hf) (e x hm)
def costR (l : List Arc) (ns : List Int) : Int := if chainB l ns then pcost l ns else 0
/- waymarkref48.Cost -/
def ref48_Cost_r9_T : Bool × List (List Nat × List Nat) := (true, [([], []), ([], []), ([0, 1], [0, 1]), ([2], [2]), ([3], [3]), ([], []), ([], []), ([5, 6], [5, 6]), ([7], [7]), ([4, 8], [4, 8]), ([9], [9]), ([10], [10]), ([10], [10]), ([11, 12, 10], [10, 11, 12]), ([13, 10], [10, 13]), ([14, 10], [10, 14]), ([10], [10]), ([10], [10]), ([17, 10], [10, 17]), ([16, 18, 10], [10, 16, 18]), ([19, 10], [10, 19]), ([15, 20, 10], [10, 15, 20]), ([10, 21], [10, 21])])
def ref48_Cost_r9_B : List Nat := [0, 0, 3, 7, 15, 0, 0, 96, 224, 511, 1023, 2047, 2047, 8191, 16383, 32767, 2047, 2047, 133119, 460799, 985087, 2097151, 4194303]
theorem ref48_Cost_r9_t : Go.Proofs.YtmcannmjielalaaW.PrintLast.rtab .any (Go.Proofs.YtmcannmjielalaaW.PrintLast.opsOf Try.f167 9) = ref48_Cost_r9_T := by kernel_rfl
theorem ref48_Cost_r9_b : Go.Proofs.YtmcannmjielalaaW.PrintLast.waitsOk ref48_Cost_r9_T.2 ref48_Cost_r9_B = true := by kernel_rfl
set_option maxRecDepth 100000 in
set_option maxHeartbeats 2000000 in
theorem ref48_Cost {l : List Arc} {ns : List Int} (hok : arcsB none l = true) (hll : l.length ≤ 1000000) (hnl : ns.length ≤ 64) : Triple Try.prog 167 [.sl 3 (l.map arcC), .sl 1 (ns.map intA)] [] (Is (.tup [.v (.int .u64 (costR l ns)), .v (.bool (chainB l ns))]) []) := by
  have hl := arcs_ok hok
  have hs := arcsB_sorted hok
  refine triple_of Try.func167 rfl (by kernel_rfl) rfl (by simp) ?_
  refine aSeq ?_
  refine aReg ?_
  refine sp pMa ?_
  refine sp pMa ?_
  refine oNil ?_
  refine aSeq ?_
  refine aReg ?_
  refine sp pMa ?_
  refine oNil ?_
  refine aSeq ?_
  refine aSeq ?_
  refine aReg ?_
  refine sp pMa ?_
  refine oNil ?_
  refine aBlock ?_
  refine loopF (α := Nat × Int) (kept := [(0, _), (1, _)]) (fun (i, n) => i ≤ ns.length ∧ chainB l (ns.take (i + 1)) = true ∧ n = pcost l (ns.take (i + 1))) (fun (i, n) => [(7, .int i), (6, .v (.int .u64 n))]) (fun (i, n) => []) (fun (i, n) => ns.length - i) (0, 0) ?_ ⟨gInt rfl (by first | rfl | omega | simp), rfl, rfl, rfl, trivial⟩ (by repeat constructor) ?_
  · skip
    refine ⟨by omega, ?_, ?_⟩ <;> cases ns <;> rfl
  · rintro ⟨i, n⟩ ⟨hi, hch, hn⟩
    refine aSeq ?_
    refine aSeq ?_
    refine aReg ?_
    refine sp pM ?_
    refine sp pAd ?_
    refine sp pM ?_
    refine sp (by first | exact pLm sl_25 | exact pLs sl_25) ?_
    refine sp pB ?_
    refine oNil ?_
    refine aCondDec rfl (fun c14 => ?_) (fun c14 => ?_)
    · skip
      refine aSkip ?_
      refine aSeq ?_
      refine aBlock ?_
      refine aSeq ?_
      obtain ⟨u, hu⟩ : ∃ z, ns[i]? = some z := ⟨_, List.getElem?_eq_getElem (by omega)⟩
      obtain ⟨v, hv⟩ : ∃ z, ns[(i + 1)]? = some z := ⟨_, List.getElem?_eq_getElem (by omega)⟩
      have hu2 : ns[((i : Nat) : Int).toNat]? = some u := by simpa using hu
      have hv2 : ns[(((i : Nat) : Int) + 1).toNat]? = some v := by rw [show (((i : Nat) : Int) + 1).toNat = i + 1 by omega]; exact hv
      refine aReg ?_
      refine sp pMa ?_
      refine oNil ?_
      refine aSeq ?_
      refine aSeq ?_
      refine aReg ?_
      refine sp pMa ?_
      refine oNil ?_
      refine aBlock ?_
      refine loopF (α := Nat × Int) (kept := [(0, _), (1, _), (6, _), (7, _)]) (fun (k, c) => k ≤ l.length ∧ c = cst (l.take k) u v) (fun (k, c) => [(9, .int k), (8, .int c)]) (fun (k, c) => []) (fun (k, c) => l.length - k) (0, 0) ?_ ⟨gInt rfl (by first | rfl | omega | simp), gInt rfl (by first | rfl | omega | simp), rfl, rfl, rfl, rfl, trivial⟩ (by repeat constructor) ?_
      · skip
        exact ⟨by omega, rfl⟩
      · rintro ⟨k, c⟩ ⟨hk, hc⟩
        refine aSeq ?_
        refine aSeq ?_
        refine aReg ?_
        refine sp pM ?_
        refine sp pM ?_
        refine sp (by first | exact pLm sl_22 | exact pLs sl_22) ?_
        refine sp pB ?_
        refine oNil ?_
        refine aCondDec rfl (fun c20 => ?_) (fun c20 => ?_)
        · skip
          refine aSkip ?_
          refine aSeq ?_
          refine aBlock ?_
          refine aSeq ?_
          obtain ⟨x, hx⟩ : ∃ z, l[k]? = some z := ⟨_, List.getElem?_eq_getElem (by omega)⟩
          refine aDrawT ref48_Cost_r9_t ref48_Cost_r9_b [] 23 #[false, false, false, false, false, false, false, false, false, false, false, false, false, false, false, false, false, false, false, false, false, false, false] (by kernel_rfl) rfl rfl (fun HT => ?_)
          refine dp HT 0 rfl pM ?_
          refine dp HT 1 rfl pM ?_
          first | refine dp HT 2 rfl (pIx es_22) ?_ | (refine obtDN 23 24 rfl rfl (by omega) (fun x25 hx25 => ?_); refine dp HT 2 rfl (pIs es_22 hx25) ?_) | (refine obtD 23 24 rfl rfl (by omega) (by omega) (fun x25 hx25 => ?_); refine dp HT 2 rfl (pIs es_22 hx25) ?_) | refine dp HT 2 rfl (pIo es_22) ?_
          refine dp HT 3 rfl (pFs fd_36_0) ?_
          refine dr HT 4 rfl (rS1 ty_3) ?_
          refine dp HT 5 rfl pM ?_
          refine dp HT 6 rfl pM ?_
          first | refine dp HT 7 rfl (pIx es_25) ?_ | (refine obtDN 28 29 rfl rfl (by omega) (fun x30 hx30 => ?_); refine dp HT 7 rfl (pIs es_25 hx30) ?_) | (refine obtD 28 29 rfl rfl (by omega) (by omega) (fun x30 hx30 => ?_); refine dp HT 7 rfl (pIs es_25 hx30) ?_) | refine dp HT 7 rfl (pIo es_25) ?_
          refine dr HT 8 rfl (rS1 ty_3) ?_
          refine dp HT 9 rfl pB ?_
          refine dp HT 10 rfl pM ?_
          refine dSplitEq 33 rfl (fun c33 => ?_) (fun c33 => ?_)
          · skip
            refine dpG HT 11 rfl pM ?_
            refine dpG HT 12 rfl pM ?_
            first | refine dpG HT 13 rfl (pIx es_22) ?_ | (refine obtDN 34 35 rfl rfl (by omega) (fun x36 hx36 => ?_); refine dpG HT 13 rfl (pIs es_22 hx36) ?_) | (refine obtD 34 35 rfl rfl (by omega) (by omega) (fun x36 hx36 => ?_); refine dpG HT 13 rfl (pIs es_22 hx36) ?_) | refine dpG HT 13 rfl (pIo es_22) ?_
            refine dpG HT 14 rfl (pFs fd_36_1) ?_
            refine drG HT 15 rfl (rS1 ty_3) ?_
            refine dpG HT 16 rfl pM ?_
            refine dpG HT 17 rfl pM ?_
            refine dpG HT 18 rfl pAd ?_
            first | refine dpG HT 19 rfl (pIx es_25) ?_ | (refine obtDN 39 41 rfl rfl (by omega) (fun x42 hx42 => ?_); refine dpG HT 19 rfl (pIs es_25 hx42) ?_) | (refine obtD 39 41 rfl rfl (by omega) (by omega) (fun x42 hx42 => ?_); refine dpG HT 19 rfl (pIs es_25 hx42) ?_) | refine dpG HT 19 rfl (pIo es_25) ?_
            refine drG HT 20 rfl (rS1 ty_3) ?_
            refine dpG HT 21 rfl pB ?_
            refine dp HT 22 rfl pK ?_
            refine dE HT ?_
            clear HT
            refine aCondEq rfl (fun c45 => ?_) (fun c45 => ?_)
            · skip
              refine aReg ?_
              refine sp pM ?_
              refine sp pM ?_
              first | refine sp (pIx es_22) ?_ | (refine obtSN 46 47 rfl rfl (by omega) (fun x48 hx48 => ?_); refine sp (pIs es_22 hx48) ?_) | (refine obtS 46 47 rfl rfl (by omega) (by omega) (fun x48 hx48 => ?_); refine sp (pIs es_22 hx48) ?_) | refine sp (pIo es_22) ?_
              refine sp (pFs fd_36_2) ?_
              refine sr (rS1 ty_3) ?_
              refine sp pMa ?_
              refine oNil ?_
              refine aReg ?_
              refine sp pM ?_
              refine sp pAd ?_
              refine sp pMa ?_
              refine oNil ?_
              refine ⟨(k + 1, _), ?_, by (try dsimp only); omega, ⟨gInt rfl (by first | rfl | omega | simp), gInt rfl (by first | rfl | omega | simp), rfl, rfl, rfl, rfl, trivial⟩, _, (by repeat constructor)⟩
              refine ⟨by omega, ?_⟩
              rw [cst_take hs hx]
              first
                | (rw [if_pos (by first | assumption | simp_all)]; done)
                | (rw [if_neg (by first | assumption | (simp_all; done) | omega)]; exact hc)
            · skip
              refine aSkip ?_
              refine aReg ?_
              refine sp pM ?_
              refine sp pAd ?_
              refine sp pMa ?_
              refine oNil ?_
              refine ⟨(k + 1, _), ?_, by (try dsimp only); omega, ⟨gInt rfl (by first | rfl | omega | simp), gInt rfl (by first | rfl | omega | simp), rfl, rfl, rfl, rfl, trivial⟩, _, (by repeat constructor)⟩
              refine ⟨by omega, ?_⟩
              rw [cst_take hs hx]
              first
                | (rw [if_pos (by first | assumption | simp_all)]; done)
                | (rw [if_neg (by first | assumption | (simp_all; done) | omega)]; exact hc)
          · skip
            refine dS HT 11 rfl ?_
            refine dS HT 12 rfl ?_
            refine dS HT 13 rfl ?_
            refine dS HT 14 rfl ?_
            refine dS HT 15 rfl ?_
            refine dS HT 16 rfl ?_
            refine dS HT 17 rfl ?_
            refine dS HT 18 rfl ?_
            refine dS HT 19 rfl ?_
            refine dS HT 20 rfl ?_
            refine dS HT 21 rfl ?_
            refine dp HT 22 rfl pK ?_
            refine dE HT ?_
            clear HT
            refine aCondF rfl ?_
            refine aSkip ?_
            refine aReg ?_
            refine sp pM ?_
            refine sp pAd ?_
            refine sp pMa ?_
            refine oNil ?_
            refine ⟨(k + 1, _), ?_, by (try dsimp only); omega, ⟨gInt rfl (by first | rfl | omega | simp), gInt rfl (by first | rfl | omega | simp), rfl, rfl, rfl, rfl, trivial⟩, _, (by repeat constructor)⟩
            refine ⟨by omega, ?_⟩
            rw [cst_take hs hx]
            first
              | (rw [if_pos (by first | assumption | simp_all)]; done)
              | (rw [if_neg (by first | assumption | (simp_all; done) | omega)]; exact hc)
        · skip
          refine aExit rfl ?_
          refine aSeq ?_
          refine aSeq ?_
          rw [take_all (by omega)] at hc
          have hcr := cst_rng hl u v
          have hcz := cst_zero hl (u := u) (v := v)
          have hcs := cost_step (l := l) hu hv
          have hch2 := chain_step (l := l) hu hv
          have hpr := pcost_rng hl (ns.take (i + 1))
          have htl : (ns.take (i + 1)).length ≤ 64 := by rw [List.length_take]; omega
          subst hc
          subst hn
          refine aReg ?_
          refine sp pM ?_
          refine sp pB ?_
          refine oNil ?_
          refine aCondEq rfl (fun c52 => ?_) (fun c52 => ?_)
          · skip
            refine aSeq ?_
            refine aReg ?_
            refine sp pMa ?_
            refine sp pMa ?_
            refine oNil ?_
            refine aRet ?_
            refine finIs rfl ?_
            have hno : chainB l ns = false := chain_bad hu hv (hcz.1 (by assumption))
            unfold costR
            rw [hno]
            rfl
          · skip
            refine aSkip ?_
            have hany : (l.any fun x => x.f == u && x.t == v) = true := by
              cases h : (l.any fun x => x.f == u && x.t == v) with
              | true => rfl
              | false => exact absurd (hcz.2 h) (by assumption)
            refine aReg ?_
            refine sp pM ?_
            refine sp pM ?_
            refine sp (by first | exact pCvK ik_3 ik_37 | exact pConv rfl rfl ik_3 ik_37 rfl) ?_
            refine sq ?_
            refine cv rfl rfl rfl (lents_refl _) (ref22_Add (by omega) (by omega) (by omega) (by omega)) ?_
            rw [add_far (by omega)]
            refine sp pMa ?_
            refine oNil ?_
            refine aReg ?_
            refine sp pM ?_
            refine sp pAd ?_
            refine sp pMa ?_
            refine oNil ?_
            refine ⟨(i + 1, _), ?_, by (try dsimp only); omega, ⟨gInt rfl (by first | rfl | omega | simp), rfl, rfl, rfl, trivial⟩, _, (by repeat constructor)⟩
            exact ⟨by omega, by rw [hch2, hch, hany]; rfl, hcs.symm⟩
    · skip
      refine aExit rfl ?_
      refine aSeq ?_
      refine aReg ?_
      refine sp pM ?_
      refine sp pMa ?_
      refine sp pMa ?_
      refine oNil ?_
      refine aRet ?_
      refine finIs rfl ?_
      have e1 : ns.take (i + 1) = ns := List.take_of_length_le (by omega)
      rw [e1] at hch hn
      unfold costR
      rw [hch, hn]
      rfl
theorem ahead_eq {a b : Pth} (h : a.c = b.c) : aheadB a b = decide (cmpL a.ns b.ns < 0) := by
  unfold aheadB orderP
  rcases cmpI_cases a.c b.c with ⟨h1, h2⟩ | ⟨h1, h2⟩ | ⟨h1, h2⟩
  · omega
  · rw [h2]; simp
  · omega
theorem ahead_ne {a b : Pth} (h : a.c ≠ b.c) : aheadB a b = decide (a.c < b.c) := by
  unfold aheadB orderP
  rcases cmpI_cases a.c b.c with ⟨h1, h2⟩ | ⟨h1, h2⟩ | ⟨h1, h2⟩
  · rw [h2]; simp [h1]
  · omega
  · rw [h2]; simp; omega
theorem cmpL_ne {x y : Int} {a b : List Int} (h : x ≠ y) : decide (cmpL (x :: a) (y :: b) < 0) = decide (x < y) := by
  unfold cmpL
  rcases cmpI_cases x y with ⟨h1, h2⟩ | ⟨h1, h2⟩ | ⟨h1, h2⟩
  · rw [h2]; simp [h1]
  · omega
  · rw [h2]; simp; omega
theorem cmpL_eq {x y : Int} {a b : List Int} (h : x = y) : cmpL (x :: a) (y :: b) = cmpL a b := by
  subst h
  conv => lhs; unfold cmpL
  rcases cmpI_cases x x with ⟨h1, h2⟩ | ⟨h1, h2⟩ | ⟨h1, h2⟩
  · omega
  · rw [h2]; simp
  · omega
theorem cmpL_end {a b : List Int} (h : a = [] ∨ b = []) : decide (cmpL a b < 0) = decide (a.length < b.length) := by
  cases a with
  | nil => cases b with
    | nil => rfl
    | cons y b => simp [cmpL]
  | cons x a =>
    rcases h with h | h
    · cases h
    · subst h; simp [cmpL]
/- waymarkref48.ahead -/
def ref48_ahead_r6_T : Bool × List (List Nat × List Nat) := (true, [([], []), ([0], [0]), ([], []), ([1, 2], [1, 2]), ([3], [3]), ([], []), ([5], [5]), ([], []), ([6, 7], [6, 7]), ([8], [8]), ([4, 9], [4, 9])])
def ref48_ahead_r6_B : List Nat := [0, 1, 0, 7, 15, 0, 32, 0, 224, 480, 1023]
theorem ref48_ahead_r6_t : Go.Proofs.YtmcannmjielalaaW.PrintLast.rtab .any (Go.Proofs.YtmcannmjielalaaW.PrintLast.opsOf Try.f168 6) = ref48_ahead_r6_T := by kernel_rfl
theorem ref48_ahead_r6_b : Go.Proofs.YtmcannmjielalaaW.PrintLast.waitsOk ref48_ahead_r6_T.2 ref48_ahead_r6_B = true := by kernel_rfl
def ref48_ahead_r7_T : Bool × List (List Nat × List Nat) := (true, [([], []), ([0], [0]), ([], []), ([1, 2], [1, 2]), ([3], [3]), ([], []), ([5], [5]), ([], []), ([6, 7], [6, 7]), ([8], [8]), ([4, 9], [4, 9]), ([10, 0, 1, 2, 3, 4, 5, 6, 7, 8, 9, 10], [10])])
def ref48_ahead_r7_B : List Nat := [0, 1, 0, 7, 15, 0, 32, 0, 224, 480, 1023, 2047]
theorem ref48_ahead_r7_t : Go.Proofs.YtmcannmjielalaaW.PrintLast.rtab .any (Go.Proofs.YtmcannmjielalaaW.PrintLast.opsOf Try.f168 7) = ref48_ahead_r7_T := by kernel_rfl
theorem ref48_ahead_r7_b : Go.Proofs.YtmcannmjielalaaW.PrintLast.waitsOk ref48_ahead_r7_T.2 ref48_ahead_r7_B = true := by kernel_rfl
set_option maxRecDepth 100000 in
set_option maxHeartbeats 2000000 in
theorem ref48_ahead {a b : Pth} (ha : a.ns.length ≤ 64) (hb : b.ns.length ≤ 64) : Triple Try.prog 168 [.agg (pthC a), .agg (pthC b)] [] (Is (.v (.bool (aheadB a b))) []) := by
  refine triple_of Try.func168 rfl (by kernel_rfl) rfl (by simp) ?_
  refine aSeq ?_
  refine aReg ?_
  refine sq ?_
  refine qBox rfl rfl (by decide) rfl rfl (fun b2 => ?_)
  refine sq ?_
  refine qBox rfl rfl (by decide) rfl rfl (fun b3 => ?_)
  refine sp pMa ?_
  refine oNil ?_
  refine aSeq ?_
  refine aSeq ?_
  refine aReg ?_
  refine sp (pFb fd_125_1) ?_
  refine sr (rB1 ty_37) ?_
  refine sp (pFb fd_125_1) ?_
  refine sr (rB1 ty_37) ?_
  refine sp pB ?_
  refine oNil ?_
  refine aCondNe rfl (fun c10 => ?_) (fun c10 => ?_)
  · skip
    refine aSeq ?_
    refine aReg ?_
    refine sp (pFb fd_125_1) ?_
    refine sr (rB1 ty_37) ?_
    refine sp (pFb fd_125_1) ?_
    refine sr (rB1 ty_37) ?_
    refine sp pB ?_
    refine sp pMa ?_
    refine oNil ?_
    refine aRet ?_
    refine finIs rfl ?_
    rw [ahead_ne (by first | assumption | simp_all)]
    rfl
  · skip
    refine aSkip ?_
    refine aSeq ?_
    refine aSeq ?_
    refine aReg ?_
    refine sp pMa ?_
    refine oNil ?_
    refine aBlock ?_
    refine loopF (α := Nat) (kept := [(2, _), (3, _)]) (fun i => i ≤ a.ns.length ∧ i ≤ b.ns.length ∧ aheadB a b = decide (cmpL (a.ns.drop i) (b.ns.drop i) < 0)) (fun i => [(5, .int i)]) (fun i => []) (fun i => a.ns.length - i) 0 ?_ ⟨gInt rfl (by first | rfl | omega | simp), rfl, rfl, trivial⟩ (by repeat constructor) ?_
    · skip
      exact ⟨by omega, by omega, ahead_eq (by first | assumption | simp_all)⟩
    · rintro i ⟨hi, hi2, hv⟩
      refine aSeq ?_
      refine aSeq ?_
      refine aReg ?_
      refine sp pM ?_
      refine sp (pFb fd_125_0) ?_
      refine sr (rB1 ty_25) ?_
      refine sp (by first | exact pLm sl_25 | exact pLs sl_25 | exact pLv sl_25) ?_
      refine sp pB ?_
      refine sp pM ?_
      refine oSplitDec 21 rfl (fun c21 => ?_) (fun c21 => ?_)
      · skip
        refine gp pM ?_
        refine gp (pFb fd_125_0) ?_
        refine gr (rB1 ty_25) ?_
        refine gp (by first | exact pLm sl_25 | exact pLs sl_25 | exact pLv sl_25) ?_
        refine gp pB ?_
        refine sp pK ?_
        refine oNil ?_
        refine aCondDec rfl (fun c27 => ?_) (fun c27 => ?_)
        · skip
          refine aSkip ?_
          refine aSeq ?_
          refine aBlock ?_
          refine aSeq ?_
          obtain ⟨x, hx⟩ : ∃ z, a.ns[i]? = some z := ⟨_, List.getElem?_eq_getElem (by omega)⟩
          obtain ⟨y, hy⟩ : ∃ z, b.ns[i]? = some z := ⟨_, List.getElem?_eq_getElem (by omega)⟩
          refine aDrawT ref48_ahead_r6_t ref48_ahead_r6_b [] 11 #[false, false, false, false, false, false, false, false, false, false, false] (by kernel_rfl) rfl rfl (fun HT => ?_)
          refine dp HT 0 rfl (pFb fd_125_0) ?_
          refine dr HT 1 rfl (rB1 ty_25) ?_
          refine dp HT 2 rfl pM ?_
          first | refine dp HT 3 rfl (pIx es_25) ?_ | (refine obtDN 31 32 rfl rfl (by omega) (fun x33 hx33 => ?_); refine dp HT 3 rfl (pIs es_25 hx33) ?_) | (refine obtD 31 32 rfl rfl (by omega) (by omega) (fun x33 hx33 => ?_); refine dp HT 3 rfl (pIs es_25 hx33) ?_) | refine dp HT 3 rfl (pIo es_25) ?_
          refine dr HT 4 rfl (by first | exact rS1 ty_3 | exact rB1 ty_3 | exact rAr ty_3 | exact rArL ty_3 | exact rArR2 ty_3) ?_
          refine dp HT 5 rfl (pFb fd_125_0) ?_
          refine dr HT 6 rfl (rB1 ty_25) ?_
          refine dp HT 7 rfl pM ?_
          first | refine dp HT 8 rfl (pIx es_25) ?_ | (refine obtDN 36 37 rfl rfl (by omega) (fun x38 hx38 => ?_); refine dp HT 8 rfl (pIs es_25 hx38) ?_) | (refine obtD 36 37 rfl rfl (by omega) (by omega) (fun x38 hx38 => ?_); refine dp HT 8 rfl (pIs es_25 hx38) ?_) | refine dp HT 8 rfl (pIo es_25) ?_
          refine dr HT 9 rfl (by first | exact rS1 ty_3 | exact rB1 ty_3 | exact rAr ty_3 | exact rArL ty_3 | exact rArR2 ty_3) ?_
          refine dp HT 10 rfl pB ?_
          refine dE HT ?_
          clear HT
          refine aCondNe rfl (fun c40 => ?_) (fun c40 => ?_)
          · skip
            refine aSeq ?_
            refine aDrawT ref48_ahead_r7_t ref48_ahead_r7_b [] 12 #[false, false, false, false, false, false, false, false, false, false, false, false] (by kernel_rfl) rfl rfl (fun HT => ?_)
            refine dp HT 0 rfl (pFb fd_125_0) ?_
            refine dr HT 1 rfl (rB1 ty_25) ?_
            refine dp HT 2 rfl pM ?_
            first | refine dp HT 3 rfl (pIx es_25) ?_ | (refine obtDN 42 43 rfl rfl (by omega) (fun x44 hx44 => ?_); refine dp HT 3 rfl (pIs es_25 hx44) ?_) | (refine obtD 42 43 rfl rfl (by omega) (by omega) (fun x44 hx44 => ?_); refine dp HT 3 rfl (pIs es_25 hx44) ?_) | refine dp HT 3 rfl (pIo es_25) ?_
            refine dr HT 4 rfl (by first | exact rS1 ty_3 | exact rB1 ty_3 | exact rAr ty_3 | exact rArL ty_3 | exact rArR2 ty_3) ?_
            refine dp HT 5 rfl (pFb fd_125_0) ?_
            refine dr HT 6 rfl (rB1 ty_25) ?_
            refine dp HT 7 rfl pM ?_
            first | refine dp HT 8 rfl (pIx es_25) ?_ | (refine obtDN 47 48 rfl rfl (by omega) (fun x49 hx49 => ?_); refine dp HT 8 rfl (pIs es_25 hx49) ?_) | (refine obtD 47 48 rfl rfl (by omega) (by omega) (fun x49 hx49 => ?_); refine dp HT 8 rfl (pIs es_25 hx49) ?_) | refine dp HT 8 rfl (pIo es_25) ?_
            refine dr HT 9 rfl (by first | exact rS1 ty_3 | exact rB1 ty_3 | exact rAr ty_3 | exact rArL ty_3 | exact rArR2 ty_3) ?_
            refine dp HT 10 rfl pB ?_
            refine dp HT 11 rfl pMa ?_
            refine dE HT ?_
            clear HT
            refine aRet ?_
            refine finIs rfl ?_
            rw [hv, drop_step hx, drop_step hy, cmpL_ne (by first | assumption | simp_all)]
            rfl
          · skip
            refine aSkip ?_
            refine aReg ?_
            refine sp pM ?_
            refine sp pAd ?_
            refine sp pMa ?_
            refine oNil ?_
            refine ⟨i + 1, ?_, by (try dsimp only); omega, ⟨gInt rfl (by first | rfl | omega | simp), rfl, rfl, trivial⟩, _, (by repeat constructor)⟩
            exact ⟨by omega, by omega, by rw [hv, drop_step hx, drop_step hy, cmpL_eq (by first | assumption | simp_all)]⟩
        · skip
          refine aExit rfl ?_
          refine aSeq ?_
          refine aReg ?_
          refine sp (pFb fd_125_0) ?_
          refine sr (rB1 ty_25) ?_
          refine sp (by first | exact pLm sl_25 | exact pLs sl_25 | exact pLv sl_25) ?_
          refine sp (pFb fd_125_0) ?_
          refine sr (rB1 ty_25) ?_
          refine sp (by first | exact pLm sl_25 | exact pLs sl_25 | exact pLv sl_25) ?_
          refine sp pB ?_
          refine sp pMa ?_
          refine oNil ?_
          refine aRet ?_
          refine finIs rfl ?_
          rw [hv, cmpL_end (by
            by_cases h : i < a.ns.length
            · exact .inr (List.drop_of_length_le (by omega))
            · exact .inl (List.drop_of_length_le (by omega))), List.length_drop, List.length_drop]
          show AV.v (.bool (decide _)) = AV.v (.bool (decide _))
          congr 2
          exact decide_eq_decide.2 (by omega)
      · skip
        refine gf ?_
        refine gf ?_
        refine gf ?_
        refine gf ?_
        refine gf ?_
        refine sp pK ?_
        refine oNil ?_
        refine aCondF rfl ?_
        refine aExit rfl ?_
        refine aSeq ?_
        refine aReg ?_
        refine sp (pFb fd_125_0) ?_
        refine sr (rB1 ty_25) ?_
        refine sp (by first | exact pLm sl_25 | exact pLs sl_25 | exact pLv sl_25) ?_
        refine sp (pFb fd_125_0) ?_
        refine sr (rB1 ty_25) ?_
        refine sp (by first | exact pLm sl_25 | exact pLs sl_25 | exact pLv sl_25) ?_
        refine sp pB ?_
        refine sp pMa ?_
        refine oNil ?_
        refine aRet ?_
        refine finIs rfl ?_
        rw [hv, cmpL_end (by
          by_cases h : i < a.ns.length
          · exact .inr (List.drop_of_length_le (by omega))
          · exact .inl (List.drop_of_length_le (by omega))), List.length_drop, List.length_drop]
        show AV.v (.bool (decide _)) = AV.v (.bool (decide _))
        congr 2
        exact decide_eq_decide.2 (by omega)
end A
end Go.Proofs.Ytmcannmjielalaa
set_option linter.unusedVariables false
set_option linter.unusedSimpArgs false
namespace Go.Proofs.Ytmcannmjielalaa
namespace A
def nxtF (l : List Arc) (ns : List Int) (m : Nat) : List Int := ((List.range m).map fun (i : Nat) => ((i + 1 : Nat) : Int)).filter (nxtB l ns)
def wkJ (l : List Arc) (td : Int) (k : Nat) (ns : List Int) (m : Nat) : List Pth := ((nxtF l ns m).flatMap fun t => wkN l td k (ns ++ [t])).map (mkP l)
theorem nxtF_step {l : List Arc} {ns : List Int} {m : Nat} : nxtF l ns (m + 1) = nxtF l ns m ++ if nxtB l ns ((m + 1 : Nat) : Int) then [((m + 1 : Nat) : Int)] else [] := by
  unfold nxtF
  rw [rng_step, List.filter_append]
  congr 1
  rw [List.filter_cons]
  cases nxtB l ns ((m + 1 : Nat) : Int) <;> rfl
theorem wkJ_yes {l : List Arc} {td : Int} {k : Nat} {ns : List Int} {m : Nat} (h : nxtB l ns ((m + 1 : Nat) : Int) = true) : wkJ l td k ns (m + 1) = wkJ l td k ns m ++ (wkN l td k (ns ++ [((m + 1 : Nat) : Int)])).map (mkP l) := by
  unfold wkJ
  rw [nxtF_step, h, if_pos rfl, List.flatMap_append, List.map_append]
  congr 1
  simp
theorem wkJ_no {l : List Arc} {td : Int} {k : Nat} {ns : List Int} {m : Nat} (h : nxtB l ns ((m + 1 : Nat) : Int) = false) : wkJ l td k ns (m + 1) = wkJ l td k ns m := by
  unfold wkJ
  rw [nxtF_step, h]
  simp
theorem nxtF_pre {l : List Arc} {ns : List Int} : ∀ d m : Nat, ∃ r, nxtF l ns (m + d) = nxtF l ns m ++ r
  | 0, m => ⟨[], by simp⟩
  | d + 1, m => by
    obtain ⟨r, hr⟩ := nxtF_pre (l := l) (ns := ns) d m
    exact ⟨_, by rw [show m + (d + 1) = (m + d) + 1 by omega, nxtF_step, hr, List.append_assoc]⟩
theorem nxtF_all {l : List Arc} (hok : arcsB none l = true) (ns : List Int) : nxtF l ns 64 = nxtN l ns := (nxtN_eq hok ns).symm
theorem wkJ_all {l : List Arc} (hok : arcsB none l = true) {td : Int} {k : Nat} {ns : List Int} (h : ¬ lastN ns = td) : wkJ l td k ns 64 = (wkN l td (k + 1) ns).map (mkP l) := by
  unfold wkJ
  rw [nxtF_all hok]
  conv => rhs; unfold wkN
  rw [if_neg h]
theorem nxtF_mem {l : List Arc} (hok : arcsB none l = true) {ns : List Int} {m : Nat} (hm : m ≤ 64) {t : Int} (h : t ∈ nxtF l ns m) : t ∈ nxtN l ns := by
  rw [← nxtF_all hok]
  obtain ⟨r, hr⟩ := nxtF_pre (l := l) (ns := ns) (64 - m) m
  rw [show m + (64 - m) = 64 by omega] at hr
  rw [hr]
  exact List.mem_append_left _ h
theorem wkJ_len {l : List Arc} (hok : arcsB none l = true) (h8 : (nodesM l).length ≤ 8) (td : Int) {k : Nat} {ns : List Int} (h : NsOk l ns) {m : Nat} (hm : m < 64) (hb : nxtB l ns ((m + 1 : Nat) : Int) = true) : (wkJ l td k ns m).length + facN (8 - (ns.length + 1)) ≤ facN (8 - ns.length) := by
  have h2 := nxt_le hok h h8
  obtain ⟨r, h3⟩ := nxtF_pre (l := l) (ns := ns) (63 - m) (m + 1)
  rw [show m + 1 + (63 - m) = 64 by omega, nxtF_all hok, nxtF_step, hb, if_pos rfl] at h3
  have h4 := congrArg List.length h3
  simp only [List.length_append, List.length_singleton] at h4
  unfold wkJ
  rw [List.length_map]
  have h1 := flat_len2 (f := fun t => wkN l td k (ns ++ [t])) (m := facN (7 - ns.length)) (nxtF l ns m) (fun t ht => by
    have := wkN_len hok h8 td k (ns ++ [t]) (h.nxt (arcs_ok hok) (nxtF_mem hok (by omega) ht))
    rwa [List.length_append, List.length_singleton, show 8 - (ns.length + 1) = 7 - ns.length by omega] at this)
  have e : facN (8 - ns.length) = (8 - ns.length) * facN (7 - ns.length) := by
    rw [show 8 - ns.length = (7 - ns.length) + 1 by omega]
    rfl
  have h5 := Nat.mul_le_mul_right (facN (7 - ns.length)) (show (nxtF l ns m).length + 1 ≤ 8 - ns.length by omega)
  rw [Nat.add_mul, Nat.one_mul] at h5
  rw [show 8 - (ns.length + 1) = 7 - ns.length by omega]
  omega
theorem fold_perm : ∀ (l o : List Pth), (l.foldl insP o).Perm (o ++ l)
  | [], o => by simp
  | p :: l, o => by
    refine (fold_perm l (insP o p)).trans (((ins_perm o p).append_right l).trans ?_)
    rw [List.append_assoc]
    exact .refl _
theorem fold_len (l o : List Pth) : (l.foldl insP o).length = o.length + l.length := by rw [(fold_perm l o).length_eq, List.length_append]
theorem wkJ_ok {l : List Arc} (hok : arcsB none l = true) (h8 : (nodesM l).length ≤ 8) {td : Int} {k : Nat} {ns : List Int} (h : NsOk l ns) {m : Nat} (hm : m ≤ 64) : ∀ x ∈ wkJ l td k ns m, x.ns.length ≤ 64 := fun x hx => by
  unfold wkJ at hx
  obtain ⟨p, hp, rfl⟩ := List.mem_map.1 hx
  obtain ⟨t, ht, hp⟩ := List.mem_flatMap.1 hp
  have := (wkN_ok (arcs_ok hok) k _ (h.nxt (arcs_ok hok) (nxtF_mem hok hm ht)) p hp).len h8
  show p.length ≤ 64
  omega
theorem fold_ok {l o : List Pth} (h1 : ∀ x ∈ o, x.ns.length ≤ 64) (h2 : ∀ x ∈ l, x.ns.length ≤ 64) : ∀ x ∈ l.foldl insP o, x.ns.length ≤ 64 := fun x hx => by
  rw [(fold_perm l o).mem_iff] at hx
  rcases List.mem_append.1 hx with hx | hx
  · exact h1 x hx
  · exact h2 x hx
theorem chain_two {l : List Arc} {u v : Int} : chainB l [u, v] = l.any fun x => x.f == u && x.t == v := by show ((l.any fun x => x.f == u && x.t == v) && true) = _; rw [Bool.and_true]
/- waymarkref48.All -/
def ref48_AllO_r6_T : Bool × List (List Nat × List Nat) := (true, [([], []), ([], []), ([1], [1]), ([0, 2], [0, 2]), ([3], [3]), ([4], [4]), ([4], [4]), ([5, 6, 4], [4, 5, 6]), ([7, 4], [4, 7]), ([4], [4]), ([8, 9, 4, 4], [4, 8, 9]), ([4, 10], [4, 10])])
def ref48_AllO_r6_B : List Nat := [0, 0, 2, 7, 15, 31, 31, 127, 255, 31, 1023, 2047]
theorem ref48_AllO_r6_t : Go.Proofs.YtmcannmjielalaaW.PrintLast.rtab .any (Go.Proofs.YtmcannmjielalaaW.PrintLast.opsOf Try.f84 6) = ref48_AllO_r6_T := by kernel_rfl
theorem ref48_AllO_r6_b : Go.Proofs.YtmcannmjielalaaW.PrintLast.waitsOk ref48_AllO_r6_T.2 ref48_AllO_r6_B = true := by kernel_rfl
def ref48_AllO_r9_T : Bool × List (List Nat × List Nat) := (true, [([], []), ([], []), ([], []), ([1, 2], [1, 2]), ([0, 3], [0, 3]), ([], []), ([5], [5]), ([4, 6, 4], [4, 6]), ([], []), ([7, 8, 7], [7, 8]), ([9, 9, 0, 1, 2, 3, 4, 5, 6, 7, 8, 9], [9])])
def ref48_AllO_r9_B : List Nat := [0, 0, 0, 6, 15, 0, 32, 127, 0, 511, 1023]
theorem ref48_AllO_r9_t : Go.Proofs.YtmcannmjielalaaW.PrintLast.rtab .any (Go.Proofs.YtmcannmjielalaaW.PrintLast.opsOf Try.f84 9) = ref48_AllO_r9_T := by kernel_rfl
theorem ref48_AllO_r9_b : Go.Proofs.YtmcannmjielalaaW.PrintLast.waitsOk ref48_AllO_r9_T.2 ref48_AllO_r9_B = true := by kernel_rfl
set_option maxRecDepth 100000 in
set_option maxHeartbeats 8000000 in
theorem ref48_AllO {l : List Arc} {td : Int} {k : Nat} {ns : List Int} {out : List Pth} (hok : arcsB none l = true) (hll : l.length ≤ 1000000) (h8 : (nodesM l).length ≤ 8) (hns : NsOk l ns) (hch : chainB l ns = true) (hk : 9 ≤ ns.length + k) (hol : out.length + facN (8 - ns.length) ≤ 1000000) (hob : ∀ x ∈ out, x.ns.length ≤ 64) (ih : ∀ (t : Int) (o : List Pth), 0 < k → t ∈ nxtN l ns → o.length + facN (8 - (ns.length + 1)) ≤ 1000000 → (∀ x ∈ o, x.ns.length ≤ 64) → Triple Try.prog 84 [.sl 3 (l.map arcC), .sl 1 ((ns ++ [t]).map intA), .int td, .sl 2 (o.map pthC)] [] (Is (.sl 2 ((((wkN l td (k - 1) (ns ++ [t])).map (mkP l)).foldl insP o).map pthC)) [])) : Triple Try.prog 84 [.sl 3 (l.map arcC), .sl 1 (ns.map intA), .int td, .sl 2 (out.map pthC)] [] (Is (.sl 2 ((((wkN l td k ns).map (mkP l)).foldl insP out).map pthC)) []) := by
  have hl := arcs_ok hok
  have hnl := hns.len h8
  have hk0 : 0 < k := by omega
  have hn0 := List.length_pos_iff.2 hns.ne
  have hx : ns[((ns.length : Int) - 1).toNat]? = some (lastN ns) := by rw [show ((ns.length : Int) - 1).toNat = ns.length - 1 by omega]; exact lastN_at hns.ne
  have hpr := pcost_rng hl ns
  have hp1 := facN_pos (8 - ns.length)
  refine triple_of Try.func84 rfl (by kernel_rfl) rfl (by simp) ?_
  refine aSeq ?_
  refine aReg ?_
  refine sp pMa ?_
  refine oNil ?_
  refine aSeq ?_
  refine aReg ?_
  refine sp pM ?_
  refine sp pM ?_
  refine sp (by first | exact pLm sl_25 | exact pLs sl_25) ?_
  refine sp pSu ?_
  first | refine sp (pIx es_25) ?_ | (refine obtSN 18 21 rfl rfl (by omega) (fun x22 hx22 => ?_); refine sp (pIs es_25 hx22) ?_) | (refine obtS 18 21 rfl rfl (by omega) (by omega) (fun x22 hx22 => ?_); refine sp (pIs es_25 hx22) ?_) | refine sp (pIo es_25) ?_
  refine sr (rS1 ty_3) ?_
  refine sp pMa ?_
  refine oNil ?_
  refine aSeq ?_
  refine aSeq ?_
  refine aReg ?_
  refine sp pM ?_
  refine sp pM ?_
  refine sp pB ?_
  refine oNil ?_
  refine aCondEq rfl (fun c26 => ?_) (fun c26 => ?_)
  · skip
    refine aSeq ?_
    have hw1 : wkN l td k ns = [ns] := by
      obtain ⟨j, rfl⟩ : ∃ j, k = j + 1 := ⟨k - 1, by omega⟩
      unfold wkN
      rw [if_pos (by assumption)]
    have hcr : costR l ns = pcost l ns := by unfold costR; rw [hch, if_pos rfl]
    refine aReg ?_
    refine sp pM ?_
    refine sp pM ?_
    refine sq ?_
    refine ci rfl rfl rfl (ref48_Cost (l := l) (ns := ns) hok hll (by omega)) ?_
    rw [hcr]
    refine sp pM ?_
    refine sp pX ?_
    refine sp pX ?_
    refine sp pMa ?_
    refine sp pMa ?_
    refine oNil ?_
    refine aSeq ?_
    refine aReg ?_
    refine sq ?_
    refine qLit (l := []) rfl rfl (by decide) us_25 ty_3 ze_3 rfl (by decide) (by decide) rfl rfl rfl (fun b33 => ?_)
    refine sp pM ?_
    refine sa ?_
    first | refine oAppT (out := []) (ns) rfl rfl (by repeat constructor) (.inl rfl) el_25 sl_25 (fun g35 k35 => ?_) | refine oAppT (out := []) (ns) rfl rfl (by repeat constructor) (srcOwn rfl (by repeat constructor) (by first | rfl | simp)) el_25 sl_25 (fun g35 k35 => ?_)
    refine oWeak (weak_settle (k := 35) rfl (by repeat constructor) (by simp)) ?_
    refine sp pM ?_
    refine sp (pBuild rfl st_125 ze_125 rfl rfl rfl rfl) ?_
    refine sq ?_
    refine qAlloc rfl rfl (by decide) ze_125 rfl (fun b12 => ?_)
    refine sa ?_
    refine oStW rfl rfl rfl rfl (by repeat constructor) ty_125 ?_
    refine oNil ?_
    refine aSeq ?_
    refine aReg ?_
    refine sp pMa ?_
    refine oNil ?_
    refine aSeq ?_
    refine aBlock ?_
    refine loopF (α := Nat) (kept := [(3, _), (12, _)]) (fun kk => kk ≤ out.length ∧ ∀ y ∈ out.take kk, aheadB y (mkP l ns) = true) (fun kk => [(13, .int kk)]) (fun kk => []) (fun kk => out.length - kk) 0 ?_ ⟨gInt rfl (by first | rfl | omega | simp), rfl, rfl, trivial⟩ (by repeat constructor) ?_
    · skip
      exact ⟨by omega, fun y hy => by simp at hy⟩
    · rintro kk ⟨hkk, hall⟩
      refine aSeq ?_
      refine aSeq ?_
      refine aDrawT ref48_AllO_r6_t ref48_AllO_r6_b [] 12 #[false, false, false, false, false, false, false, false, false, false, false, false] (by kernel_rfl) rfl rfl (fun HT => ?_)
      refine dp HT 0 rfl pM ?_
      refine dp HT 1 rfl pM ?_
      refine dp HT 2 rfl (by first | exact pLm sl_99 | exact pLs sl_99) ?_
      refine dp HT 3 rfl pB ?_
      refine dp HT 4 rfl pM ?_
      refine dSplitDec 42 rfl (fun c42 => ?_) (fun c42 => ?_)
      · skip
        refine dpG HT 5 rfl pM ?_
        refine dpG HT 6 rfl pM ?_
        obtain ⟨z, hz⟩ : ∃ z, out[kk]? = some z := ⟨_, List.getElem?_eq_getElem (by omega)⟩
        first | refine dpG HT 7 rfl (pIx es_99) ?_ | (refine obtDN 43 44 rfl rfl (by omega) (fun x45 hx45 => ?_); refine dpG HT 7 rfl (pIs es_99 hx45) ?_) | (refine obtD 43 44 rfl rfl (by omega) (by omega) (fun x45 hx45 => ?_); refine dpG HT 7 rfl (pIs es_99 hx45) ?_) | refine dpG HT 7 rfl (pIo es_99) ?_
        refine drG HT 8 rfl (by first | exact rSW ty_125 rfl | exact rSA ty_125) ?_
        refine drG HT 9 rfl (by first | exact rBWa ty_125 | exact rBW ty_125 | exact rBA ty_125) ?_
        refine dGo ?_
        refine e1G HT 10 rfl ?_
        refine cv rfl rfl rfl (lents_refl _) (ref48_ahead (a := z) (b := (mkP l ns)) (hob z (List.mem_of_getElem? hz)) (by show ns.length ≤ 64; omega)) ?_
        refine ef HT 11 rfl pK ?_
        refine eE HT ?_
        clear HT
        refine aCond rfl (fun c49 => ?_) (fun c49 => ?_)
        · skip
          refine aSkip ?_
          refine aBlock ?_
          refine aReg ?_
          refine sp pM ?_
          refine sp pAd ?_
          refine sp pMa ?_
          refine oNil ?_
          refine ⟨kk + 1, ?_, by (try dsimp only); omega, ⟨gInt rfl (by first | rfl | omega | simp), rfl, rfl, trivial⟩, _, (by repeat constructor)⟩
          refine ⟨by omega, fun y hy => ?_⟩
          rw [take_step hz] at hy
          rcases List.mem_append.1 hy with hy | hy
          · exact hall y hy
          · rw [List.mem_singleton.1 hy]; first | assumption | simp_all
        · skip
          refine aExit rfl ?_
          refine aSeq ?_
          refine aReg ?_
          refine sq ?_
          refine qLit (l := []) rfl rfl (by decide) us_99 ty_125 ze_125 rfl (by decide) (by decide) rfl rfl rfl (fun b52 => ?_)
          refine sp pM ?_
          refine sp pM ?_
          refine sp (pSlice rfl rfl es_99 (bdI rfl) (bdN rfl) (by first | omega | (simp only [List.length_map]; omega)) (by first | omega | (simp only [List.length_map]; omega))) ?_
          rw [show ((out.map pthC).drop kk).take ((out.map pthC).length - kk) = (out.drop kk).map pthC by rw [List.take_of_length_le (by simp), List.map_drop]]
          refine sa ?_
          first | refine oAppT (out := []) (out.drop kk) rfl rfl (by repeat constructor) (.inl rfl) el_99 sl_99 (fun g56 k56 => ?_) | refine oAppT (out := []) (out.drop kk) rfl rfl (by repeat constructor) (srcOwn rfl (by repeat constructor) (by first | rfl | simp)) el_99 sl_99 (fun g56 k56 => ?_)
          refine sp pMa ?_
          refine oNil ?_
          refine aSeq ?_
          refine aDrawT ref48_AllO_r9_t ref48_AllO_r9_b [7, 9] 11 #[false, false, false, false, false, false, false, false, false, false, false] (by kernel_rfl) rfl rfl (fun HT => ?_)
          refine dp HT 1 rfl pM ?_
          refine dp HT 2 rfl pM ?_
          refine dp HT 3 rfl (pSlice rfl rfl es_99 (bdN rfl) (bdI rfl) (by first | omega | (simp only [List.length_map]; omega)) (by first | omega | (simp only [List.length_map]; omega))) ?_
          rw [show ((out.map pthC).drop 0).take (kk - 0) = (out.take kk).map pthC by rw [List.drop_zero, Nat.sub_zero, List.map_take]]
          refine dr HT 5 rfl (by first | exact rBWa ty_125 | exact rBW ty_125 | exact rBA ty_125) ?_
          refine dp HT 8 rfl pM ?_
          refine dGo ?_
          refine eTwoS (i := 0) (j := 6) #[true, true, true, true, false, true, false, false, true, false, false] #[false, true, true, true, false, true, true, false, true, false, false] rfl rfl (HT.two (by kernel_rfl)) (by decide) (by decide) ?_ ?_
          · skip
            refine stQ (wantN rfl) (fun t ht => by cases ht <;> decide) ?_
            refine qLit (l := []) rfl rfl (by decide) us_99 ty_125 ze_125 rfl (by decide) (by decide) rfl rfl rfl (fun b57 => ?_)
            refine undel (d := 57) rfl ?_
            refine eTwoS (i := 4) (j := 6) #[true, true, true, true, true, true, false, false, true, false, false] #[true, true, true, true, false, true, true, false, true, false, false] rfl rfl (HT.two (by kernel_rfl)) (by decide) (by decide) ?_ ?_
            · skip
              refine stA (hx := [.sl (some b57) _ _ _ _]) (wantN rfl) (fun t ht => by cases ht <;> decide) (.cons (by repeat constructor) .nil) (by repeat constructor) ?_
              first | refine oAppT (out := []) (out.take kk) rfl rfl (by repeat constructor) (.inl rfl) el_99 sl_99 (fun g61 k61 => ?_) | refine oAppT (out := []) (out.take kk) rfl rfl (by repeat constructor) (srcOwn rfl (by repeat constructor) (by first | rfl | simp)) el_99 sl_99 (fun g61 k61 => ?_)
              refine undel (d := 61) rfl ?_
              dsimp only [List.cons_append, List.nil_append]
              refine e1 HT 6 rfl ?_
              refine qLit (l := [_]) rfl rfl (by decide) us_99 ty_125 ze_125 rfl (by decide) (by decide) rfl rfl rfl (fun b63 => ?_)
              refine eLast ?_
              refine f1 HT 7 rfl ?_
              refine oAppT ([(mkP l ns)] : List Pth) rfl rfl (by repeat constructor) (srcOwn rfl (by repeat constructor) rfl) el_99 sl_99 (fun g64 k64 => ?_)
              refine f1 HT 9 rfl ?_
              first | refine oAppT (out.drop kk) rfl rfl (by repeat constructor) (.inl rfl) el_99 sl_99 (fun g66 k66 => ?_) | refine oAppT (out.drop kk) rfl rfl (by repeat constructor) (srcOwn rfl (by repeat constructor) (by first | rfl | simp)) el_99 sl_99 (fun g66 k66 => ?_)
              refine fp HT 10 rfl pMa ?_
              refine fE HT ?_
              clear HT
              refine aWeak (weak_settle (k := 8) rfl (by repeat constructor) (by first | rfl | (simp; done) | (simp; omega))) ?_
              refine aRet ?_
              refine finIs rfl ?_
              obtain ⟨t1, t2⟩ := tw_split (p := (aheadB · (mkP l ns))) (l := out) (k := kk) hall hkk (fun y hy => by
                first
                  | (exfalso; have := (List.getElem?_eq_some_iff.1 hy).1; omega)
                  | (rw [hz] at hy; cases hy; first | assumption | simp_all))
              rw [hw1]
              show AV.sl 2 _ = AV.sl 2 ((insP out (mkP l ns)).map pthC)
              unfold insP
              rw [t1, t2]
              simp
            · skip
              refine stQ (wantN rfl) (fun t ht => by cases ht <;> decide) ?_
              refine qLit (l := [_]) rfl rfl (by decide) us_99 ty_125 ze_125 rfl (by decide) (by decide) rfl rfl rfl (fun b63 => ?_)
              refine undel (d := 63) rfl ?_
              refine eOneS (i := 4) #[true, true, true, true, true, true, true, false, true, false, false] rfl (HT.one (by kernel_rfl)) (by decide) ?_
              · skip
                refine stA (hx := [.sl (some b57) _ _ _ _]) (wantN rfl) (fun t ht => by cases ht <;> decide) (.cons (by repeat constructor) .nil) (by repeat constructor) ?_
                first | refine oAppT (out := []) (out.take kk) rfl rfl (by repeat constructor) (.inl rfl) el_99 sl_99 (fun g61 k61 => ?_) | refine oAppT (out := []) (out.take kk) rfl rfl (by repeat constructor) (srcOwn rfl (by repeat constructor) (by first | rfl | simp)) el_99 sl_99 (fun g61 k61 => ?_)
                refine undel (d := 61) rfl ?_
                dsimp only [List.cons_append, List.nil_append]
                refine eLast ?_
                refine f1 HT 7 rfl ?_
                refine oAppT ([(mkP l ns)] : List Pth) rfl rfl (by repeat constructor) (srcOwn rfl (by repeat constructor) rfl) el_99 sl_99 (fun g64 k64 => ?_)
                refine f1 HT 9 rfl ?_
                first | refine oAppT (out.drop kk) rfl rfl (by repeat constructor) (.inl rfl) el_99 sl_99 (fun g66 k66 => ?_) | refine oAppT (out.drop kk) rfl rfl (by repeat constructor) (srcOwn rfl (by repeat constructor) (by first | rfl | simp)) el_99 sl_99 (fun g66 k66 => ?_)
                refine fp HT 10 rfl pMa ?_
                refine fE HT ?_
                clear HT
                refine aWeak (weak_settle (k := 8) rfl (by repeat constructor) (by first | rfl | (simp; done) | (simp; omega))) ?_
                refine aRet ?_
                refine finIs rfl ?_
                obtain ⟨t1, t2⟩ := tw_split (p := (aheadB · (mkP l ns))) (l := out) (k := kk) hall hkk (fun y hy => by
                  first
                    | (exfalso; have := (List.getElem?_eq_some_iff.1 hy).1; omega)
                    | (rw [hz] at hy; cases hy; first | assumption | simp_all))
                rw [hw1]
                show AV.sl 2 _ = AV.sl 2 ((insP out (mkP l ns)).map pthC)
                unfold insP
                rw [t1, t2]
                simp
          · skip
            refine stQ (wantN rfl) (fun t ht => by cases ht <;> decide) ?_
            refine qLit (l := [_]) rfl rfl (by decide) us_99 ty_125 ze_125 rfl (by decide) (by decide) rfl rfl rfl (fun b63 => ?_)
            refine undel (d := 63) rfl ?_
            refine e1 HT 0 rfl ?_
            refine qLit (l := []) rfl rfl (by decide) us_99 ty_125 ze_125 rfl (by decide) (by decide) rfl rfl rfl (fun b57 => ?_)
            refine eOneS (i := 4) #[true, true, true, true, true, true, true, false, true, false, false] rfl (HT.one (by kernel_rfl)) (by decide) ?_
            · skip
              refine stA (hx := [.sl (some b57) _ _ _ _]) (wantN rfl) (fun t ht => by cases ht <;> decide) (.cons (by repeat constructor) .nil) (by repeat constructor) ?_
              first | refine oAppT (out := []) (out.take kk) rfl rfl (by repeat constructor) (.inl rfl) el_99 sl_99 (fun g61 k61 => ?_) | refine oAppT (out := []) (out.take kk) rfl rfl (by repeat constructor) (srcOwn rfl (by repeat constructor) (by first | rfl | simp)) el_99 sl_99 (fun g61 k61 => ?_)
              refine undel (d := 61) rfl ?_
              dsimp only [List.cons_append, List.nil_append]
              refine eLast ?_
              refine f1 HT 7 rfl ?_
              refine oAppT ([(mkP l ns)] : List Pth) rfl rfl (by repeat constructor) (srcOwn rfl (by repeat constructor) rfl) el_99 sl_99 (fun g64 k64 => ?_)
              refine f1 HT 9 rfl ?_
              first | refine oAppT (out.drop kk) rfl rfl (by repeat constructor) (.inl rfl) el_99 sl_99 (fun g66 k66 => ?_) | refine oAppT (out.drop kk) rfl rfl (by repeat constructor) (srcOwn rfl (by repeat constructor) (by first | rfl | simp)) el_99 sl_99 (fun g66 k66 => ?_)
              refine fp HT 10 rfl pMa ?_
              refine fE HT ?_
              clear HT
              refine aWeak (weak_settle (k := 8) rfl (by repeat constructor) (by first | rfl | (simp; done) | (simp; omega))) ?_
              refine aRet ?_
              refine finIs rfl ?_
              obtain ⟨t1, t2⟩ := tw_split (p := (aheadB · (mkP l ns))) (l := out) (k := kk) hall hkk (fun y hy => by
                first
                  | (exfalso; have := (List.getElem?_eq_some_iff.1 hy).1; omega)
                  | (rw [hz] at hy; cases hy; first | assumption | simp_all))
              rw [hw1]
              show AV.sl 2 _ = AV.sl 2 ((insP out (mkP l ns)).map pthC)
              unfold insP
              rw [t1, t2]
              simp
      · skip
        refine dS HT 5 rfl ?_
        refine dS HT 6 rfl ?_
        refine dS HT 7 rfl ?_
        refine dS HT 8 rfl ?_
        refine dS HT 9 rfl ?_
        refine dGo ?_
        refine eS HT 10 rfl ?_
        refine ef HT 11 rfl pK ?_
        refine eE HT ?_
        clear HT
        refine aCondF rfl ?_
        refine aExit rfl ?_
        refine aSeq ?_
        refine aReg ?_
        refine sq ?_
        refine qLit (l := []) rfl rfl (by decide) us_99 ty_125 ze_125 rfl (by decide) (by decide) rfl rfl rfl (fun b52 => ?_)
        refine sp pM ?_
        refine sp pM ?_
        refine sp (pSlice rfl rfl es_99 (bdI rfl) (bdN rfl) (by first | omega | (simp only [List.length_map]; omega)) (by first | omega | (simp only [List.length_map]; omega))) ?_
        rw [show ((out.map pthC).drop kk).take ((out.map pthC).length - kk) = (out.drop kk).map pthC by rw [List.take_of_length_le (by simp), List.map_drop]]
        refine sa ?_
        first | refine oAppT (out := []) (out.drop kk) rfl rfl (by repeat constructor) (.inl rfl) el_99 sl_99 (fun g56 k56 => ?_) | refine oAppT (out := []) (out.drop kk) rfl rfl (by repeat constructor) (srcOwn rfl (by repeat constructor) (by first | rfl | simp)) el_99 sl_99 (fun g56 k56 => ?_)
        refine sp pMa ?_
        refine oNil ?_
        refine aSeq ?_
        refine aDrawT ref48_AllO_r9_t ref48_AllO_r9_b [7, 9] 11 #[false, false, false, false, false, false, false, false, false, false, false] (by kernel_rfl) rfl rfl (fun HT => ?_)
        refine dp HT 1 rfl pM ?_
        refine dp HT 2 rfl pM ?_
        refine dp HT 3 rfl (pSlice rfl rfl es_99 (bdN rfl) (bdI rfl) (by first | omega | (simp only [List.length_map]; omega)) (by first | omega | (simp only [List.length_map]; omega))) ?_
        rw [show ((out.map pthC).drop 0).take (kk - 0) = (out.take kk).map pthC by rw [List.drop_zero, Nat.sub_zero, List.map_take]]
        refine dr HT 5 rfl (by first | exact rBWa ty_125 | exact rBW ty_125 | exact rBA ty_125) ?_
        refine dp HT 8 rfl pM ?_
        refine dGo ?_
        refine eTwoS (i := 0) (j := 6) #[true, true, true, true, false, true, false, false, true, false, false] #[false, true, true, true, false, true, true, false, true, false, false] rfl rfl (HT.two (by kernel_rfl)) (by decide) (by decide) ?_ ?_
        · skip
          refine stQ (wantN rfl) (fun t ht => by cases ht <;> decide) ?_
          refine qLit (l := []) rfl rfl (by decide) us_99 ty_125 ze_125 rfl (by decide) (by decide) rfl rfl rfl (fun b57 => ?_)
          refine undel (d := 57) rfl ?_
          refine eTwoS (i := 4) (j := 6) #[true, true, true, true, true, true, false, false, true, false, false] #[true, true, true, true, false, true, true, false, true, false, false] rfl rfl (HT.two (by kernel_rfl)) (by decide) (by decide) ?_ ?_
          · skip
            refine stA (hx := [.sl (some b57) _ _ _ _]) (wantN rfl) (fun t ht => by cases ht <;> decide) (.cons (by repeat constructor) .nil) (by repeat constructor) ?_
            first | refine oAppT (out := []) (out.take kk) rfl rfl (by repeat constructor) (.inl rfl) el_99 sl_99 (fun g61 k61 => ?_) | refine oAppT (out := []) (out.take kk) rfl rfl (by repeat constructor) (srcOwn rfl (by repeat constructor) (by first | rfl | simp)) el_99 sl_99 (fun g61 k61 => ?_)
            refine undel (d := 61) rfl ?_
            dsimp only [List.cons_append, List.nil_append]
            refine e1 HT 6 rfl ?_
            refine qLit (l := [_]) rfl rfl (by decide) us_99 ty_125 ze_125 rfl (by decide) (by decide) rfl rfl rfl (fun b63 => ?_)
            refine eLast ?_
            refine f1 HT 7 rfl ?_
            refine oAppT ([(mkP l ns)] : List Pth) rfl rfl (by repeat constructor) (srcOwn rfl (by repeat constructor) rfl) el_99 sl_99 (fun g64 k64 => ?_)
            refine f1 HT 9 rfl ?_
            first | refine oAppT (out.drop kk) rfl rfl (by repeat constructor) (.inl rfl) el_99 sl_99 (fun g66 k66 => ?_) | refine oAppT (out.drop kk) rfl rfl (by repeat constructor) (srcOwn rfl (by repeat constructor) (by first | rfl | simp)) el_99 sl_99 (fun g66 k66 => ?_)
            refine fp HT 10 rfl pMa ?_
            refine fE HT ?_
            clear HT
            refine aWeak (weak_settle (k := 8) rfl (by repeat constructor) (by first | rfl | (simp; done) | (simp; omega))) ?_
            refine aRet ?_
            refine finIs rfl ?_
            obtain ⟨t1, t2⟩ := tw_split (p := (aheadB · (mkP l ns))) (l := out) (k := kk) hall hkk (fun y hy => by
              first
                | (exfalso; have := (List.getElem?_eq_some_iff.1 hy).1; omega)
                | (rw [hz] at hy; cases hy; first | assumption | simp_all))
            rw [hw1]
            show AV.sl 2 _ = AV.sl 2 ((insP out (mkP l ns)).map pthC)
            unfold insP
            rw [t1, t2]
            simp
          · skip
            refine stQ (wantN rfl) (fun t ht => by cases ht <;> decide) ?_
            refine qLit (l := [_]) rfl rfl (by decide) us_99 ty_125 ze_125 rfl (by decide) (by decide) rfl rfl rfl (fun b63 => ?_)
            refine undel (d := 63) rfl ?_
            refine eOneS (i := 4) #[true, true, true, true, true, true, true, false, true, false, false] rfl (HT.one (by kernel_rfl)) (by decide) ?_
            · skip
              refine stA (hx := [.sl (some b57) _ _ _ _]) (wantN rfl) (fun t ht => by cases ht <;> decide) (.cons (by repeat constructor) .nil) (by repeat constructor) ?_
              first | refine oAppT (out := []) (out.take kk) rfl rfl (by repeat constructor) (.inl rfl) el_99 sl_99 (fun g61 k61 => ?_) | refine oAppT (out := []) (out.take kk) rfl rfl (by repeat constructor) (srcOwn rfl (by repeat constructor) (by first | rfl | simp)) el_99 sl_99 (fun g61 k61 => ?_)
              refine undel (d := 61) rfl ?_
              dsimp only [List.cons_append, List.nil_append]
              refine eLast ?_
              refine f1 HT 7 rfl ?_
              refine oAppT ([(mkP l ns)] : List Pth) rfl rfl (by repeat constructor) (srcOwn rfl (by repeat constructor) rfl) el_99 sl_99 (fun g64 k64 => ?_)
              refine f1 HT 9 rfl ?_
              first | refine oAppT (out.drop kk) rfl rfl (by repeat constructor) (.inl rfl) el_99 sl_99 (fun g66 k66 => ?_) | refine oAppT (out.drop kk) rfl rfl (by repeat constructor) (srcOwn rfl (by repeat constructor) (by first | rfl | simp)) el_99 sl_99 (fun g66 k66 => ?_)
              refine fp HT 10 rfl pMa ?_
              refine fE HT ?_
              clear HT
              refine aWeak (weak_settle (k := 8) rfl (by repeat constructor) (by first | rfl | (simp; done) | (simp; omega))) ?_
              refine aRet ?_
              refine finIs rfl ?_
              obtain ⟨t1, t2⟩ := tw_split (p := (aheadB · (mkP l ns))) (l := out) (k := kk) hall hkk (fun y hy => by
                first
                  | (exfalso; have := (List.getElem?_eq_some_iff.1 hy).1; omega)
                  | (rw [hz] at hy; cases hy; first | assumption | simp_all))
              rw [hw1]
              show AV.sl 2 _ = AV.sl 2 ((insP out (mkP l ns)).map pthC)
              unfold insP
              rw [t1, t2]
              simp
        · skip
          refine stQ (wantN rfl) (fun t ht => by cases ht <;> decide) ?_
          refine qLit (l := [_]) rfl rfl (by decide) us_99 ty_125 ze_125 rfl (by decide) (by decide) rfl rfl rfl (fun b63 => ?_)
          refine undel (d := 63) rfl ?_
          refine e1 HT 0 rfl ?_
          refine qLit (l := []) rfl rfl (by decide) us_99 ty_125 ze_125 rfl (by decide) (by decide) rfl rfl rfl (fun b57 => ?_)
          refine eOneS (i := 4) #[true, true, true, true, true, true, true, false, true, false, false] rfl (HT.one (by kernel_rfl)) (by decide) ?_
          · skip
            refine stA (hx := [.sl (some b57) _ _ _ _]) (wantN rfl) (fun t ht => by cases ht <;> decide) (.cons (by repeat constructor) .nil) (by repeat constructor) ?_
            first | refine oAppT (out := []) (out.take kk) rfl rfl (by repeat constructor) (.inl rfl) el_99 sl_99 (fun g61 k61 => ?_) | refine oAppT (out := []) (out.take kk) rfl rfl (by repeat constructor) (srcOwn rfl (by repeat constructor) (by first | rfl | simp)) el_99 sl_99 (fun g61 k61 => ?_)
            refine undel (d := 61) rfl ?_
            dsimp only [List.cons_append, List.nil_append]
            refine eLast ?_
            refine f1 HT 7 rfl ?_
            refine oAppT ([(mkP l ns)] : List Pth) rfl rfl (by repeat constructor) (srcOwn rfl (by repeat constructor) rfl) el_99 sl_99 (fun g64 k64 => ?_)
            refine f1 HT 9 rfl ?_
            first | refine oAppT (out.drop kk) rfl rfl (by repeat constructor) (.inl rfl) el_99 sl_99 (fun g66 k66 => ?_) | refine oAppT (out.drop kk) rfl rfl (by repeat constructor) (srcOwn rfl (by repeat constructor) (by first | rfl | simp)) el_99 sl_99 (fun g66 k66 => ?_)
            refine fp HT 10 rfl pMa ?_
            refine fE HT ?_
            clear HT
            refine aWeak (weak_settle (k := 8) rfl (by repeat constructor) (by first | rfl | (simp; done) | (simp; omega))) ?_
            refine aRet ?_
            refine finIs rfl ?_
            obtain ⟨t1, t2⟩ := tw_split (p := (aheadB · (mkP l ns))) (l := out) (k := kk) hall hkk (fun y hy => by
              first
                | (exfalso; have := (List.getElem?_eq_some_iff.1 hy).1; omega)
                | (rw [hz] at hy; cases hy; first | assumption | simp_all))
            rw [hw1]
            show AV.sl 2 _ = AV.sl 2 ((insP out (mkP l ns)).map pthC)
            unfold insP
            rw [t1, t2]
            simp
  · skip
    refine aSkip ?_
    refine aSeq ?_
    refine aSeq ?_
    have hnt : ¬ lastN ns = td := by assumption
    refine aReg ?_
    refine sp pMa ?_
    refine oNil ?_
    refine aBlock ?_
    refine loopF (α := Nat × List Pth) (kept := [(0, _), (1, _), (2, _), (9, _)]) (fun (n, o) => n ≤ 64 ∧ o = (wkJ l td (k - 1) ns n).foldl insP out) (fun (n, o) => [(15, .int ((n + 1 : Nat) : Int)), (3, .sl 2 (o.map pthC))]) (fun (n, o) => []) (fun (n, o) => 64 - n) (0, out) ?_ ⟨gInt rfl (by first | rfl | omega | simp), rfl, rfl, rfl, rfl, rfl, trivial⟩ (by repeat constructor) ?_
    · skip
      exact ⟨by omega, rfl⟩
    · rintro ⟨n, o⟩ ⟨hn, ho⟩
      refine aSeq ?_
      refine aSeq ?_
      refine aReg ?_
      refine sp pM ?_
      refine sp pB ?_
      refine oNil ?_
      refine aCondDec rfl (fun c68 => ?_) (fun c68 => ?_)
      · skip
        refine aSkip ?_
        refine aSeq ?_
        refine aBlock ?_
        refine aSeq ?_
        refine aReg ?_
        refine sp pM ?_
        refine sp pM ?_
        refine sp pM ?_
        refine sq ?_
        refine qLit (l := [_, _]) rfl rfl (by decide) us_25 ty_3 ze_3 rfl (by decide) (by decide) rfl rfl rfl (fun b75 => ?_)
        refine oWeak (weak_settle (k := 75) rfl (by repeat constructor) (by simp)) ?_
        refine sq ?_
        refine ci rfl rfl rfl (ref48_Cost (l := l) (ns := [lastN ns, ((n + 1 : Nat) : Int)]) hok hll (by simp)) ?_
        refine sp pM ?_
        refine sp pX ?_
        refine sp pX ?_
        refine sp pMa ?_
        refine sp pMa ?_
        refine oNil ?_
        refine aSeq ?_
        refine aReg ?_
        refine sp pM ?_
        refine sp pM ?_
        refine oSplit 80 rfl (fun c80 => ?_) (fun c80 => ?_)
        · skip
          refine gp pM ?_
          refine gp pM ?_
          refine ga ?_
          refine (cv rfl rfl rfl (lents_refl _) (ref27_Has (l := ns) (n := ((n + 1 : Nat) : Int)) (by omega)) ?_).op
          refine gp pNo ?_
          refine sp pK ?_
          refine oNil ?_
          refine aCondNot rfl (fun c85 => ?_) (fun c85 => ?_)
          · skip
            have hnb : nxtB l ns ((n + 1 : Nat) : Int) = true := by
              unfold nxtB
              rw [← chain_two]
              simp_all
            have hwl := wkJ_len hok h8 td (k := k - 1) hns (by omega) hnb
            refine aReg ?_
            refine sp pM ?_
            refine sq ?_
            refine qLit (l := []) rfl rfl (by decide) us_25 ty_3 ze_3 rfl (by decide) (by decide) rfl rfl rfl (fun b87 => ?_)
            refine sp pM ?_
            refine sa ?_
            first | refine oAppT (out := []) (ns) rfl rfl (by repeat constructor) (.inl rfl) el_25 sl_25 (fun g89 k89 => ?_) | refine oAppT (out := []) (ns) rfl rfl (by repeat constructor) (srcOwn rfl (by repeat constructor) (by first | rfl | simp)) el_25 sl_25 (fun g89 k89 => ?_)
            refine sp pM ?_
            refine sq ?_
            refine qLit (l := [_]) rfl rfl (by decide) us_25 ty_3 ze_3 rfl (by decide) (by decide) rfl rfl rfl (fun b91 => ?_)
            refine sa ?_
            refine oAppT ([((n + 1 : Nat) : Int)] : List Int) rfl rfl (by repeat constructor) (srcOwn rfl (by repeat constructor) rfl) el_25 sl_25 (fun g92 k92 => ?_)
            refine oWeak (weak_settle (k := 92) rfl (by repeat constructor) (by simp)) ?_
            refine sp pM ?_
            refine sp pM ?_
            refine sq ?_
            refine ci rfl rfl rfl (ih ((n + 1 : Nat) : Int) o hk0 (nxtF_mem hok (m := n + 1) (by omega) (by rw [nxtF_step, hnb, if_pos rfl]; simp)) (by rw [ho, fold_len]; omega) (by rw [ho]; exact fold_ok hob (wkJ_ok hok h8 hns (by omega)))) ?_
            refine sp pMa ?_
            refine oNil ?_
            refine aReg ?_
            refine sp pM ?_
            refine sp pAd ?_
            refine sp pMa ?_
            refine oNil ?_
            refine ⟨(n + 1, _), ?_, by (try dsimp only); omega, ⟨gInt rfl (by first | rfl | omega | simp), rfl, rfl, rfl, rfl, rfl, trivial⟩, _, (by repeat constructor)⟩
            refine ⟨by omega, ?_⟩
            first
              | (rw [wkJ_yes hnb, List.foldl_append, ← ho]; done)
              | (rw [wkJ_no (by unfold nxtB; rw [← chain_two]; simp_all), ho]; done)
          · skip
            refine aSkip ?_
            refine aReg ?_
            refine sp pM ?_
            refine sp pAd ?_
            refine sp pMa ?_
            refine oNil ?_
            refine ⟨(n + 1, _), ?_, by (try dsimp only); omega, ⟨gInt rfl (by first | rfl | omega | simp), rfl, rfl, rfl, rfl, rfl, trivial⟩, _, (by repeat constructor)⟩
            refine ⟨by omega, ?_⟩
            first
              | (rw [wkJ_yes hnb, List.foldl_append, ← ho]; done)
              | (rw [wkJ_no (by unfold nxtB; rw [← chain_two]; simp_all), ho]; done)
        · skip
          refine gf ?_
          refine gf ?_
          refine gf ?_
          refine gf ?_
          refine sp pK ?_
          refine oNil ?_
          refine aCondF rfl ?_
          refine aSkip ?_
          refine aReg ?_
          refine sp pM ?_
          refine sp pAd ?_
          refine sp pMa ?_
          refine oNil ?_
          refine ⟨(n + 1, _), ?_, by (try dsimp only); omega, ⟨gInt rfl (by first | rfl | omega | simp), rfl, rfl, rfl, rfl, rfl, trivial⟩, _, (by repeat constructor)⟩
          refine ⟨by omega, ?_⟩
          first
            | (rw [wkJ_yes hnb, List.foldl_append, ← ho]; done)
            | (rw [wkJ_no (by unfold nxtB; rw [← chain_two]; simp_all), ho]; done)
      · skip
        refine aExit rfl ?_
        refine aSeq ?_
        refine aReg ?_
        refine sp pM ?_
        refine sp pMa ?_
        refine oNil ?_
        refine aRet ?_
        refine finIs rfl ?_
        have hwa := wkJ_all hok (k := k - 1) hnt
        rw [show k - 1 + 1 = k by omega] at hwa
        obtain rfl : n = 64 := by omega
        rw [ho, hwa]
        rfl
end A
end Go.Proofs.Ytmcannmjielalaa
set_option linter.unusedVariables false
set_option linter.unusedSimpArgs false
namespace Go.Proofs.Ytmcannmjielalaa
namespace A
theorem wkN_pre {l : List Arc} {td : Int} : ∀ (k : Nat) (ns : List Int), ∀ p ∈ wkN l td k ns, ∃ q, p = ns ++ q
  | 0, _, p, hp => by simp [wkN] at hp
  | k + 1, ns, p, hp => by
    unfold wkN at hp
    split at hp
    · exact ⟨[], by rw [List.mem_singleton.1 hp]; simp⟩
    · obtain ⟨t, ht, hp⟩ := List.mem_flatMap.1 hp
      obtain ⟨q, rfl⟩ := wkN_pre k _ p hp
      exact ⟨t :: q, by simp⟩
theorem chain_add {l : List Arc} {ns : List Int} {t : Int} (hne : ns ≠ []) (h : chainB l ns = true) (ht : t ∈ nxtN l ns) : chainB l (ns ++ [t]) = true := by
  obtain ⟨⟨a, h1, h2, h3⟩, _⟩ := nxtN_mem.1 ht
  rw [chain_app hne, h, Bool.true_and, List.any_eq_true]
  exact ⟨a, h1, by simp [h2, h3]⟩
theorem wkN_chain {l : List Arc} {td : Int} : ∀ (k : Nat) (ns : List Int), ns ≠ [] → chainB l ns = true → ∀ p ∈ wkN l td k ns, chainB l p = true
  | 0, _, _, _, p, hp => by simp [wkN] at hp
  | k + 1, ns, hne, hc, p, hp => by
    unfold wkN at hp
    split at hp
    · rw [List.mem_singleton.1 hp]; exact hc
    · obtain ⟨t, ht, hp⟩ := List.mem_flatMap.1 hp
      exact wkN_chain k _ (by simp) (chain_add hne hc ht) p hp
theorem wkN_wk {l : List Arc} (hok : arcsB none l = true) {td r : Int} : ∀ (k : Nat) (ns : List Int), ns ≠ [] → Wk l r (lastN ns) (pcost l ns) → ∀ p ∈ wkN l td k ns, Wk l r td (pcost l p)
  | 0, _, _, _, p, hp => by simp [wkN] at hp
  | k + 1, ns, hne, hw, p, hp => by
    unfold wkN at hp
    split at hp
    · rename_i e
      rw [List.mem_singleton.1 hp, ← e]; exact hw
    · obtain ⟨t, ht, hp⟩ := List.mem_flatMap.1 hp
      refine wkN_wk hok k _ (by simp) ?_ p hp
      obtain ⟨⟨a, h1, h2, rfl⟩, _⟩ := nxtN_mem.1 ht
      rw [lastN_app, pcost_app hne, ← h2, cst_arc (arcsB_sorted hok) h1]
      rw [← h2] at hw
      exact .step hw h1 rfl
theorem way_in {l : List Arc} (hok : arcsB none l = true) {td v : Int} {p : List Int} (ht : 1 ≤ td ∧ td ≤ 64) (h : HWay l td v p) : ∀ (ns : List Int) (k : Nat), ns ≠ [] → lastN ns = v → (ns ++ p.tail).Nodup → p.length ≤ k → ns ++ p.tail ∈ wkN l td k ns ∧ pcost l (ns ++ p.tail) = pcost l ns + dF l v td := by
  induction h with
  | here =>
    intro ns k hne hl hnd hk
    simp at hk
    obtain ⟨j, rfl⟩ : ∃ j, k = j + 1 := ⟨k - 1, by omega⟩
    refine ⟨?_, ?_⟩
    · unfold wkN
      rw [if_pos hl]
      simp
    · rw [(dF_root (arcs_ok hok) ht.1 ht.2).2]
      simp
  | @hop v a p ha hf hne2 hi hd hp ih =>
    intro ns k hne hl hnd hk
    simp at hk
    obtain ⟨j, rfl⟩ : ∃ j, k = j + 1 := ⟨k - 1, by omega⟩
    have he := hp.ends.1
    obtain ⟨q, rfl⟩ : ∃ q, p = a.t :: q := by
      cases p with
      | nil => simp at he
      | cons x q => simp at he; exact ⟨q, by rw [he]⟩
    rw [List.tail_cons] at hnd ⊢
    have e : ns ++ a.t :: q = (ns ++ [a.t]) ++ q := by simp
    have hnt : a.t ∉ ns := fun hm => by
      rw [List.nodup_append] at hnd
      exact hnd.2.2 a.t hm a.t (by simp) rfl
    have h2 := ih (ns ++ [a.t]) j (by simp) (lastN_app _ _) (by rw [List.tail_cons, ← e]; exact hnd) (by omega)
    rw [List.tail_cons, ← e] at h2
    refine ⟨?_, ?_⟩
    · unfold wkN
      rw [if_neg (by rw [hl]; exact fun e => hne2 e.symm)]
      exact List.mem_flatMap.2 ⟨a.t, nxtN_mem.2 ⟨⟨a, ha, by rw [hl]; exact hf, rfl⟩, hnt⟩, h2.1⟩
    · rw [h2.2, pcost_app hne, hl, ← hf, cst_arc (arcsB_sorted hok) ha]
      rw [hf]
      omega
theorem isF_nodes {l : List Arc} (hok : arcsB none l = true) {a b : Int} (hne : a ≠ b) (h : isF l a b = true) : a ∈ nodesM l ∧ b ∈ nodesM l := by
  have hl := arcs_ok hok
  have hs := arcsB_sorted hok
  have hr := isF_range hl h
  obtain ⟨x, hx, hf, _⟩ := hop_step hl hs h (fun e => hne e.symm)
  refine ⟨(nodesM_mem hl).2 ⟨x, hx, .inl hf⟩, ?_⟩
  have key : ∀ {v c : Int}, Wk l a v c → v ≠ a → v ∈ nodesM l := fun k hv => by
    cases k with
    | refl => exact absurd rfl hv
    | step _ ha _ => exact (nodesM_mem hl).2 ⟨_, ha, .inr rfl⟩
  exact key (isF_wk hl h) (fun e => hne e.symm)
theorem way_nodes {l : List Arc} (hok : arcsB none l = true) {td v : Int} {p : List Int} (h : HWay l td v p) (ht : td ∈ nodesM l) : ∀ u ∈ p, u ∈ nodesM l := by
  induction h with
  | here => intro u hu; rw [List.mem_singleton.1 hu]; exact ht
  | @hop v a p ha hf hne hi hd hp ih =>
    intro u hu
    rcases List.mem_cons.1 hu with rfl | hu
    · exact (nodesM_mem (arcs_ok hok)).2 ⟨a, ha, .inl hf⟩
    · exact ih u hu
theorem way_ex {l : List Arc} (hok : arcsB none l = true) (h8 : (nodesM l).length ≤ 8) {a b : Int} (hne : a ≠ b) (h : isF l a b = true) : ∃ p ∈ wkN l b 9 [a], pcost l p = dF l a b := by
  have hl := arcs_ok hok
  have hw := hops_way hl (arcsB_sorted hok) h
  have hr := isF_range hl h
  have hnd := hw.nodup hl
  have hsub := way_nodes hok hw (isF_nodes hok hne h).2
  have hlen := List.Nodup.length_le_of_subset hnd (fun v hv => hsub v hv)
  have he := hw.ends.1
  generalize hopsF l b 64 a = p at hw hnd hsub hlen he
  obtain ⟨q, rfl⟩ : ∃ q, p = a :: q := by
    cases p with
    | nil => simp at he
    | cons x q => simp at he; exact ⟨q, by rw [he]⟩
  have := way_in hok ⟨hr.2.2.1, hr.2.2.2⟩ hw [a] 9 (by simp) rfl (by simpa using hnd) (by omega)
  refine ⟨_, this.1, ?_⟩
  rw [this.2]
  show 0 + _ = _
  omega
theorem wk_dist {l : List Arc} (hok : arcsB none l = true) {a b : Int} (ha : a ∈ nodesM l) : ∀ p ∈ wkN l b 9 [a], isF l a b = true ∧ dF l a b ≤ pcost l p := fun p hp => by
  have hl := arcs_ok hok
  have hr := nodesM_rng hl ha
  exact wk_isF hl (.inl hr) (wkN_wk hok 9 [a] (by simp) .refl p hp)
theorem allP_mem {l : List Arc} {a b : Int} {x : Pth} : x ∈ allP l a b ↔ ∃ p ∈ wkN l b 9 [a], x = mkP l p := by
  unfold allP
  rw [(srtW_perm _).mem_iff, List.mem_map]
  exact ⟨fun ⟨p, h1, h2⟩ => ⟨p, h1, h2.symm⟩, fun ⟨p, h1, h2⟩ => ⟨p, h1, h2.symm⟩⟩
structure PathF (l : List Arc) (x : Pth) : Prop where
  c : x.c = pcost l x.ns
  ne : x.ns ≠ []
  len : x.ns.length ≤ 64
  hd : ∃ v, x.ns[0]? = some v ∧ (nodesV l).contains v = true
  ch : chainB l x.ns = true
theorem paths_first {l : List Arc} {a b m : Int} (hok : arcsB none l = true) (h8 : (nodesM l).length ≤ 8) (hne : a ≠ b) (hm : 1 ≤ m) :
    dstB l a b = decide (0 < (pathsM l a b m).length) ∧ (∀ x, (pathsM l a b m)[0]? = some x → x.c = dstM l a b) ∧ (∀ x ∈ pathsM l a b m, PathF l x) ∧ ∀ i x y, (pathsM l a b m)[i]? = some x → (pathsM l a b m)[i + 1]? = some y → x.c ≤ y.c := by
  have hl := arcs_ok hok
  have hnv : nodesV l = nodesM l := by unfold nodesV; rw [if_pos hok]
  have hd : dstB l a b = isF l a b := by unfold dstB; rw [hok]; rfl
  cases hg : goodK l a b m with
  | false =>
    have hp : pathsM l a b m = [] := by unfold pathsM; rw [hg]; rfl
    rw [hp]
    refine ⟨?_, fun x h => by simp at h, fun x h => by simp at h, fun i x y h => by simp at h⟩
    rw [hd]
    cases hf : isF l a b with
    | false => rfl
    | true =>
      exfalso
      have hn := isF_nodes hok hne hf
      have : goodK l a b m = true := by
        unfold goodK
        rw [hnv]
        simp only [Bool.and_eq_true, bne_iff_ne, decide_eq_true_eq, List.contains_iff_mem]
        exact ⟨⟨⟨hne, hm⟩, h8⟩, hn.1, hn.2⟩
      rw [hg] at this
      cases this
  | true =>
    have hgs := good_spec hg
    have hp : pathsM l a b m = (allP l a b).take (min (allP l a b).length (min m.toNat 20)) := by unfold pathsM; rw [hg, if_pos rfl]
    rw [hp]
    have hsub : ∀ x ∈ (allP l a b).take (min (allP l a b).length (min m.toNat 20)), x ∈ allP l a b := fun x h => List.mem_of_mem_take h
    refine ⟨?_, fun x h => ?_, fun x h => ?_, fun i x y hx hy => ?_⟩
    · rw [hd, List.length_take, Bool.eq_iff_iff, decide_eq_true_eq]
      constructor
      · intro hf
        obtain ⟨p, hp1, _⟩ := way_ex hok h8 hne hf
        have := List.length_pos_of_mem (allP_mem.2 ⟨p, hp1, rfl⟩)
        omega
      · intro h0
        have h1 : 0 < (allP l a b).length := by omega
        obtain ⟨p, hp1, _⟩ := allP_mem.1 (List.getElem_mem h1)
        exact (wk_dist hok hgs.2.2.2.2.1 p hp1).1
    · have h0 : (allP l a b)[0]? = some x := by
        rw [List.getElem?_take] at h
        split at h
        · exact h
        · cases h
      obtain ⟨p, hp1, rfl⟩ := allP_mem.1 (List.mem_of_getElem? h0)
      obtain ⟨h1, h2⟩ := wk_dist hok hgs.2.2.2.2.1 p hp1
      obtain ⟨p2, hp2, hc2⟩ := way_ex hok h8 hne h1
      obtain ⟨t, ht⟩ : ∃ t, allP l a b = mkP l p :: t := by
        cases hall : allP l a b with
        | nil => rw [hall] at h0; simp at h0
        | cons z t => rw [hall] at h0; simp at h0; exact ⟨t, by rw [h0]⟩
      have h3 := srtW_min (l := (wkN l b 9 [a]).map (mkP l)) ht (List.mem_map.2 ⟨p2, hp2, rfl⟩)
      have h4 : dstM l a b = dF l a b := by unfold dstM; rw [hd, h1]; rfl
      rw [h4]
      show pcost l p = _
      have h5 : pcost l p ≤ pcost l p2 := h3
      omega
    · obtain ⟨p, hp1, rfl⟩ := allP_mem.1 (hsub x h)
      have hk := wkN_ok hl 9 [a] (one_ok hgs.2.2.2.2.1) p hp1
      obtain ⟨q, hq⟩ := wkN_pre 9 [a] p hp1
      refine ⟨rfl, hk.ne, by have := hk.len h8; show p.length ≤ 64; omega, ⟨a, by show p[0]? = some a; rw [hq]; rfl, ?_⟩, wkN_chain 9 [a] (by simp) rfl p hp1⟩
      rw [hnv, List.contains_iff_mem]
      exact hgs.2.2.2.2.1
    · rw [List.getElem?_take] at hx hy
      split at hx <;> try cases hx
      split at hy <;> try cases hy
      rename_i hi hj
      have hs : SrtP (allP l a b) := srtW_sorted _
      have e1 := List.getElem?_eq_some_iff.1 ‹(allP l a b)[i]? = some x›
      have e2 := List.getElem?_eq_some_iff.1 ‹(allP l a b)[i + 1]? = some y›
      obtain ⟨g1, rfl⟩ := e1
      obtain ⟨g2, rfl⟩ := e2
      exact orderP_le (ltP_not.1 (List.pairwise_iff_getElem.1 hs i (i + 1) g1 g2 (by omega)))
end A
end Go.Proofs.Ytmcannmjielalaa
