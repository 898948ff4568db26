/- Whatever the input, waymarklaw48.KpathFirst returns true, and each argument reads as it did. -/
import Derived.KernelRfl
import Derived.Test.YtmcannmjielalaaProg
import Derived.Test.YtmcannmjielalaaS13KpathFirst
set_option linter.unusedVariables false
set_option linter.unusedSimpArgs false
namespace Go.Proofs.Ytmcannmjielalaa
namespace A
theorem bo_4 : isBoolT Try.prog 4 = true := by kernel_rfl
theorem fd_98_0 : fieldOf Try.prog 98 0 = some (0, 1, false) := by kernel_rfl
theorem fd_98_1 : fieldOf Try.prog 98 1 = some (1, 1, false) := by kernel_rfl
theorem fd_98_2 : fieldOf Try.prog 98 2 = some (2, 1, false) := by kernel_rfl
theorem ref48_AllN {l : List Arc} {td : Int} (hok : arcsB none l = true) (hll : l.length ≤ 1000000) (h8 : (nodesM l).length ≤ 8) : ∀ (k : Nat) (ns : List Int) (out : List Pth), NsOk l ns → chainB l ns = true → 9 ≤ ns.length + k → out.length + facN (8 - ns.length) ≤ 1000000 → (∀ x ∈ out, x.ns.length ≤ 64) → Triple Try.prog 84 [.sl 3 (l.map arcC), .sl 1 (ns.map intA), .int td, .sl 2 (out.map pthC)] [] (Is (.sl 2 ((((wkN l td k ns).map (mkP l)).foldl insP out).map pthC)) [])
  | 0, ns, out, hns, _, hk, _, _ => by have := hns.len h8; omega
  | k + 1, ns, out, hns, hch, hk, hol, hob => ref48_AllO hok hll h8 hns hch hk hol hob (fun t o _ ht ho hob => ref48_AllN hok hll h8 k (ns ++ [t]) o (hns.nxt (arcs_ok hok) ht) (chain_add hns.ne hch ht) (by rw [List.length_append, List.length_singleton]; omega) (by rw [List.length_append, List.length_singleton]; exact ho) hob)
theorem Triple.args {P : Program} {f : FuncId} {args args' : List AV} {h : List HA} {Q : AV → List HA → Prop} (hc : ∀ F w vs, Reps F w args vs → Reps F w args' vs) (t : Triple P f args' h Q) : Triple P f args h Q := ⟨t.1, fun F w vs hr ha => t.2 F w vs hr (hc F w vs ha)⟩
theorem nil_arg {F : Nat → Prop} {w : World} {a b c : AV} {sz : Nat} {vs : Array Value} (h : Reps F w [a, b, c, .v (.slice none 0 0)] vs) : Reps F w [a, b, c, .sl sz []] vs := ⟨h.1, fun i av x hi hx => by
  match i with
  | 0 => exact h.2 0 av x hi hx
  | 1 => exact h.2 1 av x hi hx
  | 2 => exact h.2 2 av x hi hx
  | 3 =>
    have h3 := h.2 3 (.v (.slice none 0 0)) x rfl hx
    simp at hi
    subst hi
    cases h3
    exact .sl0 _ _ _
  | i + 4 => simp at hi⟩
theorem ref48_All {l : List Arc} {a b : Int} (hok : arcsB none l = true) (hll : l.length ≤ 1000000) (h8 : (nodesM l).length ≤ 8) (ha : a ∈ nodesM l) : Triple Try.prog 84 [.sl 3 (l.map arcC), .sl 1 (([a] : List Int).map intA), .int b, .v (.slice none 0 0)] [] (Is (.sl 2 ((allP l a b).map pthC)) []) :=
  (ref48_AllN hok hll h8 9 [a] [] (one_ok ha) rfl (by simp) (by show 0 + facN 7 ≤ 1000000; decide) (fun x hx => by simp at hx)).args fun F w vs h => nil_arg h
theorem allP_len {l : List Arc} {a b : Int} (hok : arcsB none l = true) (h8 : (nodesM l).length ≤ 8) (ha : a ∈ nodesM l) : (allP l a b).length ≤ 5040 := by
  unfold allP
  rw [(srtW_perm _).length_eq, List.length_map]
  exact wkN_len hok h8 b 9 [a] (one_ok ha)
theorem allP_ns {l : List Arc} {a b : Int} (hok : arcsB none l = true) (h8 : (nodesM l).length ≤ 8) (ha : a ∈ nodesM l) : ∀ x ∈ allP l a b, x.ns.length ≤ 64 := fun x hx => by
  obtain ⟨p, hp, rfl⟩ := allP_mem.1 hx
  have := (wkN_ok (arcs_ok hok) 9 [a] (one_ok ha) p hp).len h8
  show p.length ≤ 64
  omega
def nodesR (l : List Arc) (m : Nat) : List Int := ((List.range m).map fun (i : Nat) => ((i + 1 : Nat) : Int)).filter fun v => l.any (endP v)
theorem nodesR_step {l : List Arc} {m : Nat} : nodesR l (m + 1) = nodesR l m ++ if l.any (endP ((m + 1 : Nat) : Int)) then [((m + 1 : Nat) : Int)] else [] := by
  unfold nodesR
  rw [rng_step, List.filter_append]
  congr 1
  rw [List.filter_cons]
  cases l.any (endP ((m + 1 : Nat) : Int)) <;> rfl
theorem nodesR_len (l : List Arc) (m : Nat) : (nodesR l m).length ≤ m := by
  unfold nodesR
  refine Nat.le_trans (List.length_filter_le _ _) ?_
  simp
theorem nodesR_eq {l : List Arc} (hl : ∀ a ∈ l, AOk a) : nodesR l 64 = nodesM l := by
  refine srt_ext (r := fun x y : Int => x < y) (fun a => by omega) (fun a b c h1 h2 => by omega) ?_ (nodesM_sorted l) (fun v => ?_)
  · refine List.Pairwise.filter _ ?_
    rw [List.pairwise_map]
    exact List.pairwise_lt_range.imp (fun h => by omega)
  · unfold nodesR
    rw [List.mem_filter, mem_rng, nodesM_mem hl]
    constructor
    · rintro ⟨_, h⟩
      obtain ⟨a, ha, h⟩ := List.any_eq_true.1 h
      unfold endP at h
      simp at h
      exact ⟨a, ha, by omega⟩
    · rintro ⟨a, ha, h⟩
      have := hl a ha
      unfold AOk at this
      exact ⟨by omega, List.any_eq_true.2 ⟨a, ha, by unfold endP; simp; omega⟩⟩
theorem good_iff {l : List Arc} {a b m : Int} : goodK l a b m = true ↔ arcsB none l = true ∧ (nodesR l 64).length ≤ 8 ∧ a ≠ b ∧ 1 ≤ m ∧ (nodesR l 64).contains a = true ∧ (nodesR l 64).contains b = true := by
  unfold goodK nodesV
  cases h : arcsB none l with
  | false => simp
  | true =>
    rw [nodesR_eq (arcs_ok h), if_pos rfl]
    simp only [Bool.and_eq_true, bne_iff_ne, decide_eq_true_eq, true_and]
    constructor
    · rintro ⟨⟨⟨h1, h2⟩, h3⟩, h4, h5⟩; exact ⟨h3, h1, h2, h4, h5⟩
    · rintro ⟨h3, h1, h2, h4, h5⟩; exact ⟨⟨⟨h1, h2⟩, h3⟩, h4, h5⟩
def trR (a : Int) (m : Nat) : List Arc := (((List.range m).map fun (i : Nat) => ((i + 1 : Nat) : Int)).filter fun b => a != b).map fun b => ⟨a, b, 1⟩
def trL (n : Nat) : List Arc := ((List.range n).map fun (i : Nat) => ((i + 1 : Nat) : Int)).flatMap fun a => trR a 3
theorem trR_step {a : Int} {m : Nat} : trR a (m + 1) = trR a m ++ if a != ((m + 1 : Nat) : Int) then [⟨a, ((m + 1 : Nat) : Int), 1⟩] else [] := by
  unfold trR
  rw [rng_step, List.filter_append, List.map_append]
  congr 1
  rw [List.filter_cons]
  cases a != ((m + 1 : Nat) : Int) <;> rfl
theorem trL_step {n : Nat} : trL (n + 1) = trL n ++ trR ((n + 1 : Nat) : Int) 3 := by
  unfold trL
  rw [rng_step, List.flatMap_append]
  congr 1
  simp
theorem trR_len (a : Int) (m : Nat) : (trR a m).length ≤ m := by
  unfold trR
  rw [List.length_map]
  refine Nat.le_trans (List.length_filter_le _ _) ?_
  simp
theorem trL_len (n : Nat) (h : n ≤ 3) : (trL n).length ≤ n * 3 := by
  unfold trL
  have := flat_len2 (f := fun a => trR a 3) (m := 3) ((List.range n).map fun (i : Nat) => ((i + 1 : Nat) : Int)) (fun a _ => trR_len a 3)
  simpa using this
def twoP : List Pth := [⟨[1, 2], 1⟩, ⟨[1, 3, 2], 2⟩]
theorem tr_paths : pathsM (trL 3) 1 2 5 = twoP := by decide +kernel
/- waymarkref48.Same -/
def ref48_Same_r6_T : Bool × List (List Nat × List Nat) := (true, [([], []), ([], []), ([0, 1], [0, 1]), ([2], [2]), ([3], [3]), ([], []), ([], []), ([5, 6], [5, 6]), ([7], [7]), ([8], [8]), ([4, 9], [4, 9]), ([10], [10]), ([11], [11]), ([11], [11]), ([12, 13, 11], [11, 12, 13]), ([14, 11], [11, 14]), ([15, 11], [11, 15]), ([16, 11], [11, 16]), ([11], [11]), ([11], [11]), ([18, 19, 11], [11, 18, 19]), ([20, 11], [11, 20]), ([21, 11], [11, 21]), ([22, 11], [11, 22]), ([17, 23, 11], [11, 17, 23]), ([11, 24], [11, 24])])
def ref48_Same_r6_B : List Nat := [0, 0, 3, 7, 15, 0, 0, 96, 224, 480, 1023, 2047, 4095, 4095, 16383, 32767, 65535, 131071, 4095, 4095, 790527, 1839103, 3936255, 8130559, 16777215, 33554431]
theorem ref48_Same_r6_t : Go.Proofs.YtmcannmjielalaaW.PrintLast.rtab .any (Go.Proofs.YtmcannmjielalaaW.PrintLast.opsOf Try.f85 6) = ref48_Same_r6_T := by kernel_rfl
theorem ref48_Same_r6_b : Go.Proofs.YtmcannmjielalaaW.PrintLast.waitsOk ref48_Same_r6_T.2 ref48_Same_r6_B = true := by kernel_rfl
def ref48_Same_r11_T : Bool × List (List Nat × List Nat) := (true, [([], []), ([], []), ([0, 1], [0, 1]), ([2], [2]), ([3], [3]), ([], []), ([4, 5], [4, 5]), ([6], [6]), ([], []), ([], []), ([8, 9], [8, 9]), ([10], [10]), ([11], [11]), ([], []), ([12, 13], [12, 13]), ([14], [14]), ([7, 15], [7, 15])])
def ref48_Same_r11_B : List Nat := [0, 0, 3, 7, 15, 0, 63, 127, 0, 0, 768, 1792, 3840, 0, 16128, 32512, 65535]
theorem ref48_Same_r11_t : Go.Proofs.YtmcannmjielalaaW.PrintLast.rtab .any (Go.Proofs.YtmcannmjielalaaW.PrintLast.opsOf Try.f85 11) = ref48_Same_r11_T := by kernel_rfl
theorem ref48_Same_r11_b : Go.Proofs.YtmcannmjielalaaW.PrintLast.waitsOk ref48_Same_r11_T.2 ref48_Same_r11_B = true := by kernel_rfl
set_option maxRecDepth 100000 in
set_option maxHeartbeats 2000000 in
theorem ref48_Same {a b : List Pth} (ha : a.length ≤ 1000000) (hb : b.length ≤ 1000000) (hna : ∀ x ∈ a, x.ns.length ≤ 64) : Triple Try.prog 85 [.sl 2 (a.map pthC), .sl 2 (b.map pthC)] [] (Is (.v (.bool (decide (a = b)))) []) := by
  refine triple_of Try.func85 rfl (by kernel_rfl) rfl (by simp) ?_
  refine aSeq ?_
  refine aReg ?_
  refine sp pMa ?_
  refine oNil ?_
  refine aSeq ?_
  refine aSeq ?_
  refine aReg ?_
  refine sp pM ?_
  refine sp (by first | exact pLm sl_99 | exact pLs sl_99) ?_
  refine sp pM ?_
  refine sp (by first | exact pLm sl_99 | exact pLs sl_99) ?_
  refine sp pB ?_
  refine oNil ?_
  refine aCondNe rfl (fun c11 => ?_) (fun c11 => ?_)
  · skip
    refine aSeq ?_
    refine aReg ?_
    refine sp pMa ?_
    refine oNil ?_
    refine aRet ?_
    refine finIs rfl ?_
    rw [decide_eq_false (fun e => by subst e; simp at *)]
    try rfl
  · skip
    refine aSkip ?_
    refine aSeq ?_
    refine aSeq ?_
    refine aReg ?_
    refine sp pMa ?_
    refine oNil ?_
    refine aBlock ?_
    refine loopF (α := Nat) (kept := [(0, _), (1, _)]) (fun i => i ≤ a.length ∧ a.length = b.length ∧ a.take i = b.take i) (fun i => [(5, .int i)]) (fun i => []) (fun i => a.length - i) 0 ?_ ⟨gInt rfl (by first | rfl | omega | simp), rfl, rfl, trivial⟩ (by repeat constructor) ?_
    · skip
      exact ⟨by omega, by omega, rfl⟩
    · rintro i ⟨hi, hl, hv⟩
      refine aSeq ?_
      refine aSeq ?_
      refine aReg ?_
      refine sp pM ?_
      refine sp pM ?_
      refine sp (by first | exact pLm sl_99 | exact pLs sl_99) ?_
      refine sp pB ?_
      refine oNil ?_
      refine aCondDec rfl (fun c15 => ?_) (fun c15 => ?_)
      · skip
        refine aSkip ?_
        refine aSeq ?_
        refine aBlock ?_
        refine aSeq ?_
        refine aSeq ?_
        obtain ⟨x, hx⟩ : ∃ z, a[i]? = some z := ⟨_, List.getElem?_eq_getElem (by omega)⟩
        obtain ⟨y, hy⟩ : ∃ z, b[i]? = some z := ⟨_, List.getElem?_eq_getElem (by omega)⟩
        have hxn := hna x (List.mem_of_getElem? hx)
        refine aDrawT ref48_Same_r6_t ref48_Same_r6_b [] 26 #[false, false, false, false, false, false, false, false, false, false, false, false, false, false, false, false, false, false, false, false, false, false, false, false, false, false] (by kernel_rfl) rfl rfl (fun HT => ?_)
        refine dp HT 0 rfl pM ?_
        refine dp HT 1 rfl pM ?_
        first | refine dp HT 2 rfl (pIx es_99) ?_ | (refine obtDN 18 19 rfl rfl (by omega) (fun x20 hx20 => ?_); refine dp HT 2 rfl (pIs es_99 hx20) ?_) | (refine obtD 18 19 rfl rfl (by omega) (by omega) (fun x20 hx20 => ?_); refine dp HT 2 rfl (pIs es_99 hx20) ?_) | refine dp HT 2 rfl (pIo es_99) ?_
        refine dp HT 3 rfl (pFs fd_125_1) ?_
        refine dr HT 4 rfl (rS1 ty_37) ?_
        refine dp HT 5 rfl pM ?_
        refine dp HT 6 rfl pM ?_
        first | refine dp HT 7 rfl (pIx es_99) ?_ | (refine obtDN 23 24 rfl rfl (by omega) (fun x25 hx25 => ?_); refine dp HT 7 rfl (pIs es_99 hx25) ?_) | (refine obtD 23 24 rfl rfl (by omega) (by omega) (fun x25 hx25 => ?_); refine dp HT 7 rfl (pIs es_99 hx25) ?_) | refine dp HT 7 rfl (pIo es_99) ?_
        refine dp HT 8 rfl (pFs fd_125_1) ?_
        refine dr HT 9 rfl (rS1 ty_37) ?_
        refine dp HT 10 rfl pB ?_
        refine dp HT 11 rfl pM ?_
        refine dSplitNe 29 rfl (fun c29 => ?_) (fun c29 => ?_)
        · skip
          refine dS HT 12 rfl ?_
          refine dS HT 13 rfl ?_
          refine dS HT 14 rfl ?_
          refine dS HT 15 rfl ?_
          refine dS HT 16 rfl ?_
          refine dS HT 17 rfl ?_
          refine dS HT 18 rfl ?_
          refine dS HT 19 rfl ?_
          refine dS HT 20 rfl ?_
          refine dS HT 21 rfl ?_
          refine dS HT 22 rfl ?_
          refine dS HT 23 rfl ?_
          refine dS HT 24 rfl ?_
          refine dp HT 25 rfl pK ?_
          refine dE HT ?_
          clear HT
          refine aCondT rfl ?_
          refine aSeq ?_
          refine aReg ?_
          refine sp pMa ?_
          refine oNil ?_
          refine aRet ?_
          refine finIs rfl ?_
          rw [decide_eq_false (fun e => by subst e; obtain rfl := Option.some.inj (hx.symm.trans hy); simp at *)]
          try rfl
        · skip
          refine dpG HT 12 rfl pM ?_
          refine dpG HT 13 rfl pM ?_
          first | refine dpG HT 14 rfl (pIx es_99) ?_ | (refine obtDN 30 31 rfl rfl (by omega) (fun x32 hx32 => ?_); refine dpG HT 14 rfl (pIs es_99 hx32) ?_) | (refine obtD 30 31 rfl rfl (by omega) (by omega) (fun x32 hx32 => ?_); refine dpG HT 14 rfl (pIs es_99 hx32) ?_) | refine dpG HT 14 rfl (pIo es_99) ?_
          refine dpG HT 15 rfl (pFs fd_125_0) ?_
          refine drG HT 16 rfl (rS1 ty_25) ?_
          refine dpG HT 17 rfl (by first | exact pLm sl_25 | exact pLs sl_25 | exact pLv sl_25) ?_
          refine dpG HT 18 rfl pM ?_
          refine dpG HT 19 rfl pM ?_
          first | refine dpG HT 20 rfl (pIx es_99) ?_ | (refine obtDN 36 37 rfl rfl (by omega) (fun x38 hx38 => ?_); refine dpG HT 20 rfl (pIs es_99 hx38) ?_) | (refine obtD 36 37 rfl rfl (by omega) (by omega) (fun x38 hx38 => ?_); refine dpG HT 20 rfl (pIs es_99 hx38) ?_) | refine dpG HT 20 rfl (pIo es_99) ?_
          refine dpG HT 21 rfl (pFs fd_125_0) ?_
          refine drG HT 22 rfl (rS1 ty_25) ?_
          refine dpG HT 23 rfl (by first | exact pLm sl_25 | exact pLs sl_25 | exact pLv sl_25) ?_
          refine dpG HT 24 rfl pB ?_
          refine dp HT 25 rfl pK ?_
          refine dE HT ?_
          clear HT
          refine aCondNe rfl (fun c43 => ?_) (fun c43 => ?_)
          · skip
            refine aSeq ?_
            refine aReg ?_
            refine sp pMa ?_
            refine oNil ?_
            refine aRet ?_
            refine finIs rfl ?_
            rw [decide_eq_false (fun e => by subst e; obtain rfl := Option.some.inj (hx.symm.trans hy); simp at *)]
            try rfl
          · skip
            refine aSkip ?_
            refine aSeq ?_
            refine aReg ?_
            refine sp pMa ?_
            refine oNil ?_
            refine aBlock ?_
            refine loopF (α := Nat) (kept := [(0, _), (1, _), (5, _)]) (fun k => k ≤ x.ns.length ∧ x.ns.length = y.ns.length ∧ x.c = y.c ∧ x.ns.take k = y.ns.take k) (fun k => [(6, .int k)]) (fun k => []) (fun k => x.ns.length - k) 0 ?_ ⟨gInt rfl (by first | rfl | omega | simp), rfl, rfl, rfl, trivial⟩ (by repeat constructor) ?_
            · skip
              exact ⟨by omega, by omega, by first | assumption | simp_all, rfl⟩
            · rintro k ⟨hk, hl2, hc, hw⟩
              refine aSeq ?_
              refine aSeq ?_
              refine aReg ?_
              refine sp pM ?_
              refine sp pM ?_
              refine sp pM ?_
              first | refine sp (pIx es_99) ?_ | (refine obtSN 45 46 rfl rfl (by omega) (fun x47 hx47 => ?_); refine sp (pIs es_99 hx47) ?_) | (refine obtS 45 46 rfl rfl (by omega) (by omega) (fun x47 hx47 => ?_); refine sp (pIs es_99 hx47) ?_) | refine sp (pIo es_99) ?_
              refine sp (pFs fd_125_0) ?_
              refine sr (rS1 ty_25) ?_
              refine sp (by first | exact pLm sl_25 | exact pLs sl_25 | exact pLv sl_25) ?_
              refine sp pB ?_
              refine oNil ?_
              refine aCondDec rfl (fun c51 => ?_) (fun c51 => ?_)
              · skip
                refine aSkip ?_
                refine aSeq ?_
                refine aBlock ?_
                refine aSeq ?_
                obtain ⟨u, hu⟩ : ∃ z, x.ns[k]? = some z := ⟨_, List.getElem?_eq_getElem (by omega)⟩
                obtain ⟨v, hv⟩ : ∃ z, y.ns[k]? = some z := ⟨_, List.getElem?_eq_getElem (by omega)⟩
                refine aDrawT ref48_Same_r11_t ref48_Same_r11_b [] 17 #[false, false, false, false, false, false, false, false, false, false, false, false, false, false, false, false, false] (by kernel_rfl) rfl rfl (fun HT => ?_)
                refine dp HT 0 rfl pM ?_
                refine dp HT 1 rfl pM ?_
                first | refine dp HT 2 rfl (pIx es_99) ?_ | (refine obtDN 54 55 rfl rfl (by omega) (fun x56 hx56 => ?_); refine dp HT 2 rfl (pIs es_99 hx56) ?_) | (refine obtD 54 55 rfl rfl (by omega) (by omega) (fun x56 hx56 => ?_); refine dp HT 2 rfl (pIs es_99 hx56) ?_) | refine dp HT 2 rfl (pIo es_99) ?_
                refine dp HT 3 rfl (pFs fd_125_0) ?_
                refine dr HT 4 rfl (rS1 ty_25) ?_
                refine dp HT 5 rfl pM ?_
                first | refine dp HT 6 rfl (pIx es_25) ?_ | (refine obtDN 58 59 rfl rfl (by omega) (fun x60 hx60 => ?_); refine dp HT 6 rfl (pIs es_25 hx60) ?_) | (refine obtD 58 59 rfl rfl (by omega) (by omega) (fun x60 hx60 => ?_); refine dp HT 6 rfl (pIs es_25 hx60) ?_) | refine dp HT 6 rfl (pIo es_25) ?_
                refine dr HT 7 rfl (by first | exact rS1 ty_3 | exact rB1 ty_3 | exact rAr ty_3 | exact rArL ty_3 | exact rArR2 ty_3) ?_
                refine dp HT 8 rfl pM ?_
                refine dp HT 9 rfl pM ?_
                first | refine dp HT 10 rfl (pIx es_99) ?_ | (refine obtDN 62 63 rfl rfl (by omega) (fun x64 hx64 => ?_); refine dp HT 10 rfl (pIs es_99 hx64) ?_) | (refine obtD 62 63 rfl rfl (by omega) (by omega) (fun x64 hx64 => ?_); refine dp HT 10 rfl (pIs es_99 hx64) ?_) | refine dp HT 10 rfl (pIo es_99) ?_
                refine dp HT 11 rfl (pFs fd_125_0) ?_
                refine dr HT 12 rfl (rS1 ty_25) ?_
                refine dp HT 13 rfl pM ?_
                first | refine dp HT 14 rfl (pIx es_25) ?_ | (refine obtDN 66 67 rfl rfl (by omega) (fun x68 hx68 => ?_); refine dp HT 14 rfl (pIs es_25 hx68) ?_) | (refine obtD 66 67 rfl rfl (by omega) (by omega) (fun x68 hx68 => ?_); refine dp HT 14 rfl (pIs es_25 hx68) ?_) | refine dp HT 14 rfl (pIo es_25) ?_
                refine dr HT 15 rfl (by first | exact rS1 ty_3 | exact rB1 ty_3 | exact rAr ty_3 | exact rArL ty_3 | exact rArR2 ty_3) ?_
                refine dp HT 16 rfl pB ?_
                refine dE HT ?_
                clear HT
                refine aCondNe rfl (fun c70 => ?_) (fun c70 => ?_)
                · skip
                  refine aSeq ?_
                  refine aReg ?_
                  refine sp pMa ?_
                  refine oNil ?_
                  refine aRet ?_
                  refine finIs rfl ?_
                  rw [decide_eq_false (fun e => by subst e; obtain rfl := Option.some.inj (hx.symm.trans hy); obtain rfl := Option.some.inj (hu.symm.trans hv); simp at *)]
                  try rfl
                · skip
                  refine aSkip ?_
                  refine aReg ?_
                  refine sp pM ?_
                  refine sp pAd ?_
                  refine sp pMa ?_
                  refine oNil ?_
                  refine ⟨k + 1, ?_, by (try dsimp only); omega, ⟨gInt rfl (by first | rfl | omega | simp), rfl, rfl, rfl, trivial⟩, _, (by repeat constructor)⟩
                  have huv : u = v := by first | assumption | simp_all
                  exact ⟨by omega, hl2, hc, by rw [take_step hu, take_step hv, hw, huv]⟩
              · skip
                refine aExit rfl ?_
                refine aReg ?_
                refine sp pM ?_
                refine sp pAd ?_
                refine sp pMa ?_
                refine oNil ?_
                refine ⟨i + 1, ?_, by (try dsimp only); omega, ⟨gInt rfl (by first | rfl | omega | simp), rfl, rfl, trivial⟩, _, (by repeat constructor)⟩
                have hxy : x = y := by
                  rw [take_all (by omega), take_all (by omega)] at hw
                  cases x
                  cases y
                  simp_all
                exact ⟨by omega, hl, by rw [take_step hx, take_step hy, hv, hxy]⟩
      · skip
        refine aExit rfl ?_
        refine aSeq ?_
        refine aReg ?_
        refine sp pMa ?_
        refine oNil ?_
        refine aRet ?_
        refine finIs rfl ?_
        rw [take_all (by omega), take_all (by omega)] at hv
        rw [decide_eq_true hv]
        rfl
/- waymarkref24.Nodes -/
set_option maxRecDepth 100000 in
set_option maxHeartbeats 1000000 in
theorem ref24_NodesR {l : List Arc} (hl : l.length ≤ 1000000 := by omega) : Triple Try.prog 36 [.sl 3 (l.map arcC)] [] (Own 3 1 ((nodesR l 64).map intA) []) := by
  refine triple_of Try.func36 rfl (by kernel_rfl) rfl (by simp) ?_
  refine aSeq ?_
  refine aReg ?_
  refine sp pMa ?_
  refine oNil ?_
  refine aSeq ?_
  refine aReg ?_
  refine sq ?_
  refine qLit (l := []) rfl rfl (by decide) us_25 ty_3 ze_3 rfl (by decide) (by decide) rfl rfl rfl (fun b7 => ?_)
  refine sp pMa ?_
  refine oNil ?_
  refine aSeq ?_
  refine aSeq ?_
  refine aReg ?_
  refine sp pMa ?_
  refine oNil ?_
  refine aBlock ?_
  refine loopF (α := Nat × List Int × Option Nat × Nat) (kept := [(0, _)]) (fun (n, out, g, c) => n ≤ 64 ∧ out = nodesR l n) (fun (n, out, g, c) => [(4, .int ((n + 1 : Nat) : Int)), (3, .v (slV g out.length c))]) (fun (n, out, g, c) => [.sl g c 3 1 (out.map intA)]) (fun (n, out, g, c) => 64 - n) (0, [], _, _) ?_ ⟨gInt rfl (by first | rfl | omega | simp), gLen rfl (by first | rfl | simp | (simp; omega)), rfl, trivial⟩ (by repeat constructor) ?_
  · skip
    exact ⟨by omega, rfl⟩
  · rintro ⟨n, out, g, c⟩ ⟨hn, ho⟩
    refine aSeq ?_
    refine aSeq ?_
    refine aReg ?_
    refine sp pM ?_
    refine sp pB ?_
    refine oNil ?_
    refine aCondDec rfl (fun c9 => ?_) (fun c9 => ?_)
    · skip
      refine aSkip ?_
      refine aSeq ?_
      refine aBlock ?_
      refine aSeq ?_
      refine aReg ?_
      refine sp pMa ?_
      refine oNil ?_
      refine aSeq ?_
      refine aSeq ?_
      refine aReg ?_
      refine sp pMa ?_
      refine oNil ?_
      refine aBlock ?_
      refine loopF (α := Nat × Bool) (kept := [(0, _), (3, _), (4, _)]) (fun (i, q) => i ≤ l.length ∧ q = (l.take i).any (endP ((n + 1 : Nat) : Int))) (fun (i, q) => [(6, .int i), (5, .v (.bool q))]) (fun (i, q) => []) (fun (i, q) => l.length - i) (0, false) ?_ ⟨gInt rfl (by first | rfl | omega | simp), rfl, rfl, rfl, rfl, trivial⟩ (by repeat constructor) ?_
      · skip
        exact ⟨by omega, rfl⟩
      · rintro ⟨i, q⟩ ⟨hi, hv⟩
        refine aSeq ?_
        refine aSeq ?_
        refine aReg ?_
        refine sp pM ?_
        refine sp pM ?_
        refine sp (by first | exact pLm sl_22 | exact pLs sl_22) ?_
        refine sp pB ?_
        refine oNil ?_
        refine aCondDec rfl (fun c15 => ?_) (fun c15 => ?_)
        · skip
          refine aSkip ?_
          refine aSeq ?_
          refine aBlock ?_
          obtain ⟨a, ha⟩ : ∃ z, l[i]? = some z := ⟨_, List.getElem?_eq_getElem (by omega)⟩
          refine aReg ?_
          refine sp pM ?_
          refine sp pM ?_
          refine oSplit 19 rfl (fun c19 => ?_) (fun c19 => ?_)
          · skip
            refine gf ?_
            refine gf ?_
            refine gf ?_
            refine gf ?_
            refine gf ?_
            refine gf ?_
            refine gf ?_
            refine sp pK ?_
            refine sp pM ?_
            refine gf ?_
            refine gf ?_
            refine gf ?_
            refine gf ?_
            refine gf ?_
            refine gf ?_
            refine gf ?_
            refine sp pK ?_
            refine sp pMa ?_
            refine oNil ?_
            refine aReg ?_
            refine sp pM ?_
            refine sp pAd ?_
            refine sp pMa ?_
            refine oNil ?_
            refine ⟨(i + 1, _), ?_, by (try dsimp only); omega, ⟨gInt rfl (by first | rfl | omega | simp), rfl, rfl, rfl, rfl, trivial⟩, _, (by repeat constructor)⟩
            refine ⟨by omega, ?_⟩
            rw [any_take24 ha, ← hv]
            clear hv
            simp_all [endP]
          · skip
            refine gp pM ?_
            refine gp pM ?_
            first | refine gp (pIx es_22) ?_ | (refine obtSN 20 21 rfl rfl (by omega) (fun x22 hx22 => ?_); refine gp (pIs es_22 hx22) ?_) | (refine obtS 20 21 rfl rfl (by omega) (by omega) (fun x22 hx22 => ?_); refine gp (pIs es_22 hx22) ?_) | refine gp (pIo es_22) ?_
            refine gp (pFs fd_36_0) ?_
            refine gr (rS1 ty_3) ?_
            refine gp pM ?_
            refine gp pB ?_
            refine sp pK ?_
            refine sp pM ?_
            refine oSplitEq 28 rfl (fun c28 => ?_) (fun c28 => ?_)
            · skip
              refine gf ?_
              refine gf ?_
              refine gf ?_
              refine gf ?_
              refine gf ?_
              refine gf ?_
              refine gf ?_
              refine sp pK ?_
              refine sp pMa ?_
              refine oNil ?_
              refine aReg ?_
              refine sp pM ?_
              refine sp pAd ?_
              refine sp pMa ?_
              refine oNil ?_
              refine ⟨(i + 1, _), ?_, by (try dsimp only); omega, ⟨gInt rfl (by first | rfl | omega | simp), rfl, rfl, rfl, rfl, trivial⟩, _, (by repeat constructor)⟩
              refine ⟨by omega, ?_⟩
              rw [any_take24 ha, ← hv]
              clear hv
              simp_all [endP]
            · skip
              refine gp pM ?_
              refine gp pM ?_
              first | refine gp (pIx es_22) ?_ | (refine obtSN 29 30 rfl rfl (by omega) (fun x31 hx31 => ?_); refine gp (pIs es_22 hx31) ?_) | (refine obtS 29 30 rfl rfl (by omega) (by omega) (fun x31 hx31 => ?_); refine gp (pIs es_22 hx31) ?_) | refine gp (pIo es_22) ?_
              refine gp (pFs fd_36_1) ?_
              refine gr (rS1 ty_3) ?_
              refine gp pM ?_
              refine gp pB ?_
              refine sp pK ?_
              refine sp pMa ?_
              refine oNil ?_
              refine aReg ?_
              refine sp pM ?_
              refine sp pAd ?_
              refine sp pMa ?_
              refine oNil ?_
              refine ⟨(i + 1, _), ?_, by (try dsimp only); omega, ⟨gInt rfl (by first | rfl | omega | simp), rfl, rfl, rfl, rfl, trivial⟩, _, (by repeat constructor)⟩
              refine ⟨by omega, ?_⟩
              rw [any_take24 ha, ← hv]
              clear hv
              simp_all [endP]
        · skip
          refine aExit rfl ?_
          refine aSeq ?_
          refine aReg ?_
          refine sp pM ?_
          refine oNil ?_
          refine aCond rfl (fun c37 => ?_) (fun c37 => ?_)
          · skip
            refine aReg ?_
            refine sp pM ?_
            refine sp pM ?_
            refine sq ?_
            refine qLit (l := [_]) rfl rfl (by decide) us_25 ty_3 ze_3 rfl (by decide) (by decide) rfl rfl rfl (fun b40 => ?_)
            have hol : out.length ≤ 1000 := by have := nodesR_len l n; rw [ho]; omega
            refine sa ?_
            refine oAppT [_] rfl rfl (by repeat constructor) (srcOwn rfl (by repeat constructor) rfl) el_25 sl_25 (fun g41 k41 => ?_)
            refine sp pMa ?_
            refine oNil ?_
            refine aReg ?_
            refine sp pM ?_
            refine sp pAd ?_
            refine sp pMa ?_
            refine oNil ?_
            refine ⟨(n + 1, _, _, _), ?_, by (try dsimp only); omega, ⟨gInt rfl (by first | rfl | omega | simp), gLen rfl (by first | rfl | simp | (simp; omega)), rfl, trivial⟩, _, (by repeat constructor)⟩
            obtain rfl : i = l.length := by omega
            rw [List.take_length] at hv
            refine ⟨by omega, ?_⟩
            rw [nodesR_step, ← ho]
            first
              | (rw [if_pos (by simp_all)]; done)
              | (rw [if_neg (by simp_all), List.append_nil]; done)
          · skip
            refine aSkip ?_
            refine aReg ?_
            refine sp pM ?_
            refine sp pAd ?_
            refine sp pMa ?_
            refine oNil ?_
            refine ⟨(n + 1, _, _, _), ?_, by (try dsimp only); omega, ⟨gInt rfl (by first | rfl | omega | simp), gLen rfl (by first | rfl | simp | (simp; omega)), rfl, trivial⟩, _, (by repeat constructor)⟩
            obtain rfl : i = l.length := by omega
            rw [List.take_length] at hv
            refine ⟨by omega, ?_⟩
            rw [nodesR_step, ← ho]
            first
              | (rw [if_pos (by simp_all)]; done)
              | (rw [if_neg (by simp_all), List.append_nil]; done)
    · skip
      refine aExit rfl ?_
      refine aSeq ?_
      refine aReg ?_
      refine sp pM ?_
      refine sp pMa ?_
      refine oNil ?_
      refine aRet ?_
      refine finOwn rfl ?_
      obtain rfl : n = 64 := by omega
      rw [ho]
theorem ref24_NodesR_s {l : List Arc} (hl : l.length ≤ 1000000 := by omega) : Triple Try.prog 36 [.sl 3 (l.map arcC)] [] (Is (.sl 1 ((nodesR l 64).map intA)) []) := (ref24_NodesR (l := l) hl).settle
/- waymarklaw48.awake -/
set_option maxRecDepth 100000 in
set_option maxHeartbeats 2000000 in
theorem law48_awake  : Triple Try.prog 82 [] [] (Is (.v (.bool true)) []) := by
  refine triple_of Try.func82 rfl (by kernel_rfl) rfl (by simp) ?_
  refine aSeq ?_
  refine aReg ?_
  refine sp pMa ?_
  refine oNil ?_
  refine aSeq ?_
  refine aReg ?_
  refine sq ?_
  refine qLit (l := []) rfl rfl (by decide) us_22 ty_36 ze_36 rfl (by decide) (by decide) rfl rfl rfl (fun b5 => ?_)
  refine sp pMa ?_
  refine oNil ?_
  refine aSeq ?_
  refine aSeq ?_
  refine aReg ?_
  refine sp pMa ?_
  refine oNil ?_
  refine aBlock ?_
  refine loopF (α := Nat × List Arc × Option Nat × Nat) (kept := []) (fun (a, base, g, c) => a ≤ 3 ∧ base = trL a) (fun (a, base, g, c) => [(2, .int ((a + 1 : Nat) : Int)), (1, .v (slV g base.length c))]) (fun (a, base, g, c) => [.sl g c 36 3 (base.map arcC)]) (fun (a, base, g, c) => 3 - a) (0, [], _, _) ?_ ⟨gInt rfl (by first | rfl | omega | simp), gLen rfl (by first | rfl | simp | (simp; omega)), trivial⟩ (by repeat constructor) ?_
  · skip
    exact ⟨by omega, rfl⟩
  · rintro ⟨a, base, g, c⟩ ⟨ha, hb⟩
    refine aSeq ?_
    refine aSeq ?_
    refine aReg ?_
    refine sp pM ?_
    refine sp pB ?_
    refine oNil ?_
    refine aCondDec rfl (fun c7 => ?_) (fun c7 => ?_)
    · skip
      refine aSkip ?_
      refine aSeq ?_
      refine aBlock ?_
      refine aSeq ?_
      refine aReg ?_
      refine sp pMa ?_
      refine oNil ?_
      refine aBlock ?_
      refine loopF (α := Nat × List Arc × Option Nat × Nat) (kept := [(2, _)]) (fun (b, out, g, c) => b ≤ 3 ∧ out = trL a ++ trR ((a + 1 : Nat) : Int) b) (fun (b, out, g, c) => [(3, .int ((b + 1 : Nat) : Int)), (1, .v (slV g out.length c))]) (fun (b, out, g, c) => [.sl g c 36 3 (out.map arcC)]) (fun (b, out, g, c) => 3 - b) (0, base, _, _) ?_ ⟨gInt rfl (by first | rfl | omega | simp), gLen rfl (by first | rfl | simp | (simp; omega)), rfl, trivial⟩ (by repeat constructor) ?_
      · skip
        exact ⟨by omega, by rw [hb]; simp [trR]⟩
      · rintro ⟨b, out, g, c⟩ ⟨hb2, ho⟩
        refine aSeq ?_
        refine aSeq ?_
        refine aReg ?_
        refine sp pM ?_
        refine sp pB ?_
        refine oNil ?_
        refine aCondDec rfl (fun c11 => ?_) (fun c11 => ?_)
        · skip
          refine aSkip ?_
          refine aSeq ?_
          refine aBlock ?_
          refine aSeq ?_
          refine aReg ?_
          refine sp pM ?_
          refine sp pM ?_
          refine sp pB ?_
          refine oNil ?_
          refine aCondNe rfl (fun c16 => ?_) (fun c16 => ?_)
          · skip
            have hbl := trL_len a (by omega)
            have hrl := trR_len ((a + 1 : Nat) : Int) b
            have hol : out.length ≤ 100 := by rw [ho, List.length_append]; omega
            refine aReg ?_
            refine sp pM ?_
            refine sp pM ?_
            refine sp pM ?_
            refine sp (pBuild rfl st_36 ze_36 rfl rfl rfl rfl) ?_
            refine sq ?_
            refine qLit (l := [_]) rfl rfl (by decide) us_22 ty_36 ze_36 rfl (by decide) (by decide) rfl rfl rfl (fun b21 => ?_)
            refine sa ?_
            refine oAppT ([⟨((a + 1 : Nat) : Int), ((b + 1 : Nat) : Int), 1⟩] : List Arc) rfl rfl (by repeat constructor) (srcOwn rfl (by repeat constructor) rfl) el_22 sl_22 (fun g22 k22 => ?_)
            refine sp pMa ?_
            refine oNil ?_
            refine aReg ?_
            refine sp pM ?_
            refine sp pAd ?_
            refine sp pMa ?_
            refine oNil ?_
            refine ⟨(b + 1, _, _, _), ?_, by (try dsimp only); omega, ⟨gInt rfl (by first | rfl | omega | simp), gLen rfl (by first | rfl | simp | (simp; omega)), rfl, trivial⟩, _, (by repeat constructor)⟩
            refine ⟨by omega, ?_⟩
            rw [trR_step, ← List.append_assoc, ← ho]
            first
              | (rw [if_pos (by rw [bne_iff_ne]; assumption)]; done)
              | (rw [if_neg (by simp_all)]; simp; done)
          · skip
            refine aSkip ?_
            refine aReg ?_
            refine sp pM ?_
            refine sp pAd ?_
            refine sp pMa ?_
            refine oNil ?_
            refine ⟨(b + 1, _, _, _), ?_, by (try dsimp only); omega, ⟨gInt rfl (by first | rfl | omega | simp), gLen rfl (by first | rfl | simp | (simp; omega)), rfl, trivial⟩, _, (by repeat constructor)⟩
            refine ⟨by omega, ?_⟩
            rw [trR_step, ← List.append_assoc, ← ho]
            first
              | (rw [if_pos (by rw [bne_iff_ne]; assumption)]; done)
              | (rw [if_neg (by simp_all)]; simp; done)
        · skip
          refine aExit rfl ?_
          refine aReg ?_
          refine sp pM ?_
          refine sp pAd ?_
          refine sp pMa ?_
          refine oNil ?_
          refine ⟨(a + 1, _, _, _), ?_, by (try dsimp only); omega, ⟨gInt rfl (by first | rfl | omega | simp), gLen rfl (by first | rfl | simp | (simp; omega)), trivial⟩, _, (by repeat constructor)⟩
          refine ⟨by omega, ?_⟩
          obtain rfl : b = 3 := by omega
          rw [trL_step, ho]
    · skip
      refine aExit rfl ?_
      refine aSeq ?_
      obtain rfl : a = 3 := by omega
      have hbl := trL_len 3 (by omega)
      rw [← hb] at hbl
      refine aWeak (weak_settle (k := 1) rfl (by repeat constructor) (by first | rfl | (simp; done) | (simp; omega) | (simp_all; done))) ?_
      refine aReg ?_
      rw [hb]
      refine sp pM ?_
      refine sq ?_
      refine ci rfl rfl rfl (kp_Paths (l := trL 3) (a := 1) (b := 2) (m := 5) (by decide)) ?_
      rw [tr_paths]
      refine sp pMa ?_
      refine oNil ?_
      refine aSeq ?_
      refine aReg ?_
      refine sp pM ?_
      refine sp (by first | exact pLm sl_99 | exact pLs sl_99 | exact pLv sl_99) ?_
      refine sp pB ?_
      refine sp pM ?_
      refine gp pM ?_
      have hp0 : twoP[(0 : Int).toNat]? = some ⟨[1, 2], 1⟩ := rfl
      have hp1 : twoP[(1 : Int).toNat]? = some ⟨[1, 3, 2], 2⟩ := rfl
      have hpl : twoP.length = 2 := rfl
      first | refine gp (pIx es_99) ?_ | refine gp (pIo es_99) ?_
      refine gp (by first | exact pFb fd_125_0 | exact pFs fd_125_0) ?_
      refine gr (by first | exact rS1 ty_25 | exact rB1 ty_25 | exact rAr ty_25 | exact rArL ty_25 | exact rArR2 ty_25) ?_
      refine gp (by first | exact pLm sl_25 | exact pLs sl_25 | exact pLv sl_25) ?_
      refine gp pB ?_
      refine sp pK ?_
      refine sp pM ?_
      refine gp pM ?_
      first | refine gp (pIx es_99) ?_ | refine gp (pIo es_99) ?_
      refine gp (by first | exact pFb fd_125_0 | exact pFs fd_125_0) ?_
      refine gr (by first | exact rS1 ty_25 | exact rB1 ty_25 | exact rAr ty_25 | exact rArL ty_25 | exact rArR2 ty_25) ?_
      refine gp (by first | exact pLm sl_25 | exact pLs sl_25 | exact pLv sl_25) ?_
      refine gp pB ?_
      refine sp pK ?_
      refine sp pM ?_
      refine gp pM ?_
      first | refine gp (pIx es_99) ?_ | refine gp (pIo es_99) ?_
      refine gp (by first | exact pFb fd_125_1 | exact pFs fd_125_1) ?_
      refine gr (by first | exact rS1 ty_37 | exact rB1 ty_37 | exact rAr ty_37 | exact rArL ty_37 | exact rArR2 ty_37) ?_
      refine gp pB ?_
      refine sp pK ?_
      refine sp pMa ?_
      refine oNil ?_
      refine aRet ?_
      refine finIs rfl ?_
      rfl
/- waymarklaw48.KpathPaths -/
def law48_KpathPaths_r1_T : Bool × List (List Nat × List Nat) := (true, [([], []), ([0], [0]), ([], []), ([2], [2]), ([], []), ([4], [4]), ([1, 0, 1], [1]), ([3, 6, 0, 1, 2, 3, 6], [3]), ([5, 7, 0, 1, 2, 3, 4, 5, 6, 7], [5])])
def law48_KpathPaths_r1_B : List Nat := [0, 1, 0, 4, 0, 16, 3, 79, 255]
theorem law48_KpathPaths_r1_t : Go.Proofs.YtmcannmjielalaaW.PrintLast.rtab .any (Go.Proofs.YtmcannmjielalaaW.PrintLast.opsOf Try.f17 1) = law48_KpathPaths_r1_T := by kernel_rfl
theorem law48_KpathPaths_r1_b : Go.Proofs.YtmcannmjielalaaW.PrintLast.waitsOk law48_KpathPaths_r1_T.2 law48_KpathPaths_r1_B = true := by kernel_rfl
set_option maxRecDepth 100000 in
set_option maxHeartbeats 2000000 in
theorem law48_KpathPaths {l : List Arc} {a b m : Int} (hll : l.length ≤ 9223372036854775807) : Triple Try.prog 17 [.sl 3 (l.map arcC), .agg [.int a, .int b, .int m]] [] (Is (.v (.bool true)) []) := by
  refine triple_of Try.func17 rfl (by kernel_rfl) rfl (by simp) ?_
  refine aSeq ?_
  refine aReg ?_
  refine sq ?_
  refine qBox rfl rfl (by decide) rfl rfl (fun b3 => ?_)
  refine sp pMa ?_
  refine oNil ?_
  refine aSeq ?_
  refine aDrawT law48_KpathPaths_r1_t law48_KpathPaths_r1_b [] 9 #[false, false, false, false, false, false, false, false, false] (by kernel_rfl) rfl rfl (fun HT => ?_)
  refine dp HT 0 rfl (pFb fd_98_0) ?_
  refine dr HT 1 rfl (rB1 ty_3) ?_
  refine dp HT 2 rfl (pFb fd_98_1) ?_
  refine dr HT 3 rfl (rB1 ty_3) ?_
  refine dp HT 4 rfl (pFb fd_98_2) ?_
  refine dr HT 5 rfl (rB1 ty_3) ?_
  refine dp HT 6 rfl pMa ?_
  refine dp HT 7 rfl pMa ?_
  refine dp HT 8 rfl pMa ?_
  refine dE HT ?_
  clear HT
  refine aSeq ?_
  refine aSeq ?_
  refine aReg ?_
  refine sp pM ?_
  refine sp (by first | exact pLm sl_22 | exact pLs sl_22) ?_
  refine sp pB ?_
  refine oNil ?_
  refine aCondDec rfl (fun c20 => ?_) (fun c20 => ?_)
  · skip
    refine aSeq ?_
    refine aReg ?_
    refine sq ?_
    refine cv rfl rfl rfl (lents_refl _) law48_awake ?_
    refine sp pMa ?_
    refine oNil ?_
    refine aRet ?_
    refine finIs rfl ?_
    rfl
  · skip
    refine aSkip ?_
    refine aSeq ?_
    refine aReg ?_
    refine sp pM ?_
    refine sp pM ?_
    refine sp pM ?_
    refine sp pM ?_
    refine sq ?_
    refine ci rfl rfl rfl (kp_Paths (l := l) (a := a) (b := b) (m := m) (by omega)) ?_
    refine sp pMa ?_
    refine oNil ?_
    refine aSeq ?_
    refine aReg ?_
    refine sp pM ?_
    refine sq ?_
    refine ci rfl rfl rfl (ref24_NodesR_s (l := l) (by omega)) ?_
    refine sp pMa ?_
    refine oNil ?_
    refine aSeq ?_
    refine aSeq ?_
    have hnl := nodesR_len l 64
    refine aReg ?_
    refine sp pM ?_
    refine sq ?_
    refine cv rfl rfl rfl (lents_refl _) (ref24_May (by omega)) ?_
    refine sp pNo ?_
    refine sp pM ?_
    refine oSplitNot 32 rfl (fun c32 => ?_) (fun c32 => ?_)
    · skip
      refine gf ?_
      refine gf ?_
      refine gf ?_
      refine sp pK ?_
      refine sp pM ?_
      refine gf ?_
      refine gf ?_
      refine gf ?_
      refine sp pK ?_
      refine sp pM ?_
      refine gf ?_
      refine gf ?_
      refine sp pK ?_
      refine sp pM ?_
      refine gf ?_
      refine gf ?_
      refine gf ?_
      refine gf ?_
      refine sp pK ?_
      refine sp pM ?_
      refine gf ?_
      refine gf ?_
      refine gf ?_
      refine gf ?_
      refine sp pK ?_
      refine oNil ?_
      refine aCondT rfl ?_
      refine aSeq ?_
      have hno : goodK l a b m = false := by
        cases h : goodK l a b m with
        | false => rfl
        | true =>
          exfalso
          have h2 := good_iff.1 h
          first
            | omega
            | (simp_all; done)
      have hpz : pathsM l a b m = [] := by unfold pathsM; rw [hno]; rfl
      rw [hpz]
      refine aReg ?_
      refine sp pM ?_
      refine sp (by first | exact pLm sl_99 | exact pLs sl_99 | exact pLv sl_99) ?_
      refine sp pB ?_
      refine sp pM ?_
      refine ga ?_
      refine (cv rfl rfl rfl (lents_refl _) law48_awake ?_).op
      refine sp pK ?_
      refine sp pMa ?_
      refine oNil ?_
      refine aRet ?_
      refine finIs rfl ?_
      rfl
    · skip
      refine gp pM ?_
      refine gp (by first | exact pLm sl_25 | exact pLs sl_25 | exact pLv sl_25) ?_
      refine gp pB ?_
      refine sp pK ?_
      refine sp pM ?_
      refine oSplitDec 37 rfl (fun c37 => ?_) (fun c37 => ?_)
      · skip
        refine gf ?_
        refine gf ?_
        refine gf ?_
        refine sp pK ?_
        refine sp pM ?_
        refine gf ?_
        refine gf ?_
        refine sp pK ?_
        refine sp pM ?_
        refine gf ?_
        refine gf ?_
        refine gf ?_
        refine gf ?_
        refine sp pK ?_
        refine sp pM ?_
        refine gf ?_
        refine gf ?_
        refine gf ?_
        refine gf ?_
        refine sp pK ?_
        refine oNil ?_
        refine aCondT rfl ?_
        refine aSeq ?_
        have hno : goodK l a b m = false := by
          cases h : goodK l a b m with
          | false => rfl
          | true =>
            exfalso
            have h2 := good_iff.1 h
            first
              | omega
              | (simp_all; done)
        have hpz : pathsM l a b m = [] := by unfold pathsM; rw [hno]; rfl
        rw [hpz]
        refine aReg ?_
        refine sp pM ?_
        refine sp (by first | exact pLm sl_99 | exact pLs sl_99 | exact pLv sl_99) ?_
        refine sp pB ?_
        refine sp pM ?_
        refine ga ?_
        refine (cv rfl rfl rfl (lents_refl _) law48_awake ?_).op
        refine sp pK ?_
        refine sp pMa ?_
        refine oNil ?_
        refine aRet ?_
        refine finIs rfl ?_
        rfl
      · skip
        refine gp pM ?_
        refine gp pM ?_
        refine gp pB ?_
        refine sp pK ?_
        refine sp pM ?_
        refine oSplitEq 42 rfl (fun c42 => ?_) (fun c42 => ?_)
        · skip
          refine gf ?_
          refine gf ?_
          refine sp pK ?_
          refine sp pM ?_
          refine gf ?_
          refine gf ?_
          refine gf ?_
          refine gf ?_
          refine sp pK ?_
          refine sp pM ?_
          refine gf ?_
          refine gf ?_
          refine gf ?_
          refine gf ?_
          refine sp pK ?_
          refine oNil ?_
          refine aCondT rfl ?_
          refine aSeq ?_
          have hno : goodK l a b m = false := by
            cases h : goodK l a b m with
            | false => rfl
            | true =>
              exfalso
              have h2 := good_iff.1 h
              first
                | omega
                | (simp_all; done)
          have hpz : pathsM l a b m = [] := by unfold pathsM; rw [hno]; rfl
          rw [hpz]
          refine aReg ?_
          refine sp pM ?_
          refine sp (by first | exact pLm sl_99 | exact pLs sl_99 | exact pLv sl_99) ?_
          refine sp pB ?_
          refine sp pM ?_
          refine ga ?_
          refine (cv rfl rfl rfl (lents_refl _) law48_awake ?_).op
          refine sp pK ?_
          refine sp pMa ?_
          refine oNil ?_
          refine aRet ?_
          refine finIs rfl ?_
          rfl
        · skip
          refine gp pM ?_
          refine gp pB ?_
          refine sp pK ?_
          refine sp pM ?_
          refine oSplitDec 46 rfl (fun c46 => ?_) (fun c46 => ?_)
          · skip
            refine gf ?_
            refine gf ?_
            refine gf ?_
            refine gf ?_
            refine sp pK ?_
            refine sp pM ?_
            refine gf ?_
            refine gf ?_
            refine gf ?_
            refine gf ?_
            refine sp pK ?_
            refine oNil ?_
            refine aCondT rfl ?_
            refine aSeq ?_
            have hno : goodK l a b m = false := by
              cases h : goodK l a b m with
              | false => rfl
              | true =>
                exfalso
                have h2 := good_iff.1 h
                first
                  | omega
                  | (simp_all; done)
            have hpz : pathsM l a b m = [] := by unfold pathsM; rw [hno]; rfl
            rw [hpz]
            refine aReg ?_
            refine sp pM ?_
            refine sp (by first | exact pLm sl_99 | exact pLs sl_99 | exact pLv sl_99) ?_
            refine sp pB ?_
            refine sp pM ?_
            refine ga ?_
            refine (cv rfl rfl rfl (lents_refl _) law48_awake ?_).op
            refine sp pK ?_
            refine sp pMa ?_
            refine oNil ?_
            refine aRet ?_
            refine finIs rfl ?_
            rfl
          · skip
            refine gp pM ?_
            refine gp pM ?_
            refine ga ?_
            refine (cv rfl rfl rfl (lents_refl _) (ref27_Has (l := nodesR l 64) (n := a) (by omega)) ?_).op
            refine gp pNo ?_
            refine sp pK ?_
            refine sp pM ?_
            refine oSplitNot 52 rfl (fun c52 => ?_) (fun c52 => ?_)
            · skip
              refine gf ?_
              refine gf ?_
              refine gf ?_
              refine gf ?_
              refine sp pK ?_
              refine oNil ?_
              refine aCondT rfl ?_
              refine aSeq ?_
              have hno : goodK l a b m = false := by
                cases h : goodK l a b m with
                | false => rfl
                | true =>
                  exfalso
                  have h2 := good_iff.1 h
                  first
                    | omega
                    | (simp_all; done)
              have hpz : pathsM l a b m = [] := by unfold pathsM; rw [hno]; rfl
              rw [hpz]
              refine aReg ?_
              refine sp pM ?_
              refine sp (by first | exact pLm sl_99 | exact pLs sl_99 | exact pLv sl_99) ?_
              refine sp pB ?_
              refine sp pM ?_
              refine ga ?_
              refine (cv rfl rfl rfl (lents_refl _) law48_awake ?_).op
              refine sp pK ?_
              refine sp pMa ?_
              refine oNil ?_
              refine aRet ?_
              refine finIs rfl ?_
              rfl
            · skip
              refine gp pM ?_
              refine gp pM ?_
              refine ga ?_
              refine (cv rfl rfl rfl (lents_refl _) (ref27_Has (l := nodesR l 64) (n := b) (by omega)) ?_).op
              refine gp pNo ?_
              refine sp pK ?_
              refine oNil ?_
              refine aCondNot rfl (fun c57 => ?_) (fun c57 => ?_)
              · skip
                refine aSeq ?_
                have hno : goodK l a b m = false := by
                  cases h : goodK l a b m with
                  | false => rfl
                  | true =>
                    exfalso
                    have h2 := good_iff.1 h
                    first
                      | omega
                      | (simp_all; done)
                have hpz : pathsM l a b m = [] := by unfold pathsM; rw [hno]; rfl
                rw [hpz]
                refine aReg ?_
                refine sp pM ?_
                refine sp (by first | exact pLm sl_99 | exact pLs sl_99 | exact pLv sl_99) ?_
                refine sp pB ?_
                refine sp pM ?_
                refine ga ?_
                refine (cv rfl rfl rfl (lents_refl _) law48_awake ?_).op
                refine sp pK ?_
                refine sp pMa ?_
                refine oNil ?_
                refine aRet ?_
                refine finIs rfl ?_
                rfl
              · skip
                refine aSkip ?_
                refine aSeq ?_
                refine aSeq ?_
                refine aReg ?_
                refine sp pM ?_
                refine sp (by first | exact pLm sl_25 | exact pLs sl_25 | exact pLv sl_25) ?_
                refine sp pB ?_
                refine oNil ?_
                refine aCondDec rfl (fun c66 => ?_) (fun c66 => ?_)
                · skip
                  refine aSeq ?_
                  refine aReg ?_
                  refine sq ?_
                  refine cv rfl rfl rfl (lents_refl _) law48_awake ?_
                  refine sp pMa ?_
                  refine oNil ?_
                  refine aRet ?_
                  refine finIs rfl ?_
                  rfl
                · skip
                  refine aSkip ?_
                  refine aSeq ?_
                  have hyes : goodK l a b m = true := good_iff.2 ⟨by simp_all, by omega, by omega, by omega, by simp_all, by simp_all⟩
                  have hgs := good_spec hyes
                  have hal := allP_len (b := b) hgs.2.2.1 hgs.2.2.2.1 hgs.2.2.2.2.1
                  have han := allP_ns (b := b) hgs.2.2.1 hgs.2.2.2.1 hgs.2.2.2.2.1
                  obtain ⟨mn, hmn⟩ : ∃ mn : Nat, m = mn := ⟨m.toNat, by omega⟩
                  have hpe : pathsM l a b m = (allP l a b).take (min (allP l a b).length (min m.toNat 20)) := by unfold pathsM; rw [hyes, if_pos rfl]
                  have hpl : (pathsM l a b m).length ≤ 1000000 := by rw [hpe, List.length_take]; omega
                  have hpn : ∀ x ∈ pathsM l a b m, x.ns.length ≤ 64 := fun x hx => by rw [hpe] at hx; exact han x (List.mem_of_mem_take hx)
                  refine aReg ?_
                  refine sp pM ?_
                  refine sp pM ?_
                  refine sq ?_
                  refine qLit (l := [_]) rfl rfl (by decide) us_25 ty_3 ze_3 rfl (by decide) (by decide) rfl rfl rfl (fun b70 => ?_)
                  refine oWeak (weak_settle (k := 70) rfl (by repeat constructor) (by simp)) ?_
                  refine sp pM ?_
                  refine sq ?_
                  refine ci rfl rfl rfl (ref48_All (l := l) (a := a) (b := b) hgs.2.2.1 (by omega) hgs.2.2.2.1 hgs.2.2.2.2.1) ?_
                  refine sp pMa ?_
                  refine oNil ?_
                  refine aSeq ?_
                  refine aReg ?_
                  refine sp pM ?_
                  refine sp (by first | exact pLm sl_99 | exact pLs sl_99 | exact pLv sl_99) ?_
                  refine sp pMa ?_
                  refine oNil ?_
                  refine aSeq ?_
                  refine aSeq ?_
                  refine aReg ?_
                  refine sp pM ?_
                  refine sp pM ?_
                  refine sp pB ?_
                  refine oNil ?_
                  refine aCondDec rfl (fun c77 => ?_) (fun c77 => ?_)
                  · skip
                    refine aReg ?_
                    refine sp pM ?_
                    refine sp pMa ?_
                    refine oNil ?_
                    refine aSeq ?_
                    refine aSeq ?_
                    refine aReg ?_
                    refine sp pM ?_
                    refine sp pB ?_
                    refine oNil ?_
                    refine aCondDec rfl (fun c80 => ?_) (fun c80 => ?_)
                    · skip
                      refine aReg ?_
                      refine sp pMa ?_
                      refine oNil ?_
                      refine aSeq ?_
                      refine aReg ?_
                      refine sp pM ?_
                      refine sp pM ?_
                      refine sp pM ?_
                      refine sp ((by first | exact pSlice rfl rfl es_99 (bdN rfl) (bdI rfl) (by omega) (by simp only [List.length_map]; omega) | exact pSlice rfl rfl es_99 (bdN rfl) (bdI (n := m.toNat) (by show some (AV.int m) = some (AV.int ((m.toNat : Nat) : Int)); rw [Int.toNat_of_nonneg (by omega)])) (by omega) (by simp only [List.length_map]; omega))) ?_
                      first
                        | rw [show ((allP l a b).map pthC).drop 0 = (allP l a b).map pthC from rfl]
                        | skip
                      rw [show ∀ q : Nat, q = min (allP l a b).length (min m.toNat 20) → (((allP l a b).map pthC).take (q - 0)) = (pathsM l a b m).map pthC from fun q hq => by rw [hq, hpe, List.map_take]; rfl]
                      rotate_left
                      · first
                          | omega
                          | (show (20 : Nat) = _; omega)
                      refine sq ?_
                      refine cv rfl rfl rfl (lents_refl _) (ref48_Same (a := pathsM l a b m) (b := pathsM l a b m) hpl hpl hpn) ?_
                      rw [show decide (pathsM l a b m = pathsM l a b m) = true from decide_eq_true rfl]
                      refine sp pM ?_
                      refine ga ?_
                      refine (cv rfl rfl rfl (lents_refl _) law48_awake ?_).op
                      refine sp pK ?_
                      refine sp pMa ?_
                      refine oNil ?_
                      refine aRet ?_
                      refine finIs rfl ?_
                      rfl
                    · skip
                      refine aSkip ?_
                      refine aSeq ?_
                      refine aReg ?_
                      refine sp pM ?_
                      refine sp pM ?_
                      refine sp pM ?_
                      refine sp ((by first | exact pSlice rfl rfl es_99 (bdN rfl) (bdI rfl) (by omega) (by simp only [List.length_map]; omega) | exact pSlice rfl rfl es_99 (bdN rfl) (bdI (n := m.toNat) (by show some (AV.int m) = some (AV.int ((m.toNat : Nat) : Int)); rw [Int.toNat_of_nonneg (by omega)])) (by omega) (by simp only [List.length_map]; omega))) ?_
                      first
                        | rw [show ((allP l a b).map pthC).drop 0 = (allP l a b).map pthC from rfl]
                        | skip
                      rw [show ∀ q : Nat, q = min (allP l a b).length (min m.toNat 20) → (((allP l a b).map pthC).take (q - 0)) = (pathsM l a b m).map pthC from fun q hq => by rw [hq, hpe, List.map_take]; rfl]
                      rotate_left
                      · first
                          | omega
                          | (show (20 : Nat) = _; omega)
                      refine sq ?_
                      refine cv rfl rfl rfl (lents_refl _) (ref48_Same (a := pathsM l a b m) (b := pathsM l a b m) hpl hpl hpn) ?_
                      rw [show decide (pathsM l a b m = pathsM l a b m) = true from decide_eq_true rfl]
                      refine sp pM ?_
                      refine ga ?_
                      refine (cv rfl rfl rfl (lents_refl _) law48_awake ?_).op
                      refine sp pK ?_
                      refine sp pMa ?_
                      refine oNil ?_
                      refine aRet ?_
                      refine finIs rfl ?_
                      rfl
                  · skip
                    refine aSkip ?_
                    refine aSeq ?_
                    refine aSeq ?_
                    refine aReg ?_
                    refine sp pM ?_
                    refine sp pB ?_
                    refine oNil ?_
                    refine aCondDec rfl (fun c80 => ?_) (fun c80 => ?_)
                    · skip
                      refine aReg ?_
                      refine sp pMa ?_
                      refine oNil ?_
                      refine aSeq ?_
                      refine aReg ?_
                      refine sp pM ?_
                      refine sp pM ?_
                      refine sp pM ?_
                      refine sp ((by first | exact pSlice rfl rfl es_99 (bdN rfl) (bdI rfl) (by omega) (by simp only [List.length_map]; omega) | exact pSlice rfl rfl es_99 (bdN rfl) (bdI (n := m.toNat) (by show some (AV.int m) = some (AV.int ((m.toNat : Nat) : Int)); rw [Int.toNat_of_nonneg (by omega)])) (by omega) (by simp only [List.length_map]; omega))) ?_
                      first
                        | rw [show ((allP l a b).map pthC).drop 0 = (allP l a b).map pthC from rfl]
                        | skip
                      rw [show ∀ q : Nat, q = min (allP l a b).length (min m.toNat 20) → (((allP l a b).map pthC).take (q - 0)) = (pathsM l a b m).map pthC from fun q hq => by rw [hq, hpe, List.map_take]; rfl]
                      rotate_left
                      · first
                          | omega
                          | (show (20 : Nat) = _; omega)
                      refine sq ?_
                      refine cv rfl rfl rfl (lents_refl _) (ref48_Same (a := pathsM l a b m) (b := pathsM l a b m) hpl hpl hpn) ?_
                      rw [show decide (pathsM l a b m = pathsM l a b m) = true from decide_eq_true rfl]
                      refine sp pM ?_
                      refine ga ?_
                      refine (cv rfl rfl rfl (lents_refl _) law48_awake ?_).op
                      refine sp pK ?_
                      refine sp pMa ?_
                      refine oNil ?_
                      refine aRet ?_
                      refine finIs rfl ?_
                      rfl
                    · skip
                      refine aSkip ?_
                      refine aSeq ?_
                      refine aReg ?_
                      refine sp pM ?_
                      refine sp pM ?_
                      refine sp pM ?_
                      refine sp ((by first | exact pSlice rfl rfl es_99 (bdN rfl) (bdI rfl) (by omega) (by simp only [List.length_map]; omega) | exact pSlice rfl rfl es_99 (bdN rfl) (bdI (n := m.toNat) (by show some (AV.int m) = some (AV.int ((m.toNat : Nat) : Int)); rw [Int.toNat_of_nonneg (by omega)])) (by omega) (by simp only [List.length_map]; omega))) ?_
                      first
                        | rw [show ((allP l a b).map pthC).drop 0 = (allP l a b).map pthC from rfl]
                        | skip
                      rw [show ∀ q : Nat, q = min (allP l a b).length (min m.toNat 20) → (((allP l a b).map pthC).take (q - 0)) = (pathsM l a b m).map pthC from fun q hq => by rw [hq, hpe, List.map_take]; rfl]
                      rotate_left
                      · first
                          | omega
                          | (show (20 : Nat) = _; omega)
                      refine sq ?_
                      refine cv rfl rfl rfl (lents_refl _) (ref48_Same (a := pathsM l a b m) (b := pathsM l a b m) hpl hpl hpn) ?_
                      rw [show decide (pathsM l a b m = pathsM l a b m) = true from decide_eq_true rfl]
                      refine sp pM ?_
                      refine ga ?_
                      refine (cv rfl rfl rfl (lents_refl _) law48_awake ?_).op
                      refine sp pK ?_
                      refine sp pMa ?_
                      refine oNil ?_
                      refine aRet ?_
                      refine finIs rfl ?_
                      rfl
/- waymarklaw48.KpathFirst -/
def law48_KpathFirst_r1_T : Bool × List (List Nat × List Nat) := (true, [([], []), ([0], [0]), ([], []), ([2], [2]), ([], []), ([4], [4]), ([1, 0, 1], [1]), ([3, 6, 0, 1, 2, 3, 6], [3]), ([5, 7, 0, 1, 2, 3, 4, 5, 6, 7], [5])])
def law48_KpathFirst_r1_B : List Nat := [0, 1, 0, 4, 0, 16, 3, 79, 255]
theorem law48_KpathFirst_r1_t : Go.Proofs.YtmcannmjielalaaW.PrintLast.rtab .any (Go.Proofs.YtmcannmjielalaaW.PrintLast.opsOf Try.f23 1) = law48_KpathFirst_r1_T := by kernel_rfl
theorem law48_KpathFirst_r1_b : Go.Proofs.YtmcannmjielalaaW.PrintLast.waitsOk law48_KpathFirst_r1_T.2 law48_KpathFirst_r1_B = true := by kernel_rfl
set_option maxRecDepth 100000 in
set_option maxHeartbeats 4000000 in
theorem law48_KpathFirst {l : List Arc} {a b m : Int} (hll : l.length ≤ 9223372036854775807) : Triple Try.prog 23 [.sl 3 (l.map arcC), .agg [.int a, .int b, .int m]] [] (Is (.v (.bool true)) []) := by
  refine triple_of Try.func23 rfl (by kernel_rfl) rfl (by simp) ?_
  refine aSeq ?_
  refine aReg ?_
  refine sq ?_
  refine qBox rfl rfl (by decide) rfl rfl (fun b3 => ?_)
  refine sp pMa ?_
  refine oNil ?_
  refine aSeq ?_
  refine aDrawT law48_KpathFirst_r1_t law48_KpathFirst_r1_b [] 9 #[false, false, false, false, false, false, false, false, false] (by kernel_rfl) rfl rfl (fun HT => ?_)
  refine dp HT 0 rfl (pFb fd_98_0) ?_
  refine dr HT 1 rfl (rB1 ty_3) ?_
  refine dp HT 2 rfl (pFb fd_98_1) ?_
  refine dr HT 3 rfl (rB1 ty_3) ?_
  refine dp HT 4 rfl (pFb fd_98_2) ?_
  refine dr HT 5 rfl (rB1 ty_3) ?_
  refine dp HT 6 rfl pMa ?_
  refine dp HT 7 rfl pMa ?_
  refine dp HT 8 rfl pMa ?_
  refine dE HT ?_
  clear HT
  refine aSeq ?_
  refine aSeq ?_
  refine aReg ?_
  refine sp pM ?_
  refine sp (by first | exact pLm sl_22 | exact pLs sl_22) ?_
  refine sp pB ?_
  refine sp pM ?_
  refine oSplitDec 23 rfl (fun c23 => ?_) (fun c23 => ?_)
  · skip
    refine gf ?_
    refine gf ?_
    refine gf ?_
    refine sp pK ?_
    refine sp pM ?_
    refine gf ?_
    refine gf ?_
    refine gf ?_
    refine gf ?_
    refine sp pK ?_
    refine sp pM ?_
    refine gf ?_
    refine gf ?_
    refine sp pK ?_
    refine sp pM ?_
    refine gf ?_
    refine gf ?_
    refine gf ?_
    refine sp pK ?_
    refine oNil ?_
    refine aCondT rfl ?_
    refine aSeq ?_
    refine aReg ?_
    refine sq ?_
    refine cv rfl rfl rfl (lents_refl _) law48_awake ?_
    refine sp pMa ?_
    refine oNil ?_
    refine aRet ?_
    refine finIs rfl ?_
    rfl
  · skip
    refine gp pM ?_
    refine ga ?_
    refine (cv rfl rfl rfl (lents_refl _) (ref24_May (by omega)) ?_).op
    refine gp pNo ?_
    refine sp pK ?_
    refine sp pM ?_
    refine oSplitNot 28 rfl (fun c28 => ?_) (fun c28 => ?_)
    · skip
      refine gf ?_
      refine gf ?_
      refine gf ?_
      refine gf ?_
      refine sp pK ?_
      refine sp pM ?_
      refine gf ?_
      refine gf ?_
      refine sp pK ?_
      refine sp pM ?_
      refine gf ?_
      refine gf ?_
      refine gf ?_
      refine sp pK ?_
      refine oNil ?_
      refine aCondT rfl ?_
      refine aSeq ?_
      refine aReg ?_
      refine sq ?_
      refine cv rfl rfl rfl (lents_refl _) law48_awake ?_
      refine sp pMa ?_
      refine oNil ?_
      refine aRet ?_
      refine finIs rfl ?_
      rfl
    · skip
      refine gp pM ?_
      refine ga ?_
      refine (ci rfl rfl rfl (ref24_NodesR_s (l := l) (by omega)) ?_).op
      refine gp (by first | exact pLm sl_25 | exact pLs sl_25 | exact pLv sl_25) ?_
      refine gp pB ?_
      refine sp pK ?_
      refine sp pM ?_
      refine oSplitDec 34 rfl (fun c34 => ?_) (fun c34 => ?_)
      · skip
        refine gf ?_
        refine gf ?_
        refine sp pK ?_
        refine sp pM ?_
        refine gf ?_
        refine gf ?_
        refine gf ?_
        refine sp pK ?_
        refine oNil ?_
        refine aCondT rfl ?_
        refine aSeq ?_
        refine aReg ?_
        refine sq ?_
        refine cv rfl rfl rfl (lents_refl _) law48_awake ?_
        refine sp pMa ?_
        refine oNil ?_
        refine aRet ?_
        refine finIs rfl ?_
        rfl
      · skip
        refine gp pM ?_
        refine gp pB ?_
        refine sp pK ?_
        refine sp pM ?_
        refine oSplitDec 38 rfl (fun c38 => ?_) (fun c38 => ?_)
        · skip
          refine gf ?_
          refine gf ?_
          refine gf ?_
          refine sp pK ?_
          refine oNil ?_
          refine aCondT rfl ?_
          refine aSeq ?_
          refine aReg ?_
          refine sq ?_
          refine cv rfl rfl rfl (lents_refl _) law48_awake ?_
          refine sp pMa ?_
          refine oNil ?_
          refine aRet ?_
          refine finIs rfl ?_
          rfl
        · skip
          refine gp pM ?_
          refine gp pM ?_
          refine gp pB ?_
          refine sp pK ?_
          refine oNil ?_
          refine aCondEq rfl (fun c42 => ?_) (fun c42 => ?_)
          · skip
            refine aSeq ?_
            refine aReg ?_
            refine sq ?_
            refine cv rfl rfl rfl (lents_refl _) law48_awake ?_
            refine sp pMa ?_
            refine oNil ?_
            refine aRet ?_
            refine finIs rfl ?_
            rfl
          · skip
            refine aSkip ?_
            refine aSeq ?_
            have hok : arcsB none l = true := by simp_all
            have hne := nodesR_eq (arcs_ok hok)
            have hn8 : (nodesM l).length ≤ 8 := by rw [← hne]; omega
            obtain ⟨hf1, hf2, hf3, hf4⟩ := paths_first (a := a) (b := b) (m := m) hok hn8 (by omega) (by omega)
            have hpl : (pathsM l a b m).length ≤ 20 := by
              unfold pathsM
              split
              · rw [List.length_take]; omega
              · simp
            refine aReg ?_
            refine sp pM ?_
            refine sp pM ?_
            refine sp pM ?_
            refine sp pM ?_
            refine sq ?_
            refine ci rfl rfl rfl (kp_Paths (l := l) (a := a) (b := b) (m := m) (by omega)) ?_
            refine sp pMa ?_
            refine oNil ?_
            refine aSeq ?_
            refine aReg ?_
            refine sp pM ?_
            refine sp pM ?_
            refine sp pM ?_
            refine sq ?_
            refine ci rfl rfl rfl (spf_Distance (l := l) (a := a) (b := b) (by omega)) ?_
            refine sp pM ?_
            refine sp pX ?_
            refine sp pX ?_
            refine sp pMa ?_
            refine sp pMa ?_
            refine oNil ?_
            refine aSeq ?_
            refine aSeq ?_
            refine aReg ?_
            refine sp pM ?_
            refine sp pM ?_
            refine sp (by first | exact pLm sl_99 | exact pLs sl_99 | exact pLv sl_99) ?_
            refine sp pB ?_
            refine sp (pEqBn bo_4) ?_
            refine sp pM ?_
            refine oSplit 61 rfl (fun c61 => ?_) (fun c61 => ?_)
            · skip
              refine gf ?_
              refine gf ?_
              refine gf ?_
              refine gf ?_
              refine gf ?_
              refine gf ?_
              refine gf ?_
              refine gf ?_
              refine gf ?_
              refine sp pK ?_
              refine oNil ?_
              refine aCondT rfl ?_
              refine aSeq ?_
              refine aReg ?_
              refine sp pMa ?_
              refine oNil ?_
              refine aRet ?_
              exfalso
              first
                | (simp_all; done)
                | (simp_all; omega)
                | omega
            · skip
              refine gp pM ?_
              refine gp pM ?_
              refine oSplit 63 rfl (fun c63 => ?_) (fun c63 => ?_)
              · skip
                refine gp pM ?_
                have hpos : 0 < (pathsM l a b m).length := by
                  have hdt : dstB l a b = true := by first | assumption | simp_all
                  rw [hdt] at hf1
                  exact of_decide_eq_true hf1.symm
                obtain ⟨y, hy⟩ : ∃ z, (pathsM l a b m)[0]? = some z := ⟨_, List.getElem?_eq_getElem (by omega)⟩
                have hyc := hf2 y hy
                have hy2 : (pathsM l a b m)[(0 : Int).toNat]? = some y := hy
                first | refine gp (pIx es_99) ?_ | refine gp (pIo es_99) ?_
                refine gp (by first | exact pFb fd_125_1 | exact pFs fd_125_1) ?_
                refine gr (by first | exact rS1 ty_37 | exact rB1 ty_37 | exact rAr ty_37 | exact rArL ty_37 | exact rArR2 ty_37) ?_
                refine gp pM ?_
                refine gp pB ?_
                refine gp pK ?_
                refine sp pK ?_
                refine oNil ?_
                refine aCondNe rfl (fun c71 => ?_) (fun c71 => ?_)
                · skip
                  refine aSeq ?_
                  refine aReg ?_
                  refine sp pMa ?_
                  refine oNil ?_
                  refine aRet ?_
                  exfalso
                  first
                    | (simp_all; done)
                    | (simp_all; omega)
                    | omega
                · skip
                  refine aSkip ?_
                  refine aSeq ?_
                  refine aSeq ?_
                  refine aReg ?_
                  refine sp pMa ?_
                  refine oNil ?_
                  refine aBlock ?_
                  refine loopF (α := Nat) (kept := [(0, _), (8, _)]) (fun i => i ≤ (pathsM l a b m).length) (fun i => [(11, .int i)]) (fun i => []) (fun i => (pathsM l a b m).length - i) 0 ?_ ⟨gInt rfl (by first | rfl | omega | simp), rfl, rfl, trivial⟩ (by repeat constructor) ?_
                  · skip
                    omega
                  · rintro i hi
                    refine aSeq ?_
                    refine aSeq ?_
                    refine aReg ?_
                    refine sp pM ?_
                    refine sp pM ?_
                    refine sp (by first | exact pLm sl_99 | exact pLs sl_99 | exact pLv sl_99) ?_
                    refine sp pB ?_
                    refine oNil ?_
                    refine aCondDec rfl (fun c75 => ?_) (fun c75 => ?_)
                    · skip
                      refine aSkip ?_
                      refine aSeq ?_
                      refine aBlock ?_
                      refine aSeq ?_
                      obtain ⟨x, hx⟩ : ∃ z, (pathsM l a b m)[i]? = some z := ⟨_, List.getElem?_eq_getElem (by omega)⟩
                      have hxf := hf3 x (List.mem_of_getElem? hx)
                      refine aReg ?_
                      refine sp pM ?_
                      refine sp pM ?_
                      refine sp pM ?_
                      first | refine sp (pIx es_99) ?_ | (refine obtSN 80 81 rfl rfl (by omega) (fun x82 hx82 => ?_); refine sp (pIs es_99 hx82) ?_) | (refine obtS 80 81 rfl rfl (by omega) (by omega) (fun x82 hx82 => ?_); refine sp (pIs es_99 hx82) ?_) | refine sp (pIo es_99) ?_
                      refine sp (by first | exact pFb fd_125_0 | exact pFs fd_125_0) ?_
                      refine sr (by first | exact rS1 ty_25 | exact rB1 ty_25 | exact rAr ty_25 | exact rArL ty_25 | exact rArR2 ty_25) ?_
                      refine sq ?_
                      refine ci rfl rfl rfl (kp_Cost (l := l) (ns := x.ns) hok (by omega) hxf.ne hxf.len hxf.hd hxf.ch) ?_
                      rw [← hxf.c]
                      refine sp pM ?_
                      refine sp pX ?_
                      refine sp pX ?_
                      refine sp pMa ?_
                      refine sp pMa ?_
                      refine oNil ?_
                      refine aSeq ?_
                      refine aReg ?_
                      refine sp pM ?_
                      refine sp pNo ?_
                      refine sp pM ?_
                      refine oSplitNot 90 rfl (fun c90 => ?_) (fun c90 => ?_)
                      · skip
                        refine gf ?_
                        refine gf ?_
                        refine gf ?_
                        refine gf ?_
                        refine gf ?_
                        refine gf ?_
                        refine gf ?_
                        refine sp pK ?_
                        refine sp pM ?_
                        refine gf ?_
                        refine gf ?_
                        refine gf ?_
                        refine gf ?_
                        refine gf ?_
                        refine gf ?_
                        refine gf ?_
                        refine gf ?_
                        refine gf ?_
                        refine gf ?_
                        refine gf ?_
                        refine gf ?_
                        refine sp pK ?_
                        refine oNil ?_
                        refine aCondT rfl ?_
                        refine aSeq ?_
                        refine aReg ?_
                        refine sp pMa ?_
                        refine oNil ?_
                        refine aRet ?_
                        exfalso
                        first
                          | (simp_all; done)
                          | (simp_all; omega)
                          | omega
                      · skip
                        refine gp pM ?_
                        refine gp pM ?_
                        refine gp pM ?_
                        first | refine gp (pIx es_99) ?_ | (refine obtSN 92 93 rfl rfl (by omega) (fun x94 hx94 => ?_); refine gp (pIs es_99 hx94) ?_) | (refine obtS 92 93 rfl rfl (by omega) (by omega) (fun x94 hx94 => ?_); refine gp (pIs es_99 hx94) ?_) | refine gp (pIo es_99) ?_
                        refine gp (by first | exact pFb fd_125_1 | exact pFs fd_125_1) ?_
                        refine gr (by first | exact rS1 ty_37 | exact rB1 ty_37 | exact rAr ty_37 | exact rArL ty_37 | exact rArR2 ty_37) ?_
                        refine gp pB ?_
                        refine sp pK ?_
                        refine sp pM ?_
                        refine oSplitNe 99 rfl (fun c99 => ?_) (fun c99 => ?_)
                        · skip
                          refine gf ?_
                          refine gf ?_
                          refine gf ?_
                          refine gf ?_
                          refine gf ?_
                          refine gf ?_
                          refine gf ?_
                          refine gf ?_
                          refine gf ?_
                          refine gf ?_
                          refine gf ?_
                          refine gf ?_
                          refine sp pK ?_
                          refine oNil ?_
                          refine aCondT rfl ?_
                          refine aSeq ?_
                          refine aReg ?_
                          refine sp pMa ?_
                          refine oNil ?_
                          refine aRet ?_
                          exfalso
                          first
                            | (simp_all; done)
                            | (simp_all; omega)
                            | omega
                        · skip
                          refine gp pM ?_
                          refine gp pB ?_
                          refine gp pM ?_
                          refine oSplitDec 102 rfl (fun c102 => ?_) (fun c102 => ?_)
                          · skip
                            refine gp pM ?_
                            refine gp pM ?_
                            refine gp pSu ?_
                            obtain ⟨y, hy⟩ : ∃ z, (pathsM l a b m)[(i - 1)]? = some z := ⟨_, List.getElem?_eq_getElem (by omega)⟩
                            have hy2 : (pathsM l a b m)[((i : Int) - 1).toNat]? = some y := by rw [show ((i : Int) - 1).toNat = i - 1 by omega]; exact hy
                            have hle := hf4 (i - 1) y x hy (by rw [show i - 1 + 1 = i by omega]; exact hx)
                            first | refine gp (pIx es_99) ?_ | (refine obtSN 103 105 rfl rfl (by omega) (fun x106 hx106 => ?_); refine gp (pIs es_99 hx106) ?_) | (refine obtS 103 105 rfl rfl (by omega) (by omega) (fun x106 hx106 => ?_); refine gp (pIs es_99 hx106) ?_) | refine gp (pIo es_99) ?_
                            refine gp (by first | exact pFb fd_125_1 | exact pFs fd_125_1) ?_
                            refine gr (by first | exact rS1 ty_37 | exact rB1 ty_37 | exact rAr ty_37 | exact rArL ty_37 | exact rArR2 ty_37) ?_
                            refine gp pM ?_
                            refine gp pB ?_
                            refine gp pK ?_
                            refine sp pK ?_
                            refine oNil ?_
                            refine aCondDec rfl (fun c112 => ?_) (fun c112 => ?_)
                            · skip
                              refine aSeq ?_
                              refine aReg ?_
                              refine sp pMa ?_
                              refine oNil ?_
                              refine aRet ?_
                              exfalso
                              first
                                | (simp_all; done)
                                | (simp_all; omega)
                                | omega
                            · skip
                              refine aSkip ?_
                              refine aReg ?_
                              refine sp pM ?_
                              refine sp pAd ?_
                              refine sp pMa ?_
                              refine oNil ?_
                              refine ⟨i + 1, ?_, by (try dsimp only); omega, ⟨gInt rfl (by first | rfl | omega | simp), rfl, rfl, trivial⟩, _, (by repeat constructor)⟩
                              omega
                          · skip
                            refine gf ?_
                            refine gf ?_
                            refine gf ?_
                            refine gf ?_
                            refine gf ?_
                            refine gf ?_
                            refine gf ?_
                            refine gf ?_
                            refine gp pK ?_
                            refine sp pK ?_
                            refine oNil ?_
                            refine aCondF rfl ?_
                            refine aSkip ?_
                            refine aReg ?_
                            refine sp pM ?_
                            refine sp pAd ?_
                            refine sp pMa ?_
                            refine oNil ?_
                            refine ⟨i + 1, ?_, by (try dsimp only); omega, ⟨gInt rfl (by first | rfl | omega | simp), rfl, rfl, trivial⟩, _, (by repeat constructor)⟩
                            omega
                    · skip
                      refine aExit rfl ?_
                      refine aSeq ?_
                      refine aReg ?_
                      refine sq ?_
                      refine cv rfl rfl rfl (lents_refl _) law48_awake ?_
                      refine sp pMa ?_
                      refine oNil ?_
                      refine aRet ?_
                      refine finIs rfl ?_
                      rfl
              · skip
                refine gf ?_
                refine gf ?_
                refine gf ?_
                refine gf ?_
                refine gf ?_
                refine gf ?_
                refine gp pK ?_
                refine sp pK ?_
                refine oNil ?_
                refine aCondF rfl ?_
                refine aSkip ?_
                refine aSeq ?_
                refine aSeq ?_
                refine aReg ?_
                refine sp pMa ?_
                refine oNil ?_
                refine aBlock ?_
                refine loopF (α := Nat) (kept := [(0, _), (8, _)]) (fun i => i ≤ (pathsM l a b m).length) (fun i => [(11, .int i)]) (fun i => []) (fun i => (pathsM l a b m).length - i) 0 ?_ ⟨gInt rfl (by first | rfl | omega | simp), rfl, rfl, trivial⟩ (by repeat constructor) ?_
                · skip
                  omega
                · rintro i hi
                  refine aSeq ?_
                  refine aSeq ?_
                  refine aReg ?_
                  refine sp pM ?_
                  refine sp pM ?_
                  refine sp (by first | exact pLm sl_99 | exact pLs sl_99 | exact pLv sl_99) ?_
                  refine sp pB ?_
                  refine oNil ?_
                  refine aCondDec rfl (fun c75 => ?_) (fun c75 => ?_)
                  · skip
                    refine aSkip ?_
                    refine aSeq ?_
                    refine aBlock ?_
                    refine aSeq ?_
                    obtain ⟨x, hx⟩ : ∃ z, (pathsM l a b m)[i]? = some z := ⟨_, List.getElem?_eq_getElem (by omega)⟩
                    have hxf := hf3 x (List.mem_of_getElem? hx)
                    refine aReg ?_
                    refine sp pM ?_
                    refine sp pM ?_
                    refine sp pM ?_
                    first | refine sp (pIx es_99) ?_ | (refine obtSN 80 81 rfl rfl (by omega) (fun x82 hx82 => ?_); refine sp (pIs es_99 hx82) ?_) | (refine obtS 80 81 rfl rfl (by omega) (by omega) (fun x82 hx82 => ?_); refine sp (pIs es_99 hx82) ?_) | refine sp (pIo es_99) ?_
                    refine sp (by first | exact pFb fd_125_0 | exact pFs fd_125_0) ?_
                    refine sr (by first | exact rS1 ty_25 | exact rB1 ty_25 | exact rAr ty_25 | exact rArL ty_25 | exact rArR2 ty_25) ?_
                    refine sq ?_
                    refine ci rfl rfl rfl (kp_Cost (l := l) (ns := x.ns) hok (by omega) hxf.ne hxf.len hxf.hd hxf.ch) ?_
                    rw [← hxf.c]
                    refine sp pM ?_
                    refine sp pX ?_
                    refine sp pX ?_
                    refine sp pMa ?_
                    refine sp pMa ?_
                    refine oNil ?_
                    refine aSeq ?_
                    refine aReg ?_
                    refine sp pM ?_
                    refine sp pNo ?_
                    refine sp pM ?_
                    refine oSplitNot 90 rfl (fun c90 => ?_) (fun c90 => ?_)
                    · skip
                      refine gf ?_
                      refine gf ?_
                      refine gf ?_
                      refine gf ?_
                      refine gf ?_
                      refine gf ?_
                      refine gf ?_
                      refine sp pK ?_
                      refine sp pM ?_
                      refine gf ?_
                      refine gf ?_
                      refine gf ?_
                      refine gf ?_
                      refine gf ?_
                      refine gf ?_
                      refine gf ?_
                      refine gf ?_
                      refine gf ?_
                      refine gf ?_
                      refine gf ?_
                      refine gf ?_
                      refine sp pK ?_
                      refine oNil ?_
                      refine aCondT rfl ?_
                      refine aSeq ?_
                      refine aReg ?_
                      refine sp pMa ?_
                      refine oNil ?_
                      refine aRet ?_
                      exfalso
                      first
                        | (simp_all; done)
                        | (simp_all; omega)
                        | omega
                    · skip
                      refine gp pM ?_
                      refine gp pM ?_
                      refine gp pM ?_
                      first | refine gp (pIx es_99) ?_ | (refine obtSN 92 93 rfl rfl (by omega) (fun x94 hx94 => ?_); refine gp (pIs es_99 hx94) ?_) | (refine obtS 92 93 rfl rfl (by omega) (by omega) (fun x94 hx94 => ?_); refine gp (pIs es_99 hx94) ?_) | refine gp (pIo es_99) ?_
                      refine gp (by first | exact pFb fd_125_1 | exact pFs fd_125_1) ?_
                      refine gr (by first | exact rS1 ty_37 | exact rB1 ty_37 | exact rAr ty_37 | exact rArL ty_37 | exact rArR2 ty_37) ?_
                      refine gp pB ?_
                      refine sp pK ?_
                      refine sp pM ?_
                      refine oSplitNe 99 rfl (fun c99 => ?_) (fun c99 => ?_)
                      · skip
                        refine gf ?_
                        refine gf ?_
                        refine gf ?_
                        refine gf ?_
                        refine gf ?_
                        refine gf ?_
                        refine gf ?_
                        refine gf ?_
                        refine gf ?_
                        refine gf ?_
                        refine gf ?_
                        refine gf ?_
                        refine sp pK ?_
                        refine oNil ?_
                        refine aCondT rfl ?_
                        refine aSeq ?_
                        refine aReg ?_
                        refine sp pMa ?_
                        refine oNil ?_
                        refine aRet ?_
                        exfalso
                        first
                          | (simp_all; done)
                          | (simp_all; omega)
                          | omega
                      · skip
                        refine gp pM ?_
                        refine gp pB ?_
                        refine gp pM ?_
                        refine oSplitDec 102 rfl (fun c102 => ?_) (fun c102 => ?_)
                        · skip
                          refine gp pM ?_
                          refine gp pM ?_
                          refine gp pSu ?_
                          obtain ⟨y, hy⟩ : ∃ z, (pathsM l a b m)[(i - 1)]? = some z := ⟨_, List.getElem?_eq_getElem (by omega)⟩
                          have hy2 : (pathsM l a b m)[((i : Int) - 1).toNat]? = some y := by rw [show ((i : Int) - 1).toNat = i - 1 by omega]; exact hy
                          have hle := hf4 (i - 1) y x hy (by rw [show i - 1 + 1 = i by omega]; exact hx)
                          first | refine gp (pIx es_99) ?_ | (refine obtSN 103 105 rfl rfl (by omega) (fun x106 hx106 => ?_); refine gp (pIs es_99 hx106) ?_) | (refine obtS 103 105 rfl rfl (by omega) (by omega) (fun x106 hx106 => ?_); refine gp (pIs es_99 hx106) ?_) | refine gp (pIo es_99) ?_
                          refine gp (by first | exact pFb fd_125_1 | exact pFs fd_125_1) ?_
                          refine gr (by first | exact rS1 ty_37 | exact rB1 ty_37 | exact rAr ty_37 | exact rArL ty_37 | exact rArR2 ty_37) ?_
                          refine gp pM ?_
                          refine gp pB ?_
                          refine gp pK ?_
                          refine sp pK ?_
                          refine oNil ?_
                          refine aCondDec rfl (fun c112 => ?_) (fun c112 => ?_)
                          · skip
                            refine aSeq ?_
                            refine aReg ?_
                            refine sp pMa ?_
                            refine oNil ?_
                            refine aRet ?_
                            exfalso
                            first
                              | (simp_all; done)
                              | (simp_all; omega)
                              | omega
                          · skip
                            refine aSkip ?_
                            refine aReg ?_
                            refine sp pM ?_
                            refine sp pAd ?_
                            refine sp pMa ?_
                            refine oNil ?_
                            refine ⟨i + 1, ?_, by (try dsimp only); omega, ⟨gInt rfl (by first | rfl | omega | simp), rfl, rfl, trivial⟩, _, (by repeat constructor)⟩
                            omega
                        · skip
                          refine gf ?_
                          refine gf ?_
                          refine gf ?_
                          refine gf ?_
                          refine gf ?_
                          refine gf ?_
                          refine gf ?_
                          refine gf ?_
                          refine gp pK ?_
                          refine sp pK ?_
                          refine oNil ?_
                          refine aCondF rfl ?_
                          refine aSkip ?_
                          refine aReg ?_
                          refine sp pM ?_
                          refine sp pAd ?_
                          refine sp pMa ?_
                          refine oNil ?_
                          refine ⟨i + 1, ?_, by (try dsimp only); omega, ⟨gInt rfl (by first | rfl | omega | simp), rfl, rfl, trivial⟩, _, (by repeat constructor)⟩
                          omega
                  · skip
                    refine aExit rfl ?_
                    refine aSeq ?_
                    refine aReg ?_
                    refine sq ?_
                    refine cv rfl rfl rfl (lents_refl _) law48_awake ?_
                    refine sp pMa ?_
                    refine oNil ?_
                    refine aRet ?_
                    refine finIs rfl ?_
                    rfl
end A
end Go.Proofs.Ytmcannmjielalaa
namespace Go.Proofs.Ytmcannmjielalaa.kpathFirst
open Go.ChangeShapes Go.WideShapes Go.ChangeAt Go.RowKit Go.Proofs.Ytmcannmjielalaa.A
open Go.ChangeMaps (open_string shut_string)
set_option linter.unusedVariables false
theorem own : ownKnob Try.prog.godebug = none := by kernel_rfl
theorem laidOut : laidOutB Try.prog = true := A.laidAll
theorem fInPlace : (Rows.kpathFirstRow.inPlace == Try.prog.inPlace 23) = true := by kernel_rfl
theorem fUnfollowed : (Rows.kpathFirstRow.unfollowed == Try.prog.unfollowed 23) = true := by kernel_rfl
theorem fRecurses : (Rows.kpathFirstRow.recurses == Try.prog.recurses 23) = true := by kernel_rfl
theorem fNamed : (Rows.kpathFirstRow.named == Try.prog.varsNamed 23) = true := by kernel_rfl
theorem closed : joinedFacts Try.prog 23 Try.f23 Rows.kpathFirstSpec Rows.kpathFirstRow = true := by
  unfold joinedFacts
  simp only [Bool.and_eq_true]
  refine ⟨⟨⟨⟨⟨⟨⟨⟨⟨⟨⟨⟨⟨⟨⟨⟨⟨⟨⟨⟨⟨⟨⟨⟨⟨⟨⟨⟨⟨⟨⟨?_, A.laidAll⟩, A.mapsAll⟩, ?_⟩, ?_⟩, ?_⟩, ?_⟩, ?_⟩, ?_⟩, fInPlace⟩, fUnfollowed⟩, fRecurses⟩, fNamed⟩, ?_⟩, ?_⟩, ?_⟩, ?_⟩, ?_⟩, ?_⟩, ?_⟩, ?_⟩, ?_⟩, ?_⟩, ?_⟩, A.stopsAll⟩, A.mayE⟩, by rw [A.lifF]; kernel_rfl⟩, by rw [A.mkC]; kernel_rfl⟩, ?_⟩, ?_⟩, ?_⟩, ?_⟩
  all_goals kernel_rfl
set_option maxRecDepth 100000 in
theorem lifted (os : Os) (started : os.Started) (H : Type) (enc : TypeId × Value → H) :
    ReturnsInHanded {} Try.checked os 23 .any (Rows.kpathFirstSpec.pre6 enc Try.prog Try.f23 Rows.kpathFirstRow.domain false) (Rows.kpathFirstSpec.post enc Try.prog Try.f23 false true false false) := by
  refine returnsInHanded_of_change_sized (C := Try.checked) own started (by kernel_rfl) Try.func23
    (ChangeSpec.witness6 (enc := enc) (C := Try.checked) false ⟨#[], #[.slice none 0 0, .agg #[.int .i64 0, .int .i64 0, .int .i64 0]], []⟩ 8 (by kernel_rfl) (by kernel_rfl) (by kernel_rfl) (by kernel_rfl)) ?_
  intro W base args ds gs before hval0 hW hcnd hsz0 _
  have hval : ∀ (j : Nat) t v, Try.f23.params[j]? = some t → args[j]? = some v → Value.okWide Try.prog W .any base t v := hval0
  have hW' := hW
  obtain ⟨p, q, hA0, hV, rfl, hfz, hnd⟩ := hW
  have hA : DataW.TrodAll enc Try.prog W 0 (fun _ => true) true Try.f23.params.toList args.toList ds p := hA0
  rw [Try.params23] at hA hval
  obtain ⟨v0, vs0, d0, ds0, p0, q0, hargs, rfl, rfl, h0, r0⟩ := trodAll_cons hA
  obtain ⟨v1, vs1, d1, ds1, p1, q1, rfl, rfl, rfl, h1, r1⟩ := trodAll_cons r0
  obtain ⟨rfl, rfl, rfl⟩ := trodAll_nil r1
  obtain rfl : args = #[v0, v1] := by cases args; simp_all
  obtain ⟨rfl, rfl⟩ := trodVars_none hV
  have k0 := h0
  have lt0 : ∀ x ∈ p0, x.block < W.heap.size := by obtain ⟨m, hm⟩ := k0; exact DataW.trod_lt m _ _ _ hm
  have one0 : v0.oneCell' = true := by obtain ⟨_, _, _, rfl⟩ := okWide_slice Try.underlying22 (hval 0 22 v0 rfl rfl); rfl
  obtain ⟨a0, w0, rep0⟩ := argOne (opSlice Try.underlying22 (by kernel_rfl) (by decide) op_Arc) one0 h0
  have k1 := h1
  have lt1 : ∀ x ∈ p1, x.block < W.heap.size := by obtain ⟨m, hm⟩ := k1; exact DataW.trod_lt m _ _ _ hm
  obtain ⟨cs1, rfl⟩ := okWide_aggS Try.underlying98 (hval 1 98 v1 rfl rfl)
  obtain ⟨a1, w1, rep1⟩ := argAgg op_Ask h1
  refine (law_calls (law48_KpathFirst (l := a0) (a := a1.1) (b := a1.2.1) (m := a1.2.2) w0.2) (reps_cons rep0 (reps_cons rep1 reps_nil))).mono fun e W' ⟨he, bel⟩ => ?_
  subst he
  exact ⟨_, rfl, _, _, _, [], _, [], hW', trodAll_mk1 (shut_bool Try.underlying4 _), (trodAll_cons_mk (Below.trod laidOut (by kernel_rfl) (of_decide_eq_true (by kernel_rfl)) k0 bel lt0) (trodAll_cons_mk (Below.trod laidOut (by kernel_rfl) (of_decide_eq_true (by kernel_rfl)) k1 bel lt1) trodAll_mk0)), rfl, bel.frame _, fun h => by cases h⟩
theorem over : Rows.kpathFirstRow.holds Try.pinned (OpenSpec.ofChange Rows.kpathFirstSpec) :=
  OpenClaim.holds_of_wide 23 Try.f23 rfl rfl rfl rfl rfl rfl rfl ⟨rfl, rfl, rfl, rfl, rfl⟩ rfl rfl rfl rfl rfl (by kernel_rfl) Try.func23 closed
    (of_decide_eq_true (by kernel_rfl)) (by unfold Func.isWrapper; first | (rw [if_pos (by decide +kernel)]; kernel_rfl) | (rw [if_neg (by decide +kernel)]; exact ⟨rfl, rfl⟩))
    (fun os started H enc _ => lifted os started H enc)
theorem proved : Rows.KpathFirstSaid := over
#print axioms proved
end Go.Proofs.Ytmcannmjielalaa.kpathFirst
