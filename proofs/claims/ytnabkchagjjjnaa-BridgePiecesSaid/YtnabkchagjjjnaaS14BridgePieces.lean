/- Whatever the input, waymarklaw39.BridgePieces returns true, and each argument reads as it did. -/
import Derived.Shelf.SlMaps.Clone
import Derived.Test.YtnabkchagjjjnaaS13BridgePieces
set_option linter.unusedVariables false
set_option linter.unusedSimpArgs false
set_option linter.unusedSectionVars false
namespace Go.Proofs.Ytnabkchagjjjnaa
namespace A
open Go.Lib Go.RowKit Go.Shelf
/-- A copy of a map. -/
theorem triple_mapClone {P : Program} {ρ : Ren} {f : FuncId} (L : SlLaysW.n5 P ρ) (hf : ρ.f 5 = f) (hb : HasBody P f) (b : Nat) (kvs : List (Int × AV)) :
    Triple P f [.v (.map (some b))] [.map b kvs] (fun r h' => ∃ b', r = .v (.map (some b')) ∧ h' = [.map b' kvs, .map b kvs]) := by
  subst hf
  refine ⟨hb, fun F w vs hR hreps => ?_⟩
  obtain ⟨hv1, hv2⟩ := hreps
  obtain ⟨x, rfl⟩ : ∃ x, vs = #[x] := by
    match vs, hv1 with
    | ⟨[x]⟩, _ => exact ⟨x, rfl⟩
  have hx := hv2 0 _ x rfl rfl
  cases hx
  have hm := hR.rep _ (List.mem_singleton.2 rfl)
  obtain ⟨ents, clock, h1, h2, h3, h4⟩ := hm
  obtain ⟨hR', hE, _⟩ := hR.new (o := .map ents clock) (x := .map w.heap.size kvs) rfl ⟨ents, clock, heap_new w _, h2, fun i kv e a b => ⟨(h3 i kv e a b).1, (h3 i kv e a b).2.1.mono (fun _ h => h) (fun d hd => heap_old w _ d (hR.sep d hd).1), (h3 i kv e a b).2.2⟩, h4⟩
  refine (AnyW.maps_Clone L b ents clock w h1).mono fun e w' ⟨he, hw⟩ => ?_
  subst hw
  exact ⟨_, _, _, F, he, ⟨_, rfl, rfl⟩, .v _, hR', hE⟩
end A
end Go.Proofs.Ytnabkchagjjjnaa
set_option linter.unusedVariables false
set_option linter.unusedSimpArgs false
namespace Go.Proofs.Ytnabkchagjjjnaa
namespace A
theorem br_visit {w : List Ed} {em : List (Int × List Ed)} (sb eb fb lb jb : Nat) (W : WOk w) (hwl : w.length ≤ 1000000) (hem : ∀ n, (mGet em n).getD [] = incF w n) (k : Nat) : ∀ (S : List Int) (n : Int) (par : Par) (lm0 : List (Int × Int)) (g0 : Option Nat) (c0 : Nat) (B0 : List Ed) (jm0 : List (Int × Bool)), VPre w S n par → (∀ x ∈ S, 1 ≤ x ∧ x ≤ 64) → (1 ≤ n ∧ n ≤ 64) → BOk w S B0 → (∀ v ∈ mKeys jm0, v ∈ S) → (mKeys jm0).Nodup → 65 ≤ S.length + k → Triple Try.prog 60 [(.v (.pointer (some ⟨sb, 0, none⟩))), .int n, .agg (edC (byE par))] [BX sb eb fb lb jb g0 (B0).length c0, .map eb (kvM (slS 3 edC) em), .map fb (kvM inA (fmF 0 (S))), .map lb (kvM inA lm0), .map jb (kvM boA jm0), .sl g0 c0 86 3 ((B0).map edC)] (fun q h' => ∃ (S1 T : List Int) (lm : List (Int × Int)) (g : Option Nat) (c : Nat) (B add tr : List Ed) (jm : List (Int × Bool)), q = .tup [] ∧ h' = [BX sb eb fb lb jb g (B).length c, .map eb (kvM (slS 3 edC) em), .map fb (kvM inA (fmF 0 (S1))), .map lb (kvM inA lm), .map jb (kvM boA jm), .sl g c 86 3 ((B).map edC)] ∧ S1 = S ++ T ∧ B = B0 ++ add ∧ VPost w S n par (lF lm0) (jF jm0) T (lF lm) add tr (jF jm) ∧ (mKeys jm).Nodup) := by
  induction k with
  | zero => intro S n par lm0 g0 c0 B0 jm0 V hSr hnr hB0 hj0 hn0 hk; exact br_visitO sb eb fb lb jb W hwl hem 0 S n par lm0 g0 c0 B0 jm0 V hSr hnr hB0 hj0 hn0 hk (fun _ _ _ _ _ _ _ _ h0 => absurd h0 (by omega))
  | succ k ih => intro S n par lm0 g0 c0 B0 jm0 V hSr hnr hB0 hj0 hn0 hk; exact br_visitO sb eb fb lb jb W hwl hem (k + 1) S n par lm0 g0 c0 B0 jm0 V hSr hnr hB0 hj0 hn0 hk (fun S' n' par' lm' g' c' B' jm' _ => ih S' n' par' lm' g' c' B' jm')
/-- What is true between the visits of roots. -/
structure WI (w : List Ed) (S : List Int) (B tr : List Ed) (j : Int → Prop) (np : Nat) : Prop where
  nd : S.Nodup
  rng : ∀ x ∈ S, 1 ≤ x ∧ x ≤ 64
  cl : ∀ x ∈ S, ClS w S x
  b2 : B.Nodup
  b3 : ∀ e, e ∈ B ↔ e ∈ w ∧ e.a ∈ S ∧ e.b ∈ S ∧ Brg w e
  jn : ∀ v, j v ↔ v ∈ S ∧ Jnt w v
  t1 : ∀ e ∈ tr, e ∈ w ∧ e.a ∈ S ∧ e.b ∈ S
  t2 : tr.Nodup
  t3 : tr.length + np = S.length
  t4 : ∀ e ∈ w, e.a ∈ S → e ∉ tr → ¬ Brg w e
  t5 : ∀ e ∈ tr, ¬ Brg w e → ∃ f ∈ w, f.a ∈ S ∧ f ∉ tr
theorem WI.nil (w : List Ed) {j : Int → Prop} (hj : ∀ v, ¬ j v) : WI w [] [] [] j 0 where
  nd := .nil
  rng := fun x hx => by simp at hx
  cl := fun x hx => by simp at hx
  b2 := .nil
  b3 := fun e => by simp
  jn := fun v => by simp [hj]
  t1 := fun e he => by simp at he
  t2 := .nil
  t3 := rfl
  t4 := fun e _ he => by simp at he
  t5 := fun e he => by simp at he
theorem WI.pre {w : List Ed} {S : List Int} {B tr : List Ed} {j : Int → Prop} {np : Nat} (I : WI w S B tr j np) {n : Int} (hn : n ∉ S) : VPre w S n none where
  nd := I.nd
  new := hn
  pr := fun p e h => by cases h
  opn := fun x hx => .inl (I.cl x hx)
theorem WI.bok {w : List Ed} {S : List Int} {B tr : List Ed} {j : Int → Prop} {np : Nat} (I : WI w S B tr j np) : BOk w S B := ⟨I.b2, fun e he => ⟨((I.b3 e).1 he).1, ((I.b3 e).1 he).2.1⟩⟩
theorem tch_T {w : List Ed} {S T : List Int} (hS : ∀ x ∈ S, ClS w S x) (hT : ∀ u ∈ T, ClS w (S ++ T) u) (hn : (S ++ T).Nodup) {e : Ed} (he : e ∈ w) (h : tch e (· ∈ T)) : e.a ∈ T ∧ e.b ∈ T := by
  obtain ⟨u, z, ha, hu⟩ := tch_adj h
  have hz : z ∈ T := by
    rcases List.mem_append.1 (hT u hu e he z ha) with h2 | h2
    · exact absurd hu (mem_no hn (hS z h2 e he u ha.symm))
    · exact h2
  exact ha.mk2 (Q := (· ∈ T)) hu hz
theorem WI.step {w : List Ed} (W : WOk w) {S : List Int} {B tr : List Ed} {j j2 : Int → Prop} {np : Nat} (I : WI w S B tr j np) {n : Int} (hnr : 1 ≤ n ∧ n ≤ 64) {lo0 lo : Int → Int} {T : List Int} {add trc : List Ed} (C : VPost w S n none lo0 j T lo add trc j2) : WI w (S ++ T) (B ++ add) (tr ++ trc) j2 (np + 1) := by
  have hz : ∀ e ∈ w, e ≠ byE none := fun e he h => W.z (by rw [show edZ = byE none from rfl, ← h]; exact he)
  have hin : ∀ {e : Ed}, e ∈ w → tch e (· ∈ T) → e.a ∈ T ∧ e.b ∈ T := fun he h => tch_T I.cl C.cl C.nd he h
  have hno : ∀ x ∈ S, x ∉ T := fun x hx => mem_no C.nd hx
  refine { nd := C.nd, rng := ?_, cl := ?_, b2 := ?_, b3 := ?_, jn := ?_, t1 := ?_, t2 := ?_, t3 := ?_, t4 := ?_, t5 := ?_ }
  · intro x hx
    rcases List.mem_append.1 hx with hx | hx
    · exact I.rng x hx
    · rcases (C.con x hx).range (fun e he => (W.ok e he.1).1) with rfl | h
      · exact hnr
      · exact h
  · intro x hx
    rcases List.mem_append.1 hx with hx | hx
    · exact (I.cl x hx).mono fun y hy => List.mem_append_left _ hy
    · exact C.cl x hx
  · exact List.nodup_append.2 ⟨I.b2, C.b2, fun x hx y hy e => by subst e; exact hno _ ((I.b3 x).1 hx).2.1 (C.b1 x hy).2.1⟩
  · intro e
    simp only [List.mem_append]
    constructor
    · rintro (h | h)
      · have := (I.b3 e).1 h
        exact ⟨this.1, .inl this.2.1, .inl this.2.2.1, this.2.2.2⟩
      · have h1 := C.b1 e h
        exact ⟨h1.1, .inr h1.2.1, .inr h1.2.2, (C.b3 e h1.1 (hz e h1.1) (.inl h1.2.1)).1 h⟩
    · rintro ⟨he, h1, h2, h3⟩
      rcases h1 with h1 | h1
      · exact .inl ((I.b3 e).2 ⟨he, h1, I.cl _ h1 e he _ (.inl ⟨rfl, rfl⟩), h3⟩)
      · exact .inr ((C.b3 e he (hz e he) (.inl h1)).2 h3)
  · intro v
    rw [C.jn, I.jn, List.mem_append]
    constructor
    · rintro (h | h)
      · exact ⟨.inl h.1, h.2⟩
      · exact ⟨.inr h.1, h.2⟩
    · rintro ⟨h | h, h2⟩
      · exact .inl ⟨h, h2⟩
      · exact .inr ⟨h, h2⟩
  · intro e he
    rcases List.mem_append.1 he with he | he
    · have := I.t1 e he
      exact ⟨this.1, List.mem_append_left _ this.2.1, List.mem_append_left _ this.2.2⟩
    · have := C.t1 e he
      exact ⟨this.1, List.mem_append_right _ this.2.1, List.mem_append_right _ this.2.2⟩
  · exact List.nodup_append.2 ⟨I.t2, C.t2, fun x hx y hy e => by subst e; exact hno _ (I.t1 x hx).2.1 (C.t1 x hy).2.1⟩
  · have := I.t3
    have := C.t3
    simp only [List.length_append]
    omega
  · intro e he ha hn
    rw [List.mem_append, not_or] at hn
    rcases List.mem_append.1 ha with ha | ha
    · exact I.t4 e he ha hn.1
    · exact C.t4 e he (hz e he) (.inl ha) hn.2
  · intro e he hb
    rcases List.mem_append.1 he with he | he
    · obtain ⟨f, hf, hfa, hn⟩ := I.t5 e he hb
      exact ⟨f, hf, List.mem_append_left _ hfa, by rw [List.mem_append, not_or]; exact ⟨hn, fun hm => hno _ hfa (C.t1 f hm).2.1⟩⟩
    · obtain ⟨f, hf, _, ht, _, hn⟩ := C.t5 e he hb
      refine ⟨f, hf, List.mem_append_right _ (hin hf ht).1, ?_⟩
      rw [List.mem_append, not_or]
      exact ⟨fun hm => hno _ (I.t1 f hm).2.1 (hin hf ht).1, hn⟩
theorem edges_wok {l : List Arc} : WOk (edgesM l) := by
  unfold edgesM
  split
  · rename_i h
    have hl := arcs_ok h
    have key : ∀ e ∈ edgesL l, ∃ a ∈ l, a.f < a.t ∧ e = edOf a := fun e he => by
      obtain ⟨a, ha, rfl⟩ := List.mem_map.1 he
      obtain ⟨h1, h2⟩ := List.mem_filter.1 ha
      simp only [edP, Bool.and_eq_true, decide_eq_true_eq] at h2
      exact ⟨a, h1, h2.1, rfl⟩
    refine ⟨fun e he => ?_, fun e he f hf x y h1 h2 => ?_⟩
    · obtain ⟨a, ha, hlt, rfl⟩ := key e he
      have := hl a ha
      unfold AOk at this
      unfold EOk edOf
      simp only
      omega
    · obtain ⟨a, ha, hlt, rfl⟩ := key e he
      obtain ⟨b, hb, hlt2, rfl⟩ := key f hf
      unfold Adj edOf at h1 h2
      simp only at h1 h2
      have : a = b := arcs_uniq h ha hb (by omega) (by omega)
      rw [this]
  · exact ⟨fun e he => by simp at he, fun e he => by simp at he⟩
theorem has_iff {w : List Ed} {n : Int} : hasB w n = true ↔ ∃ e ∈ w, e.a = n ∨ e.b = n := by
  unfold hasB
  simp
theorem keys_sorted {w : List Ed} (W : WOk w) {em : List (Int × List Ed)} (hn : (mKeys em).Nodup) (h : ∀ n, n ∈ mKeys em ↔ ∃ e ∈ w, e.a = n ∨ e.b = n) : sortI (mKeys em) = upTo 65 (hasB w) :=
  sortI_eq hn (upTo_sorted _ _) (fun x => by
    rw [h, mem_upTo, has_iff]
    refine ⟨fun h => ⟨?_, ?_, h⟩, fun h => h.2.2⟩
    all_goals
      obtain ⟨e, he, h2⟩ := h
      have := (W.ok e he).1
      unfold EOk at this
      omega)
theorem WI.all {w : List Ed} {S : List Int} (h : ∀ x ∈ upTo 65 (hasB w), x ∈ S) (W : WOk w) : ∀ e ∈ w, e.a ∈ S ∧ e.b ∈ S := fun e he => by
  have := (W.ok e he).1
  unfold EOk at this
  exact ⟨h _ (mem_upTo.2 ⟨by omega, by omega, has_iff.2 ⟨e, he, .inl rfl⟩⟩), h _ (mem_upTo.2 ⟨by omega, by omega, has_iff.2 ⟨e, he, .inr rfl⟩⟩)⟩
/- bridge.whole -/
set_option maxRecDepth 100000 in
set_option maxHeartbeats 4000000 in
theorem br_whole {l : List Arc} (hll : l.length ≤ 1000000) {w : List Ed} (hw : edgesM l = w) : Triple Try.prog 50 [.sl 3 (l.map arcC)] [] (fun q h' => ∃ (sb eb fb lb jb : Nat) (em : List (Int × List Ed)) (S : List Int) (lm : List (Int × Int)) (g : Option Nat) (c : Nat) (B tr : List Ed) (jm : List (Int × Bool)) (np : Nat), q = (.v (.pointer (some ⟨sb, 0, none⟩))) ∧ h' = [BX sb eb fb lb jb g (B).length c, .map eb (kvM (slS 3 edC) em), .map fb (kvM inA (fmF 0 (S))), .map lb (kvM inA lm), .map jb (kvM boA jm), .sl g c 86 3 ((B).map edC)] ∧ WI w S B tr (jF jm) np ∧ (∀ x ∈ upTo 65 (hasB w), x ∈ S) ∧ (mKeys jm).Nodup) := by
  have hwl := edgesM_len l
  have W := edges_wok (l := l)
  rw [hw] at hwl W
  have hul := upTo_len 65 (hasB w)
  refine triple_of Try.func50 rfl (by kernel_rfl) rfl (by simp) ?_
  refine aSeq ?_
  refine aReg ?_
  refine sp pMa ?_
  refine oNil ?_
  refine aSeq ?_
  refine aReg ?_
  refine sp pM ?_
  refine sq ?_
  refine ci rfl rfl rfl (bridge_Edges_s (l := l) (by omega)) ?_
  rw [hw]
  refine sa ?_
  refine ca rfl rfl rfl (br_begin (w := w) (by omega) (fun e he => (W.ok e he).2)) ?_
  rintro _ _ ⟨sb, eb, fb, lb, jb, em, rfl, rfl, hem, hen, hek⟩
  have hks := keys_sorted W hen hek
  have heml : em.length ≤ 1000000 := by
    have := congrArg List.length hks
    rw [sortI_length] at this
    have h2 := upTo_len 65 (hasB w)
    simp only [mKeys, List.length_map] at this
    omega
  refine sp pMa ?_
  refine oNil ?_
  refine aSeq ?_
  refine aSeq ?_
  refine aReg ?_
  refine sp pM ?_
  refine sp (by first | exact pNv | exact pNs) ?_
  refine sp (by first | exact pFb fd_99_0 | exact pFs fd_99_0) ?_
  refine sr (by first | exact rS1 ty_95 | exact rB1 ty_95 | exact rAr ty_95 | exact rArL ty_95 | exact rArR2 ty_95) ?_
  refine sa ?_
  refine ca rfl rfl rfl (keys_mie eb) ?_
  rintro _ _ ⟨pb, rfl, rfl⟩
  refine sa ?_
  refine cai rfl rfl rfl (sorted_int_s _ _ (kvM (slS 3 edC) em) _ (keys1_mie_iter eb pb (kvM (slS 3 edC) em)) (by rw [kvM_len]; exact heml)) ?_
  rw [kvM_keys, hks]
  refine sp (by first | exact pLm sl_51 | exact pLs sl_51 | exact pLv sl_51) ?_
  refine sp pM ?_
  refine oNil ?_
  refine aBlock ?_
  refine loopF (α := Nat × List Int × List (Int × Int) × Option Nat × Nat × List Ed × List Ed × List (Int × Bool) × Nat) (kept := [(3, _), (16, _), (17, _)]) (fun (i, S, lm, g, c, B, tr, jm, np) => i ≤ (upTo 65 (hasB w)).length ∧ WI w S B tr (jF jm) np ∧ (∀ x ∈ (upTo 65 (hasB w)).take i, x ∈ S) ∧ (mKeys jm).Nodup) (fun (i, S, lm, g, c, B, tr, jm, np) => [(18, .int i)]) (fun (i, S, lm, g, c, B, tr, jm, np) => [BX sb eb fb lb jb g (B).length c, .map fb (kvM inA (fmF 0 (S))), .map lb (kvM inA lm), .map jb (kvM boA jm), .sl g c 86 3 ((B).map edC)]) (fun (i, S, lm, g, c, B, tr, jm, np) => (upTo 65 (hasB w)).length - i) (0, [], [], none, 0, [], [], [], 0) ?_ ⟨gInt rfl (by first | rfl | omega | simp), rfl, rfl, rfl, trivial⟩ (by repeat constructor) ?_
  · skip
    exact ⟨by omega, .nil w (fun v hv => by simp [jF, mKeys] at hv), fun x hx => by simp at hx, .nil⟩
  · rintro ⟨i, S, lm, g, c, B, tr, jm, np⟩ ⟨hi, I, hall, hjn⟩
    refine aSeq ?_
    refine aReg ?_
    refine sp pB ?_
    refine oNil ?_
    refine aSeq ?_
    refine aCondDec rfl (fun c19 => ?_) (fun c19 => ?_)
    · skip
      refine aSkip ?_
      refine aSeq ?_
      refine aBlock ?_
      refine aSeq ?_
      obtain ⟨n, hn⟩ : ∃ z, (upTo 65 (hasB w))[i]? = some z := ⟨_, List.getElem?_eq_getElem (by omega)⟩
      have hnm := mem_upTo.1 (List.mem_of_getElem? hn)
      have hnr : 1 ≤ n ∧ n ≤ 64 := by omega
      refine aReg ?_
      first | refine sp (pIx es_51) ?_ | (refine obtSN 16 18 rfl rfl (by omega) (fun x20 hx20 => ?_); refine sp (pIs es_51 hx20) ?_) | (refine obtS 16 18 rfl rfl (by omega) (by omega) (fun x20 hx20 => ?_); refine sp (pIs es_51 hx20) ?_) | refine sp (pIo es_51) ?_
      refine sr (by first | exact rS1 ty_3 | exact rB1 ty_3 | exact rAr ty_3 | exact rArL ty_3 | exact rArR2 ty_3) ?_
      refine sp pMa ?_
      refine oNil ?_
      refine aSeq ?_
      refine aReg ?_
      refine sp pM ?_
      refine sp (by first | exact pNv | exact pNs) ?_
      refine sp (by first | exact pFb fd_99_1 | exact pFs fd_99_1) ?_
      refine sr (by first | exact rS1 ty_96 | exact rB1 ty_96 | exact rAr ty_96 | exact rArL ty_96 | exact rArR2 ty_96) ?_
      refine sp pM ?_
      refine sr (rMGio mo_96 ze_3) ?_
      refine sp pM ?_
      refine sp pX ?_
      refine sp pX ?_
      refine sp pMa ?_
      refine sp pMa ?_
      refine oNil ?_
      refine aSeq ?_
      refine aReg ?_
      refine sp pM ?_
      refine sp pNo ?_
      refine oNil ?_
      refine aCondNot rfl (fun c32 => ?_) (fun c32 => ?_)
      · skip
        have hns : n ∉ S := fun h => by
          rw [rk_some h] at *
          simp_all
        refine aReg ?_
        refine sp pM ?_
        refine sp pM ?_
        refine sp (pBuild rfl st_86 ze_86 rfl rfl rfl rfl) ?_
        refine sa ?_
        refine ca rfl rfl rfl (br_visit sb eb fb lb jb W (by omega) hem 65 S n none lm g c B jm (I.pre hns) I.rng hnr I.bok (fun v hv => ((I.jn v).1 hv).1) hjn (by omega)) ?_
        rintro _ _ ⟨S2, T, lm2, g2, c2, B2, add, trc, jm2, rfl, rfl, rfl, rfl, C, hjn2⟩
        refine oNil ?_
        refine aReg ?_
        refine sp pAd ?_
        refine sp pM ?_
        refine oNil ?_
        first
          | (refine ⟨(i + 1, S ++ T, lm2, g2, c2, B ++ add, tr ++ trc, jm2, np + 1), ?_, by (try dsimp only); omega, ⟨gInt rfl (by first | rfl | omega | simp), rfl, rfl, rfl, trivial⟩, _, (by repeat constructor)⟩
             refine ⟨by omega, I.step W hnr C, fun x hx => ?_, hjn2⟩
             rw [take_step hn] at hx
             rcases List.mem_append.1 hx with hx | hx
             · exact List.mem_append_left _ (hall x hx)
             · rw [List.mem_singleton.1 hx]; exact List.mem_append_right _ C.hd)
          | (refine ⟨(i + 1, S, lm, g, c, B, tr, jm, np), ?_, by (try dsimp only); omega, ⟨gInt rfl (by first | rfl | omega | simp), rfl, rfl, rfl, trivial⟩, _, (by repeat constructor)⟩
             have hyi : n ∈ S := by
               have := mGet_mem.1 (by first | assumption | (simp_all; done) : (mGet (fmF 0 S) n).isSome = true)
               rwa [fmF_keys] at this
             refine ⟨by omega, I, fun x hx => ?_, hjn⟩
             rw [take_step hn] at hx
             rcases List.mem_append.1 hx with hx | hx
             · exact hall x hx
             · rw [List.mem_singleton.1 hx]; exact hyi)
      · skip
        refine aSkip ?_
        refine aReg ?_
        refine sp pAd ?_
        refine sp pM ?_
        refine oNil ?_
        first
          | (refine ⟨(i + 1, S ++ T, lm2, g2, c2, B ++ add, tr ++ trc, jm2, np + 1), ?_, by (try dsimp only); omega, ⟨gInt rfl (by first | rfl | omega | simp), rfl, rfl, rfl, trivial⟩, _, (by repeat constructor)⟩
             refine ⟨by omega, I.step W hnr C, fun x hx => ?_, hjn2⟩
             rw [take_step hn] at hx
             rcases List.mem_append.1 hx with hx | hx
             · exact List.mem_append_left _ (hall x hx)
             · rw [List.mem_singleton.1 hx]; exact List.mem_append_right _ C.hd)
          | (refine ⟨(i + 1, S, lm, g, c, B, tr, jm, np), ?_, by (try dsimp only); omega, ⟨gInt rfl (by first | rfl | omega | simp), rfl, rfl, rfl, trivial⟩, _, (by repeat constructor)⟩
             have hyi : n ∈ S := by
               have := mGet_mem.1 (by first | assumption | (simp_all; done) : (mGet (fmF 0 S) n).isSome = true)
               rwa [fmF_keys] at this
             refine ⟨by omega, I, fun x hx => ?_, hjn⟩
             rw [take_step hn] at hx
             rcases List.mem_append.1 hx with hx | hx
             · exact hall x hx
             · rw [List.mem_singleton.1 hx]; exact hyi)
    · skip
      refine aExit rfl ?_
      refine aSeq ?_
      refine aReg ?_
      refine sp pM ?_
      refine sp pMa ?_
      refine oNil ?_
      refine aRet ?_
      obtain rfl : i = (upTo 65 (hasB w)).length := by omega
      rw [List.take_length] at hall
      exact ⟨_, [BX sb eb fb lb jb g (B).length c, .map eb (kvM (slS 3 edC) em), .map fb (kvM inA (fmF 0 (S))), .map lb (kvM inA lm), .map jb (kvM boA jm), .sl g c 86 3 ((B).map edC)], _, rfl, (.cons (by repeat constructor) (.cons (by repeat constructor) (.cons (by repeat constructor) (.cons (by repeat constructor) (.cons (by repeat constructor) (.cons (by repeat constructor) .nil)))))), sb, eb, fb, lb, jb, em, S, lm, g, c, B, tr, jm, np, rfl, rfl, I, hall, hjn⟩
end A
end Go.Proofs.Ytnabkchagjjjnaa
set_option linter.unusedVariables false
set_option linter.unusedSimpArgs false
namespace Go.Proofs.Ytnabkchagjjjnaa
namespace A
theorem RF_all {w : List Ed} (W : WOk w) {n v : Int} (hn : 1 ≤ n ∧ n ≤ 64) : RF w n 0 v = true ↔ Conn (inW w) n v := by
  have hok : ∀ e ∈ w, EOk e := fun e he => (W.ok e he).1
  unfold RF
  rw [show (n != 0) = true by simp; omega, reachF_iff hok (by omega) (by omega)]
  have key : ∀ e, (e ∈ w ∧ okE edZ 0 e = true) ↔ inW w e := fun e => ⟨fun h => h.1, fun h => ⟨h, (edZ_ok hok h).2 (by have := hok e h; unfold EOk at this; omega)⟩⟩
  exact ⟨fun h => h.mono fun e he => (key e).1 he, fun h => h.mono fun e he => (key e).2 he⟩
theorem RF_ex {w : List Ed} (W : WOk w) {a n v : Int} (ha : 1 ≤ a ∧ a ≤ 64) (h : a ≠ n) : RF w a n v = true ↔ Conn (exN w n) a v := by
  have hok : ∀ e ∈ w, EOk e := fun e he => (W.ok e he).1
  unfold RF
  rw [show (a != n) = true by simp [h], reachF_iff hok (by omega) (by omega)]
  have key : ∀ e, (e ∈ w ∧ okE edZ n e = true) ↔ exN w n e := fun e => ⟨fun h => ⟨h.1, (edZ_ok hok h.1).1 h.2⟩, fun h => ⟨h.1, (edZ_ok hok h.1).2 h.2⟩⟩
  exact ⟨fun h => h.mono fun e he => (key e).1 he, fun h => h.mono fun e he => (key e).2 he⟩
theorem brgE_iff {w : List Ed} (W : WOk w) {e : Ed} (he : e ∈ w) : brgE w e = true ↔ Brg w e := by
  have hok : ∀ e ∈ w, EOk e := fun e he => (W.ok e he).1
  have h1 := hok e he
  unfold EOk at h1
  unfold brgE Brg
  rw [show (e.a != 0) = true by simp; omega, Bool.not_eq_true', ← Bool.not_eq_true, reachF_iff hok (by omega) (by omega)]
  have key : ∀ f, (f ∈ w ∧ okE e 0 f = true) ↔ exE w e f := fun f => by
    constructor
    · rintro ⟨h2, h3⟩
      refine ⟨h2, fun h => ?_⟩
      subst h
      unfold okE at h3
      simp at h3
    · rintro ⟨h2, h3⟩
      refine ⟨h2, ?_⟩
      have h4 := hok f h2
      unfold EOk at h4
      unfold okE
      cases e; cases f
      simp at h3 h4 ⊢
      refine ⟨⟨?_, ?_⟩, ?_⟩
      · exact Classical.byContradiction fun hn => by
          have h5 := h3 (by omega) (by omega)
          omega
      · omega
      · omega
  exact ⟨fun h k => h (k.mono fun f hf => (key f).2 hf), fun h k => h (k.mono fun f hf => (key f).1 hf)⟩
theorem Conn.off {w : List Ed} (W : WOk w) {a b : Int} (h : Conn (inW w) a b) : a = b ∨ (1 ≤ a ∧ a ≤ 64) ∧ (1 ≤ b ∧ b ≤ 64) := by
  have h1 := h.range (fun e he => (W.ok e he).1)
  have h2 := h.symm.range (fun e he => (W.ok e he).1)
  omega
theorem jN_iff {w : List Ed} (W : WOk w) {n : Int} (hn : 1 ≤ n ∧ n ≤ 64) : jN w n = true ↔ Jnt w n := by
  unfold jN
  rw [anyTo_iff]
  constructor
  · rintro ⟨a, h1, h2, h3⟩
    unfold jA at h3
    simp only [Bool.and_eq_true, bne_iff_ne, ne_eq, anyTo_iff] at h3
    obtain ⟨⟨h4, h5⟩, b, h6, h7, h8⟩ := h3
    unfold jB at h8
    simp only [Bool.and_eq_true, bne_iff_ne, ne_eq, Bool.not_eq_true', ← Bool.not_eq_true] at h8
    have ha : 1 ≤ a ∧ a ≤ 64 := by omega
    rw [RF_all W ha] at h5 h8
    rw [RF_ex W ha h4] at h8
    exact ⟨a, b, h4, h8.1, h5, h8.2.1, h8.2.2⟩
  · rintro ⟨a, b, h1, h2, h3, h4, h5⟩
    have ha : 1 ≤ a ∧ a ≤ 64 := by rcases h3.off W with h | h <;> omega
    have hb : 1 ≤ b ∧ b ≤ 64 := by
      rcases h4.off W with h | h
      · rw [← h]; exact ha
      · exact h.2
    refine ⟨a, by omega, by omega, ?_⟩
    unfold jA
    simp only [Bool.and_eq_true, bne_iff_ne, ne_eq, anyTo_iff]
    refine ⟨⟨h1, (RF_all W ha).2 h3⟩, b, by omega, by omega, ?_⟩
    unfold jB
    simp only [Bool.and_eq_true, bne_iff_ne, ne_eq, Bool.not_eq_true', ← Bool.not_eq_true]
    exact ⟨h2, (RF_all W ha).2 h4, fun h => h5 ((RF_ex W ha h1).1 h)⟩
def ordEd (a b : Ed) : Int := orI [cmpI a.a b.a, cmpI a.b b.b]
def ltEd (a b : Ed) : Prop := a.a < b.a ∨ a.a = b.a ∧ a.b < b.b
theorem ordEd_lt {a b : Ed} : ordEd a b < 0 ↔ ltEd a b := by
  simp only [ordEd, orI, ltEd, cmpI]
  repeat' split
  all_goals omega
theorem swo_ordEd : Go.Sort.SWO (Go.Proofs.ltOf ordEd) where
  irrefl := fun x => by
    simp only [Go.Proofs.ltOf, decide_eq_false_iff_not, ordEd_lt]
    unfold ltEd
    omega
  trans := fun x y z h1 h2 => by
    simp only [Go.Proofs.ltOf, decide_eq_true_eq, ordEd_lt] at *
    unfold ltEd at *
    omega
  ntrans := fun x y z h1 h2 => by
    simp only [Go.Proofs.ltOf, decide_eq_false_iff_not, ordEd_lt] at *
    unfold ltEd at *
    omega
theorem edgesM_sorted (l : List Arc) : (edgesM l).Pairwise ltEd := by
  unfold edgesM
  split
  · rename_i h
    unfold edgesL
    rw [List.pairwise_map]
    refine ((arcsB_sorted h).filter _).imp fun {a b} h => ?_
    unfold ltA at h
    unfold ltEd edOf
    simp only
    omega
  · exact .nil
theorem bridges_eq {w B us : List Ed} {S : List Int} {tr : List Ed} {j : Int → Prop} {np : Nat} (W : WOk w) (hw : w.Pairwise ltEd) (I : WI w S B tr j np) (hall : ∀ x ∈ upTo 65 (hasB w), x ∈ S) (hp : us.Perm B) (hs : us.Pairwise fun x y => Go.Proofs.ltOf ordEd y x = false) : us = w.filter (brgE w) := by
  have hin := WI.all hall W
  have hmem : ∀ e, e ∈ us ↔ e ∈ w ∧ Brg w e := fun e => by
    rw [hp.mem_iff, I.b3]
    exact ⟨fun h => ⟨h.1, h.2.2.2⟩, fun h => ⟨h.1, (hin e h.1).1, (hin e h.1).2, h.2⟩⟩
  have hnu : us.Nodup := hp.nodup_iff.2 I.b2
  have hlf : (w.filter (brgE w)).Pairwise ltEd := hw.sublist List.filter_sublist
  have hus : us.Pairwise ltEd := by
    refine List.Pairwise.imp_of_mem ?_ (hs.and hnu)
    intro x y hx hy h
    obtain ⟨h1, h2⟩ := h
    simp only [Go.Proofs.ltOf, decide_eq_false_iff_not, ordEd_lt] at h1
    have hne : ¬ (x.a = y.a ∧ x.b = y.b) := fun ⟨e1, e2⟩ => h2 (W.one x ((hmem x).1 hx).1 y ((hmem y).1 hy).1 x.a x.b (.inl ⟨rfl, rfl⟩) (.inl ⟨e1.symm, e2.symm⟩))
    unfold ltEd at *
    omega
  have hirr : ∀ {x y : Ed}, ltEd x y → ltEd y x → False := fun {x y} h1 h2 => by unfold ltEd at *; omega
  refine List.Perm.eq_of_pairwise (le := ltEd) (fun x y _ _ h1 h2 => (hirr h1 h2).elim) hus hlf ?_
  refine (List.perm_ext_iff_of_nodup hnu ?_).2 fun e => ?_
  · exact (List.nodup_iff_pairwise_ne.2 (hlf.imp fun {a b} h e => by subst e; exact hirr h h))
  · rw [hmem, List.mem_filter]
    constructor
    · rintro ⟨h1, h2⟩; exact ⟨h1, (brgE_iff W h1).2 h2⟩
    · rintro ⟨h1, h2⟩; exact ⟨h1, (brgE_iff W h1).1 h2⟩
def bridgesM (l : List Arc) : List Ed := (edgesM l).filter (brgE (edgesM l))
def jointsM (l : List Arc) : List Int := upTo 65 (jN (edgesM l))
theorem Jnt.has {w : List Ed} {n : Int} (h : Jnt w n) : hasB w n = true := by
  obtain ⟨a, b, h5, h6, h7, h8, h9⟩ := h
  rw [has_iff]
  cases h7 with
  | refl => exact absurd rfl h5
  | up k he hm => exact ⟨_, he, .inr rfl⟩
  | down k he hm => exact ⟨_, he, .inl rfl⟩
theorem joints_eq {w : List Ed} {B : List Ed} {S : List Int} {tr : List Ed} {jm : List (Int × Bool)} {np : Nat} (W : WOk w) (I : WI w S B tr (jF jm) np) (hall : ∀ x ∈ upTo 65 (hasB w), x ∈ S) (hjn : (mKeys jm).Nodup) : sortI (mKeys jm) = upTo 65 (jN w) := by
  refine sortI_eq hjn (upTo_sorted _ _) fun x => ?_
  have h1 : x ∈ mKeys jm ↔ x ∈ S ∧ Jnt w x := I.jn x
  rw [h1, mem_upTo]
  constructor
  · rintro ⟨h2, h3⟩
    have h4 := I.rng x h2
    exact ⟨by omega, by omega, (jN_iff W h4).2 h3⟩
  · rintro ⟨h2, h3, h5⟩
    have hJ := (jN_iff W ⟨h2, by omega⟩).1 h5
    exact ⟨hall x (mem_upTo.2 ⟨h2, h3, hJ.has⟩), hJ⟩
def srtE_ren : Go.Shelf.Ren := ⟨fun | 6 => 51 | 15 => 73 | 14 => 72 | 28 => 89 | 29 => 90 | 20 => 81 | 21 => 82 | 22 => 83 | 23 => 84 | 24 => 85 | 25 => 86 | 26 => 87 | 27 => 88 | 46 => 100 | 47 => 101 | 48 => 102 | 49 => 103 | 50 => 104 | 57 => 108 | n => n, fun | 22 => 56 | 24 => 86 | 25 => 102 | 3 => 3 | 39 => 121 | 0 => 0 | 53 => 133 | 55 => 135 | 4 => 4 | 46 => 127 | 45 => 126 | 50 => 108 | 5 => 5 | 9 => 9 | 66 => 142 | 70 => 146 | 76 => 150 | 77 => 151 | n => n, fun | n => n⟩
theorem srtE : Go.Proofs.SlLaysF0.n6 Try.prog srtE_ren := {
  mixed := by kernel_rfl,
  f6 := ⟨"slices.SortFunc[[]waymark/api.Edge,waymark/api.Edge]", by decide, Try.func51.trans (congrArg some (by kernel_rfl))⟩,
  f14 := ⟨"slices.pdqsortCmpFunc[waymark/api.Edge]", by decide, Try.func72.trans (congrArg some (by kernel_rfl))⟩,
  f15 := Try.func73.trans (congrArg some (by kernel_rfl)),
  f20 := ⟨"slices.insertionSortCmpFunc[waymark/api.Edge]", by decide, Try.func81.trans (congrArg some (by kernel_rfl))⟩,
  f21 := ⟨"slices.heapSortCmpFunc[waymark/api.Edge]", by decide, Try.func82.trans (congrArg some (by kernel_rfl))⟩,
  f22 := ⟨"slices.breakPatternsCmpFunc[waymark/api.Edge]", by decide, Try.func83.trans (congrArg some (by kernel_rfl))⟩,
  f23 := ⟨"slices.choosePivotCmpFunc[waymark/api.Edge]", by decide, Try.func84.trans (congrArg some (by kernel_rfl))⟩,
  f24 := ⟨"slices.reverseRangeCmpFunc[waymark/api.Edge]", by decide, Try.func85.trans (congrArg some (by kernel_rfl))⟩,
  f25 := ⟨"slices.partialInsertionSortCmpFunc[waymark/api.Edge]", by decide, Try.func86.trans (congrArg some (by kernel_rfl))⟩,
  f26 := ⟨"slices.partitionEqualCmpFunc[waymark/api.Edge]", by decide, Try.func87.trans (congrArg some (by kernel_rfl))⟩,
  f27 := ⟨"slices.partitionCmpFunc[waymark/api.Edge]", by decide, Try.func88.trans (congrArg some (by kernel_rfl))⟩,
  f28 := Try.func89.trans (congrArg some (by kernel_rfl)),
  f29 := Try.func90.trans (congrArg some (by kernel_rfl)),
  f46 := ⟨"slices.siftDownCmpFunc[waymark/api.Edge]", by decide, Try.func100.trans (congrArg some (by kernel_rfl))⟩,
  f47 := Try.func101.trans (congrArg some (by kernel_rfl)),
  f48 := Try.func102.trans (congrArg some (by kernel_rfl)),
  f49 := ⟨"slices.medianAdjacentCmpFunc[waymark/api.Edge]", by decide, Try.func103.trans (congrArg some (by kernel_rfl))⟩,
  f50 := ⟨"slices.medianCmpFunc[waymark/api.Edge]", by decide, Try.func104.trans (congrArg some (by kernel_rfl))⟩,
  f57 := ⟨"slices.order2CmpFunc[waymark/api.Edge]", by decide, Try.func108.trans (congrArg some (by kernel_rfl))⟩,
  t0 := Try.underlying0,
  a0 := Try.isAgg0,
  z0 := Try.sizeOf0,
  v0 := Try.zeroValue0,
  t3 := Try.underlying3,
  a3 := Try.isAgg3,
  z3 := Try.sizeOf3,
  v3 := Try.zeroValue3,
  t4 := Try.underlying4,
  a4 := Try.isAgg4,
  z4 := Try.sizeOf4,
  v4 := Try.zeroValue4,
  t5 := Try.underlying5,
  a5 := Try.isAgg5,
  z5 := Try.sizeOf5,
  v5 := Try.zeroValue5,
  t9 := Try.underlying9,
  a9 := Try.isAgg9,
  z9 := Try.sizeOf9,
  v9 := Try.zeroValue9,
  t22 := Try.underlying56,
  a22 := Try.isAgg56,
  z22 := Try.sizeOf56,
  v22 := Try.zeroValue56,
  t25 := Try.underlying102,
  a25 := Try.isAgg102,
  z25 := Try.sizeOf102,
  v25 := Try.zeroValue102,
  t39 := Try.underlying121,
  a39 := Try.isAgg121,
  z39 := Try.sizeOf121,
  v39 := Try.zeroValue121,
  t45 := Try.underlying126,
  a45 := Try.isAgg126,
  z45 := Try.sizeOf126,
  v45 := Try.zeroValue126,
  t46 := Try.underlying127,
  a46 := Try.isAgg127,
  z46 := Try.sizeOf127,
  v46 := Try.zeroValue127,
  t50 := Try.underlying108,
  a50 := Try.isAgg108,
  z50 := Try.sizeOf108,
  v50 := Try.zeroValue108,
  t53 := Try.underlying133,
  a53 := Try.isAgg133,
  z53 := Try.sizeOf133,
  v53 := Try.zeroValue133,
  t55 := Try.underlying135,
  a55 := Try.isAgg135,
  z55 := Try.sizeOf135,
  v55 := Try.zeroValue135,
  t66 := Try.underlying142,
  a66 := Try.isAgg142,
  z66 := Try.sizeOf142,
  v66 := Try.zeroValue142,
  t70 := Try.underlying146,
  a70 := Try.isAgg146,
  z70 := Try.sizeOf146,
  v70 := Try.zeroValue146,
  t76 := Try.underlying150,
  a76 := Try.isAgg150,
  z76 := Try.sizeOf150,
  v76 := Try.zeroValue150,
  t77 := Try.underlying151,
  a77 := Try.isAgg151,
  z77 := Try.sizeOf151,
  v77 := Try.zeroValue151 }
theorem hb_srtE : HasBody Try.prog 51 := ⟨_, Try.func51, by kernel_rfl, rfl⟩
theorem hb_br1 : HasBody Try.prog 52 := ⟨_, Try.func52, by kernel_rfl, rfl⟩
def encEd (e : Ed) : List Value := [.int .i64 e.a, .int .i64 e.b, .int .i64 e.c]
/- bridge.Bridges$1 -/
def br_Bridges1_r1_T : Bool × List (List Nat × List Nat) := (true, [([], []), ([0], [0]), ([], []), ([2], [2]), ([1, 3], [1, 3]), ([], []), ([5], [5]), ([], []), ([7], [7]), ([6, 8, 4], [6, 8]), ([4, 9], [4, 9]), ([10, 9], [10]), ([11, 11, 0, 1, 2, 3, 4, 5, 6, 7, 8, 9, 10, 11], [11])])
def br_Bridges1_r1_B : List Nat := [0, 1, 0, 4, 15, 0, 32, 0, 128, 511, 1023, 2047, 4095]
theorem br_Bridges1_r1_t : Go.Proofs.YtnabkchagjjjnaaW.PrintLast.rtab .any (Go.Proofs.YtnabkchagjjjnaaW.PrintLast.opsOf Try.f52 1) = br_Bridges1_r1_T := by kernel_rfl
theorem br_Bridges1_r1_b : Go.Proofs.YtnabkchagjjjnaaW.PrintLast.waitsOk br_Bridges1_r1_T.2 br_Bridges1_r1_B = true := by kernel_rfl
set_option maxRecDepth 100000 in
set_option maxHeartbeats 400000 in
theorem br_Bridges1 {a b : Ed} : Triple Try.prog 52 [.agg (edC a), .agg (edC b)] [] (Is (.v (.int .i64 (ordEd a b))) []) := by
  refine triple_of Try.func52 rfl (by kernel_rfl) rfl (by simp) ?_
  refine aSeq ?_
  refine aReg ?_
  refine sq ?_
  refine qBox rfl rfl (by decide) rfl rfl (fun b2 => ?_)
  refine sq ?_
  refine qBox rfl rfl (by decide) rfl rfl (fun b3 => ?_)
  refine sp pMa ?_
  refine oNil ?_
  refine aSeq ?_
  refine aDrawT br_Bridges1_r1_t br_Bridges1_r1_b [] 13 #[false, false, false, false, false, false, false, false, false, false, false, false, false] (by kernel_rfl) rfl rfl (fun HT => ?_)
  refine dp HT 0 rfl (pFb fd_86_0) ?_
  refine dr HT 1 rfl (rB1 ty_3) ?_
  refine dp HT 2 rfl (pFb fd_86_0) ?_
  refine dr HT 3 rfl (rB1 ty_3) ?_
  refine dp HT 5 rfl (pFb fd_86_1) ?_
  refine dr HT 6 rfl (rB1 ty_3) ?_
  refine dp HT 7 rfl (pFb fd_86_1) ?_
  refine dr HT 8 rfl (rB1 ty_3) ?_
  refine dGo ?_
  refine e1 HT 4 rfl ?_
  refine cv rfl rfl rfl (lents_refl _) cmp_Compare ?_
  refine e1 HT 9 rfl ?_
  refine cv rfl rfl rfl (lents_refl _) cmp_Compare ?_
  refine e1 HT 10 rfl ?_
  refine qLit (l := [_, _]) rfl rfl (by decide) us_51 ty_3 ze_3 rfl (by decide) (by decide) rfl rfl rfl (fun b15 => ?_)
  refine e1 HT 11 rfl ?_
  refine cv rfl rfl rfl (by repeat (first | exact .nil | refine .cons (.sl (by repeat (first | exact List.mem_cons_self | apply List.mem_cons_of_mem)) (by first | rfl | simp)) ?_ | refine .cons (.same _) ?_)) (cmp_Or [cmpI a.a b.a, cmpI a.b b.b]) ?_
  refine ePure (i := 12) #[true, true, true, true, true, true, true, true, true, true, true, true, true] rfl rfl rfl (HT.any (by kernel_rfl)) (by exact pMa) (by decide) ?_
  refine eE HT ?_
  clear HT
  refine aRet ?_
  refine finIs rfl ?_
  rfl
theorem sort_Ed (g : Option Nat) (c : Nat) (l : List Ed) (hl : l.length ≤ 1000000) : Triple Try.prog 51 [.v (slV g l.length c), .fn (.func 52) []] [.sl g c 86 3 (l.map edC)] (fun r h' => ∃ ts : List Ed, ts.Perm l ∧ ts.Pairwise (fun x y => Go.Proofs.ltOf ordEd y x = false) ∧ r = .tup [] ∧ h' = [.sl g c 86 3 (ts.map edC)]) :=
  triple_sortFunc (P := Try.prog) (k := 3) srtE rfl hb_srtE rfl ty_86 (by decide) encEd (fun _ => rfl) (fun _ => rfl) (fun e v hv => by simp [encEd] at hv; rcases hv with rfl | rfl | rfl <;> rfl) ordEd swo_ordEd (fun x y => br_Bridges1 (a := x) (b := y)) hb_br1 g c 86 l (by omega)
/- bridge.Bridges -/
set_option maxRecDepth 100000 in
set_option maxHeartbeats 1000000 in
theorem br_Bridges {l : List Arc} (hll : l.length ≤ 1000000 := by omega) : Triple Try.prog 24 [.sl 3 (l.map arcC)] [] (Own 86 3 ((bridgesM l).map edC) []) := by
  refine triple_of Try.func24 rfl (by kernel_rfl) rfl (by simp) ?_
  refine aSeq ?_
  refine aReg ?_
  refine sp pMa ?_
  refine oNil ?_
  refine aSeq ?_
  refine aReg ?_
  refine sp pM ?_
  refine sa ?_
  refine ca rfl rfl rfl ((br_whole (l := l) hll rfl)) ?_
  rintro _ _ ⟨sb, eb, fb, lb, jb, em, S, lm, g, c, B, tr, jm, np, rfl, rfl, I, hall, hjn⟩
  have W := edges_wok (l := l)
  have hBl : B.length ≤ 1000000 := by
    have := I.bok.len
    have := edgesM_len l
    omega
  refine sp pMa ?_
  refine oNil ?_
  refine aSeq ?_
  refine aReg ?_
  refine sp pM ?_
  refine sp (by first | exact pNv | exact pNs) ?_
  refine sp (by first | exact pFb fd_99_3 | exact pFs fd_99_3) ?_
  refine sr (by first | exact rS1 ty_56 | exact rB1 ty_56 | exact rAr ty_56 | exact rArL ty_56 | exact rArR2 ty_56) ?_
  refine sa ?_
  refine ca rfl rfl rfl (sort_Ed g c B (by omega)) ?_
  rintro _ _ ⟨us, hpu, hsu, rfl, rfl⟩
  have hue := bridges_eq W (edgesM_sorted l) I hall hpu hsu
  have hul := hpu.length_eq
  refine oNil ?_
  refine aSeq ?_
  refine aReg ?_
  refine sp pM ?_
  refine sp (by first | exact pNv | exact pNs) ?_
  refine sp (by first | exact pFb fd_99_3 | exact pFs fd_99_3) ?_
  refine sr (by first | exact rS1 ty_56 | exact rB1 ty_56 | exact rAr ty_56 | exact rArL ty_56 | exact rArR2 ty_56) ?_
  refine sp pMa ?_
  refine oNil ?_
  refine aRet ?_
  refine finOwn rfl ?_
  rw [hue]
  rfl
/- bridge.Joints -/
set_option maxRecDepth 100000 in
set_option maxHeartbeats 1000000 in
theorem br_Joints {l : List Arc} (hll : l.length ≤ 1000000 := by omega) : Triple Try.prog 25 [.sl 3 (l.map arcC)] [] (Is (.sl 1 ((jointsM l).map intA)) []) := by
  refine triple_of Try.func25 rfl (by kernel_rfl) rfl (by simp) ?_
  refine aSeq ?_
  refine aReg ?_
  refine sp pMa ?_
  refine oNil ?_
  refine aSeq ?_
  refine aReg ?_
  refine sp pM ?_
  refine sa ?_
  refine ca rfl rfl rfl ((br_whole (l := l) hll rfl)) ?_
  rintro _ _ ⟨sb, eb, fb, lb, jb, em, S, lm, g, c, B, tr, jm, np, rfl, rfl, I, hall, hjn⟩
  have W := edges_wok (l := l)
  have hBl : B.length ≤ 1000000 := by
    have := I.bok.len
    have := edgesM_len l
    omega
  have hjs := joints_eq W I hall hjn
  have hjl : jm.length ≤ 1000000 := by
    have := congrArg List.length hjs
    rw [sortI_length] at this
    have h2 := upTo_len 65 (jN (edgesM l))
    simp only [mKeys, List.length_map] at this
    omega
  refine sp (by first | exact pNv | exact pNs) ?_
  refine sp (by first | exact pFb fd_99_4 | exact pFs fd_99_4) ?_
  refine sr (by first | exact rS1 ty_97 | exact rB1 ty_97 | exact rAr ty_97 | exact rArL ty_97 | exact rArR2 ty_97) ?_
  refine sa ?_
  refine ca rfl rfl rfl (keys_mib jb) ?_
  rintro _ _ ⟨pb, rfl, rfl⟩
  refine sa ?_
  refine cai rfl rfl rfl (sorted_int_s _ _ (kvM boA jm) _ (keys1_mib_iter jb pb (kvM boA jm)) (by rw [kvM_len]; exact hjl)) ?_
  rw [kvM_keys, hjs]
  refine sp pMa ?_
  refine oNil ?_
  refine aRet ?_
  refine finIs rfl ?_
  rfl
end A
end Go.Proofs.Ytnabkchagjjjnaa
set_option linter.unusedVariables false
set_option linter.unusedSimpArgs false
namespace Go.Proofs.Ytnabkchagjjjnaa
namespace A
/- slices.IndexFunc[[]int,int] -/
set_option maxRecDepth 100000 in
set_option maxHeartbeats 400000 in
theorem index_IntH {f : FuncId} {caps : List AV} {p : Int → Bool} {X Y : HA} (hf : ∀ x : Int, Triple Try.prog f ([AV.int x] ++ caps) [X, Y] (Is (.v (.bool (p x))) [X, Y])) (g : Option Nat) (c : Nat) (l : List Int) (hl : l.length ≤ 1000000) : Triple Try.prog 77 [.v (slV g l.length c), .fn (.func f) caps] [.sl g c 3 1 (l.map intA), X, Y] (Is (.v (.int .i64 (idxF p l))) [.sl g c 3 1 (l.map intA), X, Y]) := by
  refine triple_of Try.func77 rfl (by kernel_rfl) rfl (by simp) ?_
  refine aSeq ?_
  refine aReg ?_
  refine sp pMa ?_
  refine oNil ?_
  refine aSeq ?_
  refine aSeq ?_
  refine aReg ?_
  refine sp pM ?_
  refine sp (by first | exact pLm sl_51 | exact pLs sl_51 | exact pLv sl_51) ?_
  refine sp pM ?_
  refine oNil ?_
  refine aBlock ?_
  refine loopF (α := Nat) (kept := [(0, _), (1, _), (7, _)]) (fun i => i ≤ l.length ∧ ∀ y ∈ l.take i, p y = false) (fun i => [(8, .int i)]) (fun i => [.sl g c 3 1 (l.map intA), X, Y]) (fun i => l.length - i) 0 ?_ ⟨gInt rfl (by first | rfl | omega | simp), rfl, rfl, rfl, trivial⟩ (by repeat constructor) ?_
  · skip
    exact ⟨by omega, fun y hy => by simp at hy⟩
  · rintro i ⟨hi, hv⟩
    refine aSeq ?_
    refine aReg ?_
    refine sp pB ?_
    refine oNil ?_
    refine aSeq ?_
    refine aCondDec rfl (fun c9 => ?_) (fun c9 => ?_)
    · skip
      refine aSkip ?_
      refine aSeq ?_
      refine aBlock ?_
      refine aSeq ?_
      refine aReg ?_
      refine sp pM ?_
      refine sp pMa ?_
      refine oNil ?_
      refine aSeq ?_
      obtain ⟨x, hx⟩ : ∃ x, l[i]? = some x := ⟨_, List.getElem?_eq_getElem (by omega)⟩
      refine aSome .hd (by intro e; simp at e; subst e; simp at hx) (fun b hb => ?_)
      subst hb
      refine aReg ?_
      refine sp pM ?_
      refine sp pM ?_
      refine sp pM ?_
      first | refine sp (pIx es_51) ?_ | (refine obtSN 12 13 rfl rfl (by omega) (fun x14 hx14 => ?_); refine sp (pIs es_51 hx14) ?_) | (refine obtS 12 13 rfl rfl (by omega) (by omega) (fun x14 hx14 => ?_); refine sp (pIs es_51 hx14) ?_) | refine sp (pIo es_51) ?_
      refine sr (rO1 ty_3 hx) ?_
      refine sa ?_
      refine cai rfl rfl rfl (hf x) ?_
      refine oNil ?_
      refine aCond rfl (fun c16 => ?_) (fun c16 => ?_)
      · skip
        refine aSeq ?_
        refine aReg ?_
        refine sp pM ?_
        refine sp pMa ?_
        refine oNil ?_
        refine aRet ?_
        refine finIs rfl ?_
        show AV.int _ = AV.int _
        rw [(idxF_at hv hx (by simp_all)).1]
      · skip
        refine aSkip ?_
        refine aReg ?_
        refine sp pAd ?_
        refine sp pM ?_
        refine oNil ?_
        refine ⟨i + 1, ?_, by (try dsimp only); omega, ⟨gInt rfl (by first | rfl | omega | simp), rfl, rfl, rfl, trivial⟩, _, (by repeat constructor)⟩
        refine ⟨by omega, fun y hy => ?_⟩
        rw [take_step hx] at hy
        rcases List.mem_append.1 hy with hy | hy
        · exact hv y hy
        · rw [List.mem_singleton.1 hy]; simp_all
    · skip
      refine aExit rfl ?_
      refine aSeq ?_
      refine aReg ?_
      refine sp pMa ?_
      refine oNil ?_
      refine aRet ?_
      refine finIs rfl ?_
      show AV.int _ = AV.int _
      rw [take_all (by omega)] at hv
      rw [(idxF_no hv).1]
/- slices.DeleteFunc[[]int,int] -/
set_option maxRecDepth 100000 in
set_option maxHeartbeats 1000000 in
theorem delete_IntH {f : FuncId} {caps : List AV} {p : Int → Bool} {X Y : HA} (hf : ∀ x : Int, Triple Try.prog f ([AV.int x] ++ caps) [X, Y] (Is (.v (.bool (p x))) [X, Y])) (g : Option Nat) (c : Nat) (l : List Int) (hl : l.length ≤ 1000000) : Triple Try.prog 61 [.v (slV g l.length c), .fn (.func f) caps] [.sl g c 3 1 (l.map intA), X, Y] (Own 3 1 ((l.filter fun x => !p x).map intA) [X, Y]) := by
  refine triple_of Try.func61 rfl (by kernel_rfl) rfl (by simp) ?_
  refine aSeq ?_
  refine aReg ?_
  refine sp pMa ?_
  refine oNil ?_
  refine aSeq ?_
  refine aReg ?_
  refine sp pM ?_
  refine sp pM ?_
  refine sa ?_
  refine cai rfl rfl rfl (index_IntH hf g c l hl) ?_
  refine sp pMa ?_
  refine oNil ?_
  refine aSeq ?_
  refine aSeq ?_
  refine aReg ?_
  refine sp pM ?_
  refine sp pB ?_
  refine oNil ?_
  refine aCondEq rfl (fun c12 => ?_) (fun c12 => ?_)
  · skip
    refine aSeq ?_
    refine aReg ?_
    refine sp pM ?_
    refine sp pMa ?_
    refine oNil ?_
    refine aRet ?_
    refine finOwn rfl ?_
    have hn : idxF p l = -1 := by assumption
    rw [idxF_none hn]
  · skip
    refine aSkip ?_
    refine aSeq ?_
    refine aSeq ?_
    obtain ⟨n, hn, hnl, hx0⟩ := idxF_split (p := p) (l := l) (by assumption)
    rw [hn] at *
    refine aSome .hd (by intro e; simp at e; subst e; simp at hnl) (fun b hb => ?_)
    subst hb
    refine aCap .hd (fun hcap => ?_)
    rw [List.length_map] at hcap
    refine aReg ?_
    refine sp pM ?_
    refine sp pAd ?_
    refine sp pMa ?_
    refine oNil ?_
    refine aBlock ?_
    refine loopF (α := Nat × Nat × List Int) (kept := [(0, _), (1, _)]) (fun (j, i, cur) => cur.length = l.length ∧ i < j ∧ j ≤ l.length ∧ cur.take i = (l.take j).filter (fun x => !p x) ∧ cur.drop j = l.drop j) (fun (j, i, cur) => [(5, .int i), (6, .int j)]) (fun (j, i, cur) => [.sl (some b) c 3 1 (cur.map intA), X, Y]) (fun (j, i, cur) => l.length - j) (n + 1, n, l) ?_ ⟨gInt rfl (by first | rfl | omega | simp), gInt rfl (by first | rfl | omega | simp), rfl, rfl, trivial⟩ (by repeat constructor) ?_
    · skip
      exact ⟨rfl, by omega, by omega, hx0, rfl⟩
    · rintro ⟨j, i, cur⟩ ⟨hcl, hij, hj, htk, hdr⟩
      refine aSeq ?_
      refine aSeq ?_
      refine aReg ?_
      refine sp pM ?_
      refine sp pM ?_
      refine sp (by first | exact pLm sl_51 | exact pLs sl_51 | exact pLv sl_51) ?_
      refine sp pB ?_
      refine oNil ?_
      refine aCondDec rfl (fun c19 => ?_) (fun c19 => ?_)
      · skip
        refine aSkip ?_
        refine aSeq ?_
        refine aBlock ?_
        refine aSeq ?_
        obtain ⟨x, hx⟩ : ∃ x, cur[j]? = some x := ⟨_, List.getElem?_eq_getElem (by omega)⟩
        have hxl : l[j]? = some x := by rw [← hx]; have := congrArg (·[0]?) hdr; simpa using this.symm
        refine aReg ?_
        refine sp pM ?_
        refine sp pM ?_
        first | refine sp (pIx es_51) ?_ | (refine obtSN 22 23 rfl rfl (by omega) (fun x24 hx24 => ?_); refine sp (pIs es_51 hx24) ?_) | (refine obtS 22 23 rfl rfl (by omega) (by omega) (fun x24 hx24 => ?_); refine sp (pIs es_51 hx24) ?_) | refine sp (pIo es_51) ?_
        refine sr (rO1 ty_3 hx) ?_
        refine sp pMa ?_
        refine oNil ?_
        refine aSeq ?_
        refine aReg ?_
        refine sp pM ?_
        refine sp pM ?_
        refine sa ?_
        refine cai rfl rfl rfl (hf x) ?_
        refine sp pNo ?_
        refine oNil ?_
        refine aCondNot rfl (fun c29 => ?_) (fun c29 => ?_)
        · skip
          refine aSeq ?_
          refine aReg ?_
          refine sp pM ?_
          refine sp pM ?_
          refine sp pM ?_
          first | refine sp (pIx es_51) ?_ | (refine obtSN 30 31 rfl rfl (by omega) (fun x33 hx33 => ?_); refine sp (pIs es_51 hx33) ?_) | (refine obtS 30 31 rfl rfl (by omega) (by omega) (fun x33 hx33 => ?_); refine sp (pIs es_51 hx33) ?_) | refine sp (pIo es_51) ?_
          refine sa ?_
          refine oStE (fC := intA) (l := cur) (a := x) (i := (i : Int)) rfl rfl rfl rfl ty_3 ?_
          refine oNil ?_
          refine aReg ?_
          refine sp pM ?_
          refine sp pAd ?_
          refine sp pMa ?_
          refine oNil ?_
          refine aReg ?_
          refine sp pM ?_
          refine sp pAd ?_
          refine sp pMa ?_
          refine oNil ?_
          refine ⟨(j + 1, _, _), ?_, by (try dsimp only); omega, ⟨gInt rfl (by first | rfl | omega | simp), gInt rfl (by first | rfl | omega | simp), rfl, rfl, trivial⟩, _, (by repeat constructor)⟩
          have hdr2 : cur.drop (j + 1) = l.drop (j + 1) := by rw [← List.drop_drop, hdr, List.drop_drop]
          have hs : (l.take (j + 1)).filter (fun x => !p x) = cur.take i ++ (if p x then [] else [x]) := by
            rw [take_step hxl, List.filter_append, ← htk]
            cases hp : p x <;> simp [hp]
          first
            | (have hpx : p x = false := by assumption
               rw [hpx] at hs
               simp only [Int.toNat_natCast]
               refine ⟨by rw [List.length_set]; exact hcl, by omega, by omega, ?_, ?_⟩
               · rw [hs]; exact take_set_succ (by omega)
               · rw [List.drop_set_of_lt (by omega)]; exact hdr2)
            | (have hpx : p x = true := by assumption
               rw [hpx] at hs
               exact ⟨hcl, by omega, by omega, by rw [hs]; simp, hdr2⟩)
        · skip
          refine aSkip ?_
          refine aReg ?_
          refine sp pM ?_
          refine sp pAd ?_
          refine sp pMa ?_
          refine oNil ?_
          refine ⟨(j + 1, _, _), ?_, by (try dsimp only); omega, ⟨gInt rfl (by first | rfl | omega | simp), gInt rfl (by first | rfl | omega | simp), rfl, rfl, trivial⟩, _, (by repeat constructor)⟩
          have hdr2 : cur.drop (j + 1) = l.drop (j + 1) := by rw [← List.drop_drop, hdr, List.drop_drop]
          have hs : (l.take (j + 1)).filter (fun x => !p x) = cur.take i ++ (if p x then [] else [x]) := by
            rw [take_step hxl, List.filter_append, ← htk]
            cases hp : p x <;> simp [hp]
          first
            | (have hpx : p x = false := by assumption
               rw [hpx] at hs
               simp only [Int.toNat_natCast]
               refine ⟨by rw [List.length_set]; exact hcl, by omega, by omega, ?_, ?_⟩
               · rw [hs]; exact take_set_succ (by omega)
               · rw [List.drop_set_of_lt (by omega)]; exact hdr2)
            | (have hpx : p x = true := by assumption
               rw [hpx] at hs
               exact ⟨hcl, by omega, by omega, by rw [hs]; simp, hdr2⟩)
      · skip
        refine aExit rfl ?_
        refine aSeq ?_
        have hjl : j = l.length := by omega
        subst hjl
        rw [List.take_length] at htk
        refine aReg ?_
        refine sp pM ?_
        refine sp pM ?_
        refine sp (pSlLo rfl rfl es_51 (bdI rfl) (by omega) (by omega)) ?_
        refine sa ?_
        refine oClearT (zs := [.int 0]) rfl rfl rfl (by repeat constructor) (by rw [List.length_map]; omega) (by omega) el_51 ze_3 rfl rfl (by intro F w j av x hj hx; repeat (first | (cases j with | zero => (simp at hj; simp [Value.cells] at hx; subst hj; subst hx; exact .v _) | succ j => _) | (simp at hj; done))) ?_
        refine oNil ?_
        refine aSeq ?_
        refine aReg ?_
        refine sp pM ?_
        refine sp pM ?_
        refine sp (pSlHi rfl rfl es_51 (bdI rfl) (by omega)) ?_
        refine sp pMa ?_
        refine oNil ?_
        refine aWeak (weak_cut i (by repeat constructor)) ?_
        refine aRet ?_
        have hil : (List.map intA cur).length = cur.length := by simp
        refine finOwn rfl ?_ 
        rw [List.take_append_of_le_length (by rw [List.length_take]; omega), List.take_take, Nat.min_self, ← htk, List.map_take]
end A
end Go.Proofs.Ytnabkchagjjjnaa
set_option linter.unusedVariables false
set_option linter.unusedSimpArgs false
namespace Go.Proofs.Ytnabkchagjjjnaa
namespace A
theorem ze_96 : zeroOf Try.prog 96 = some (.map none) := by kernel_rfl
def cloW_ren : Go.Shelf.Ren := ⟨fun | 5 => 59 | 7 => 66 | n => n, fun | 23 => 96 | 25 => 3 | 3 => 3 | 4 => 4 | 20 => 20 | n => n, fun | n => n⟩
theorem cloW : Go.Proofs.SlLaysW.n5 Try.prog cloW_ren := {
  mixed := by kernel_rfl,
  f5 := ⟨"maps.Clone[map[int]int,int,int]", by decide, Try.func59.trans (congrArg some (by kernel_rfl))⟩,
  f7 := Try.func66.trans (congrArg some (by kernel_rfl)),
  t4 := Try.underlying4,
  a4 := Try.isAgg4,
  z4 := Try.sizeOf4,
  v4 := Try.zeroValue4,
  t20 := Try.underlying20,
  a20 := Try.isAgg20,
  z20 := Try.sizeOf20,
  v20 := Try.zeroValue20,
  t23 := Try.underlying96,
  a23 := Try.isAgg96,
  z23 := Try.sizeOf96,
  v23 := Try.zeroValue96 }
theorem hb_cloW : HasBody Try.prog 59 := ⟨_, Try.func59, by kernel_rfl, rfl⟩
theorem clone_mii (b : Nat) (m : List (Int × Int)) : Triple Try.prog 59 [.v (.map (some b))] [.map b (kvM inA m)] (fun r h' => ∃ b', r = .v (.map (some b')) ∧ h' = [.map b' (kvM inA m), .map b (kvM inA m)]) := triple_mapClone cloW rfl hb_cloW b (kvM inA m)
theorem pc_new {w : List Ed} (W : WOk w) {S : List Int} {B tr : List Ed} {j j2 : Int → Prop} {np : Nat} (I : WI w S B tr j np) {n : Int} (hnr : 1 ≤ n ∧ n ≤ 64) {lo0 lo : Int → Int} {T : List Int} {add trc : List Ed} (C : VPost w S n none lo0 j T lo add trc j2) (v : Int) : v ∈ T ↔ 1 ≤ v ∧ v < (65 : Nat) ∧ RF w n 0 v = true := by
  rw [RF_all W hnr]
  constructor
  · intro h
    have k := (C.con v h).inW_of
    have hv : 1 ≤ v ∧ v ≤ 64 := by
      rcases k.range (fun e he => (W.ok e he).1) with rfl | h
      · exact hnr
      · exact h
    exact ⟨hv.1, by omega, k⟩
  · rintro ⟨_, _, k⟩
    refine k.ind (Q := fun z => z ∈ T) C.hd fun e he x y ha hx => ?_
    rcases List.mem_append.1 (C.cl x hx e he y ha) with h | h
    · exact absurd hx (mem_no C.nd (I.cl y h e he x ha.symm))
    · exact h
theorem lt_sorted_eq {a b : List Int} (ha : a.Pairwise (· < ·)) (hb : b.Pairwise (· < ·)) (h : ∀ x, x ∈ a ↔ x ∈ b) : a = b := by
  have key : ∀ {l : List Int}, l.Pairwise (· < ·) → l.Nodup := fun hl => List.nodup_iff_pairwise_ne.2 (hl.imp fun {x y} h e => by omega)
  exact List.Perm.eq_of_pairwise (le := fun x y => x < y) (fun x y _ _ h1 h2 => by omega) ha hb ((List.perm_ext_iff_of_nodup (key ha) (key hb)).2 h)
theorem pc_piece {w : List Ed} (W : WOk w) {S : List Int} {B tr : List Ed} {j j2 : Int → Prop} {np : Nat} (I : WI w S B tr j np) {n : Int} (hnr : 1 ≤ n ∧ n ≤ 64) {lo0 lo : Int → Int} {T : List Int} {add trc : List Ed} (C : VPost w S n none lo0 j T lo add trc j2) : ((sortI (S ++ T)).filter fun x => !(mGet (fmF 0 S) x).isSome) = upTo 65 (RF w n 0) := by
  have hs : (sortI (S ++ T)).Pairwise (· < ·) := by
    have hn : (sortI (S ++ T)).Nodup := ((List.mergeSort_perm (S ++ T) _).nodup_iff).2 C.nd
    exact ((sortI_sorted (S ++ T)).and hn).imp fun {a b} h => by have := h.1; have := h.2; omega
  refine lt_sorted_eq (hs.sublist List.filter_sublist) (upTo_sorted _ _) fun x => ?_
  have hm : (mGet (fmF 0 S) x).isSome = true ↔ x ∈ S := by rw [mGet_mem, fmF_keys]
  rw [List.mem_filter, sortI_mem, List.mem_append, mem_upTo, ← pc_new W I hnr C x]
  simp only [Bool.not_eq_true', ← Bool.not_eq_true, hm]
  constructor
  · rintro ⟨h | h, h2⟩
    · exact absurd h h2
    · exact h
  · intro h
    exact ⟨.inr h, fun h2 => mem_no C.nd h2 h⟩
/-- What was seen is what was found. -/
theorem pc_step {w : List Ed} (W : WOk w) {S : List Int} {B tr : List Ed} {j j2 : Int → Prop} {np : Nat} (I : WI w S B tr j np) {n : Int} (hnr : 1 ≤ n ∧ n ≤ 64) {lo0 lo : Int → Int} {T : List Int} {add trc : List Ed} (C : VPost w S n none lo0 j T lo add trc j2) (hn : n ∉ S) {ks : List Int} (hs : ∀ v, v ∈ S ↔ (pcK w ks).2 v = true) : (pcK w (ks ++ [n])).1 = (pcK w ks).1 ++ [upTo 65 (RF w n 0)] ∧ ∀ v, v ∈ S ++ T ↔ (pcK w (ks ++ [n])).2 v = true := by
  have h0 : (pcK w ks).2 n = false := by
    cases h : (pcK w ks).2 n with
    | false => rfl
    | true => exact absurd ((hs n).2 h) hn
  rw [pcK_snoc]
  unfold pcS
  rw [h0, if_neg (by simp)]
  refine ⟨rfl, fun v => ?_⟩
  have h1 := pc_new W I hnr C v
  simp only [List.mem_append, Bool.or_eq_true, Bool.and_eq_true, decide_eq_true_eq]
  rw [hs, h1]
  exact Iff.rfl
/-- An edge less than nodes for each piece at least; and just so many, if all are bridges. -/
def PcF (w : List Ed) : Prop := ((pcL w).map List.length).sum ≤ w.length + (pcL w).length ∧ (((pcL w).map List.length).sum = w.length + (pcL w).length ↔ (w.filter (brgE w)).length = w.length)
theorem pc_fact {w : List Ed} (W : WOk w) (hw : w.Pairwise ltEd) {S : List Int} {B tr : List Ed} {j : Int → Prop} {np : Nat} (I : WI w S B tr j np) (hall : ∀ x ∈ upTo 65 (hasB w), x ∈ S) (h1 : np = (pcL w).length) (h2 : S.length = ((pcL w).map List.length).sum) : PcF w := by
  have hwn : w.Nodup := List.nodup_iff_pairwise_ne.2 (hw.imp fun {a b} h e => by subst e; unfold ltEd at h; omega)
  have hsub : tr.length ≤ w.length := List.Nodup.length_le_of_subset I.t2 fun e he => (I.t1 e he).1
  have ht := I.t3
  have hin := WI.all hall W
  refine ⟨by omega, fun h => ?_, fun h => ?_⟩
  · have hle : w.length ≤ tr.length := by omega
    have hall2 : ∀ e ∈ w, e ∈ tr := fun e he => Classical.byContradiction fun hne => by
      have h3 : (e :: tr).length ≤ w.length := List.Nodup.length_le_of_subset (List.nodup_cons.2 ⟨hne, I.t2⟩) fun f hf => by
        rcases List.mem_cons.1 hf with rfl | hf
        · exact he
        · exact (I.t1 f hf).1
      rw [List.length_cons] at h3
      omega
    congr 1
    rw [List.filter_eq_self]
    intro e he
    rw [brgE_iff W he]
    exact Classical.byContradiction fun hb => by
      obtain ⟨f, hf, _, hn⟩ := I.t5 e (hall2 e he) hb
      exact hn (hall2 f hf)
  · have hb : ∀ e ∈ w, brgE w e = true := by
      have := (List.filter_sublist (p := brgE w) (l := w)).eq_of_length h
      rw [List.filter_eq_self] at this
      exact this
    have hle : w.length ≤ tr.length := List.Nodup.length_le_of_subset hwn fun e he => Classical.byContradiction fun hn => I.t4 e he (hin e he).1 hn ((brgE_iff W he).1 (hb e he))
    omega
theorem pc_len {w : List Ed} (W : WOk w) {S : List Int} {B tr : List Ed} {j j2 : Int → Prop} {np : Nat} (I : WI w S B tr j np) {n : Int} (hnr : 1 ≤ n ∧ n ≤ 64) {lo0 lo : Int → Int} {T : List Int} {add trc : List Ed} (C : VPost w S n none lo0 j T lo add trc j2) : T.length = (upTo 65 (RF w n 0)).length := by
  refine List.Perm.length_eq ((List.perm_ext_iff_of_nodup (List.nodup_append.1 C.nd).2.1 ?_).2 fun v => ?_)
  · exact List.nodup_iff_pairwise_ne.2 ((upTo_sorted _ _).imp fun {x y} h e => by omega)
  · rw [pc_new W I hnr C v, mem_upTo]
theorem pc_old {w : List Ed} {n : Int} {ks : List Int} (h : (pcK w ks).2 n = true) : pcK w (ks ++ [n]) = pcK w ks := by
  rw [pcK_snoc]
  unfold pcS
  rw [if_pos h]
/- bridge.Pieces$1 -/
set_option maxRecDepth 100000 in
set_option maxHeartbeats 400000 in
theorem br_Pieces1 {wb b : Nat} {S : List Int} {k : Int} : Triple Try.prog 63 [.int k, .v (.pointer (some ⟨wb, 0, none⟩))] [.box wb [.v (.map (some b))], .map b (kvM inA (fmF 0 S))] (Is (.v (.bool (mGet (fmF 0 S) k).isSome)) [.box wb [.v (.map (some b))], .map b (kvM inA (fmF 0 S))]) := by
  refine triple_of Try.func63 rfl (by kernel_rfl) rfl (by simp) ?_
  refine aSeq ?_
  refine aReg ?_
  refine sp pMa ?_
  refine oNil ?_
  refine aSeq ?_
  refine aReg ?_
  refine sr (rB1 ty_96) ?_
  refine sp pM ?_
  refine sr (rMGio mo_96 ze_3) ?_
  refine sp pM ?_
  refine sp pX ?_
  refine sp pX ?_
  refine sp pMa ?_
  refine sp pMa ?_
  refine oNil ?_
  refine aSeq ?_
  refine aReg ?_
  refine sp pM ?_
  refine sp pMa ?_
  refine oNil ?_
  refine aRet ?_
  refine finIs rfl ?_
  rfl
/- bridge.Pieces -/
set_option maxRecDepth 100000 in
set_option maxHeartbeats 4000000 in
theorem br_PiecesO {l : List Arc} (hll : l.length ≤ 1000000) {w : List Ed} (hw : edgesM l = w) : Triple Try.prog 32 [.sl 3 (l.map arcC)] [] (fun q h' => ∃ g c, q = .v (slV g (pcL w).length c) ∧ h' = [.sl g c 51 1 ((pcL w).map pcC)] ∧ PcF w) := by
  have hwl := edgesM_len l
  have W := edges_wok (l := l)
  have hws := edgesM_sorted l
  rw [hw] at hwl W hws
  refine triple_of Try.func32 rfl (by kernel_rfl) rfl (by simp) ?_
  refine aSeq ?_
  refine aReg ?_
  refine sp pMa ?_
  refine oNil ?_
  refine aSeq ?_
  refine aReg ?_
  refine sp pM ?_
  refine sq ?_
  refine ci rfl rfl rfl (bridge_Edges_s (l := l) (by omega)) ?_
  rw [hw]
  refine sa ?_
  refine ca rfl rfl rfl (br_begin (w := w) (by omega) (fun e he => (W.ok e he).2)) ?_
  rintro _ _ ⟨sb, eb, fb, lb, jb, em, rfl, rfl, hem, hen, hek⟩
  have hks := keys_sorted W hen hek
  have heml : em.length ≤ 1000000 := by
    have := congrArg List.length hks
    rw [sortI_length] at this
    have h2 := upTo_len 65 (hasB w)
    simp only [mKeys, List.length_map] at this
    omega
  refine sp pMa ?_
  refine oNil ?_
  refine aSeq ?_
  refine aReg ?_
  refine sp pMa ?_
  refine oNil ?_
  refine aSeq ?_
  refine aSeq ?_
  refine aWeak (weak_nil 51 1) ?_
  refine aReg ?_
  refine sp pM ?_
  refine sp (by first | exact pNv | exact pNs) ?_
  refine sp (by first | exact pFb fd_99_0 | exact pFs fd_99_0) ?_
  refine sr (by first | exact rS1 ty_95 | exact rB1 ty_95 | exact rAr ty_95 | exact rArL ty_95 | exact rArR2 ty_95) ?_
  refine sa ?_
  refine ca rfl rfl rfl (keys_mie eb) ?_
  rintro _ _ ⟨pb, rfl, rfl⟩
  refine sa ?_
  refine cai rfl rfl rfl (sorted_int_s _ _ (kvM (slS 3 edC) em) _ (keys1_mie_iter eb pb (kvM (slS 3 edC) em)) (by rw [kvM_len]; exact heml)) ?_
  rw [kvM_keys, hks]
  refine sp (by first | exact pLm sl_51 | exact pLs sl_51 | exact pLv sl_51) ?_
  refine sp pM ?_
  refine oNil ?_
  refine aBlock ?_
  refine loopF (α := Nat × List Int × List (Int × Int) × Option Nat × Nat × List Ed × List Ed × List (Int × Bool) × Nat × List (List Int) × Option Nat × Nat) (kept := [(3, _), (19, _), (20, _)]) (fun (i, S, lm, g, c, B, tr, jm, np, out, go, co) => i ≤ (upTo 65 (hasB w)).length ∧ WI w S B tr (jF jm) np ∧ (mKeys jm).Nodup ∧ np = out.length ∧ S.length = (out.map List.length).sum ∧ (∀ x ∈ (upTo 65 (hasB w)).take i, x ∈ S) ∧ out = (pcK w ((upTo 65 (hasB w)).take i)).1 ∧ (∀ v, v ∈ S ↔ (pcK w ((upTo 65 (hasB w)).take i)).2 v = true)) (fun (i, S, lm, g, c, B, tr, jm, np, out, go, co) => [(21, .int i), (4, .v (slV go out.length co))]) (fun (i, S, lm, g, c, B, tr, jm, np, out, go, co) => [BX sb eb fb lb jb g (B).length c, .map fb (kvM inA (fmF 0 (S))), .map lb (kvM inA lm), .map jb (kvM boA jm), .sl g c 86 3 ((B).map edC), .sl go co 51 1 (out.map pcC)]) (fun (i, S, lm, g, c, B, tr, jm, np, out, go, co) => (upTo 65 (hasB w)).length - i) (0, [], [], none, 0, [], [], [], 0, [], _, _) ?_ ⟨gInt rfl (by first | rfl | omega | simp), gLen rfl (by first | rfl | simp | (simp; omega)), rfl, rfl, rfl, trivial⟩ (by repeat constructor) ?_
  · skip
    exact ⟨by omega, .nil w (fun v hv => by simp [jF, mKeys] at hv), .nil, rfl, rfl, fun x hx => by simp at hx, rfl, fun v => by simp [pcK]⟩
  · rintro ⟨i, S, lm, g, c, B, tr, jm, np, out, go, co⟩ ⟨hi, I, hjn, hnp, hSo, hall, ho, hs⟩
    refine aSeq ?_
    refine aReg ?_
    refine sp pB ?_
    refine oNil ?_
    refine aSeq ?_
    refine aCondDec rfl (fun c22 => ?_) (fun c22 => ?_)
    · skip
      refine aSkip ?_
      refine aSeq ?_
      refine aBlock ?_
      refine aSeq ?_
      obtain ⟨n, hn⟩ : ∃ z, (upTo 65 (hasB w))[i]? = some z := ⟨_, List.getElem?_eq_getElem (by omega)⟩
      have hnm := mem_upTo.1 (List.mem_of_getElem? hn)
      have hnr : 1 ≤ n ∧ n ≤ 64 := by omega
      have hul := upTo_len 65 (hasB w)
      have hol := pcK_len w ((upTo 65 (hasB w)).take i)
      rw [← ho] at hol
      rw [List.length_take] at hol
      refine aReg ?_
      first | refine sp (pIx es_51) ?_ | (refine obtSN 19 21 rfl rfl (by omega) (fun x23 hx23 => ?_); refine sp (pIs es_51 hx23) ?_) | (refine obtS 19 21 rfl rfl (by omega) (by omega) (fun x23 hx23 => ?_); refine sp (pIs es_51 hx23) ?_) | refine sp (pIo es_51) ?_
      refine sr (by first | exact rS1 ty_3 | exact rB1 ty_3 | exact rAr ty_3 | exact rArL ty_3 | exact rArR2 ty_3) ?_
      refine sp pMa ?_
      refine oNil ?_
      refine aSeq ?_
      refine aSeq ?_
      refine aReg ?_
      refine sp pM ?_
      refine sp (by first | exact pNv | exact pNs) ?_
      refine sp (by first | exact pFb fd_99_1 | exact pFs fd_99_1) ?_
      refine sr (by first | exact rS1 ty_96 | exact rB1 ty_96 | exact rAr ty_96 | exact rArL ty_96 | exact rArR2 ty_96) ?_
      refine sp pM ?_
      refine sr (rMGio mo_96 ze_3) ?_
      refine sp pM ?_
      refine sp pX ?_
      refine sp pX ?_
      refine sp pMa ?_
      refine sp pMa ?_
      refine oNil ?_
      refine aSeq ?_
      refine aReg ?_
      refine sp pM ?_
      refine oNil ?_
      refine aCond rfl (fun c34 => ?_) (fun c34 => ?_)
      · skip
        refine aExit rfl ?_
        refine aReg ?_
        refine sp pAd ?_
        refine sp pM ?_
        refine oNil ?_
        first
          | (refine ⟨(i + 1, S ++ T, lm2, g2, c2, B ++ add, tr ++ trc, jm2, np + 1, _, _, _), ?_, by (try dsimp only); omega, ⟨gInt rfl (by first | rfl | omega | simp), gLen rfl (by first | rfl | simp | (simp; omega)), rfl, rfl, rfl, trivial⟩, _, (by repeat constructor)⟩
             have hps := pc_step W I hnr C hns hs
             rw [← take_step hn] at hps
             have hpl := pc_len W I hnr C
             refine ⟨by omega, I.step W hnr C, hjn2, by simp [hnp], by simp [hSo, hpl], fun x hx => ?_, by rw [hps.1, ← ho], hps.2⟩
             rw [take_step hn] at hx
             rcases List.mem_append.1 hx with hx | hx
             · exact List.mem_append_left _ (hall x hx)
             · rw [List.mem_singleton.1 hx]; exact List.mem_append_right _ C.hd)
          | (refine ⟨(i + 1, S, lm, g, c, B, tr, jm, np, out, go, co), ?_, by (try dsimp only); omega, ⟨gInt rfl (by first | rfl | omega | simp), gLen rfl (by first | rfl | simp | (simp; omega)), rfl, rfl, rfl, trivial⟩, _, (by repeat constructor)⟩
             have hyi : n ∈ S := by
               have := mGet_mem.1 (by first | assumption | (simp_all; done) : (mGet (fmF 0 S) n).isSome = true)
               rwa [fmF_keys] at this
             have hpo := pc_old ((hs n).1 hyi)
             rw [← take_step hn] at hpo
             refine ⟨by omega, I, hjn, hnp, hSo, fun x hx => ?_, by rw [hpo, ho], by rw [hpo]; exact hs⟩
             rw [take_step hn] at hx
             rcases List.mem_append.1 hx with hx | hx
             · exact hall x hx
             · rw [List.mem_singleton.1 hx]; exact hyi)
      · skip
        refine aSkip ?_
        refine aSeq ?_
        have hns : n ∉ S := fun h => by
          rw [rk_some h] at *
          simp_all
        refine aReg ?_
        refine sp pM ?_
        refine sp (by first | exact pNv | exact pNs) ?_
        refine sp (by first | exact pFb fd_99_1 | exact pFs fd_99_1) ?_
        refine sr (by first | exact rS1 ty_96 | exact rB1 ty_96 | exact rAr ty_96 | exact rArL ty_96 | exact rArR2 ty_96) ?_
        refine sa ?_
        refine ca rfl rfl rfl (clone_mii fb (fmF 0 S)) ?_
        rintro _ _ ⟨wasb, rfl, rfl⟩
        refine sq ?_
        refine qAlloc rfl rfl (by decide) ze_96 rfl (fun b9 => ?_)
        refine sa ?_
        refine oStB rfl rfl rfl rfl (by repeat constructor) ty_96 rfl (Nat.le_of_ble_eq_true rfl) rfl ?_
        refine oNil ?_
        refine aSeq ?_
        refine aReg ?_
        refine sp pM ?_
        refine sp pM ?_
        refine sp (pBuild rfl st_86 ze_86 rfl rfl rfl rfl) ?_
        refine sa ?_
        refine ca rfl rfl rfl (br_visit sb eb fb lb jb W (by omega) hem 65 S n none lm g c B jm (I.pre hns) I.rng hnr I.bok (fun v hv => ((I.jn v).1 hv).1) hjn (by omega)) ?_
        rintro _ _ ⟨S2, T, lm2, g2, c2, B2, add, trc, jm2, rfl, rfl, rfl, rfl, C, hjn2⟩
        have hSl : (S ++ T).length ≤ 1000000 := by
          have := set_len C.nd (I.step W hnr C).rng
          omega
        refine oNil ?_
        refine aSeq ?_
        refine aReg ?_
        refine sp pM ?_
        refine sp (by first | exact pNv | exact pNs) ?_
        refine sp (by first | exact pFb fd_99_1 | exact pFs fd_99_1) ?_
        refine sr (by first | exact rS1 ty_96 | exact rB1 ty_96 | exact rAr ty_96 | exact rArL ty_96 | exact rArR2 ty_96) ?_
        refine sa ?_
        refine ca rfl rfl rfl (keys_mii fb) ?_
        rintro _ _ ⟨pb2, rfl, rfl⟩
        refine sa ?_
        refine ca rfl rfl rfl (sorted_int _ _ (kvM inA (fmF 0 (S ++ T))) _ (keys1_mii_iter fb pb2 (kvM inA (fmF 0 (S ++ T)))) (by rw [kvM_len, fmF_len]; exact hSl)) ?_
        rintro _ _ ⟨g10, c10, rfl, rfl⟩
        rw [kvM_keys, fmF_keys]
        refine sp (pFn rfl rfl) ?_
        refine sa ?_
        first | refine coM rfl rfl rfl (delete_IntH (f := 63) (caps := [.v (.pointer (some ⟨b9, 0, none⟩))]) (p := fun x => (mGet (fmF 0 S) x).isSome) (fun x => br_Pieces1 (wb := b9) (b := wasb) (S := S) (k := x)) g10 c10 (sortI (S ++ T)) (by rw [sortI_length]; exact hSl)) (fun g51 k51 => ?_) | refine co rfl rfl rfl (delete_IntH (f := 63) (caps := [.v (.pointer (some ⟨b9, 0, none⟩))]) (p := fun x => (mGet (fmF 0 S) x).isSome) (fun x => br_Pieces1 (wb := b9) (b := wasb) (S := S) (k := x)) g10 c10 (sortI (S ++ T)) (by rw [sortI_length]; exact hSl)) (fun g51 k51 => ?_)
        rw [pc_piece W I hnr C]
        refine sp pMa ?_
        refine oNil ?_
        refine aWeak (weak_settle (k := 10) rfl (by repeat constructor) (by first | rfl | (simp; done) | (simp; omega) | (simp_all; done))) ?_
        refine aReg ?_
        refine sp pM ?_
        refine sp pM ?_
        refine sq ?_
        refine qLit (l := [_]) rfl rfl (by decide) us_64 ty_51 ze_51 rfl (by decide) (by decide) rfl rfl rfl (fun b54 => ?_)
        refine sa ?_
        refine oAppT ([upTo 65 (RF w n 0)] : List (List Int)) rfl rfl (by repeat constructor) (srcOwn rfl (by repeat constructor) rfl) el_64 sl_64 (fun g55 k55 => ?_)
        refine sp pMa ?_
        refine oNil ?_
        refine aReg ?_
        refine sp pAd ?_
        refine sp pM ?_
        refine oNil ?_
        first
          | (refine ⟨(i + 1, S ++ T, lm2, g2, c2, B ++ add, tr ++ trc, jm2, np + 1, _, _, _), ?_, by (try dsimp only); omega, ⟨gInt rfl (by first | rfl | omega | simp), gLen rfl (by first | rfl | simp | (simp; omega)), rfl, rfl, rfl, trivial⟩, _, (by repeat constructor)⟩
             have hps := pc_step W I hnr C hns hs
             rw [← take_step hn] at hps
             have hpl := pc_len W I hnr C
             refine ⟨by omega, I.step W hnr C, hjn2, by simp [hnp], by simp [hSo, hpl], fun x hx => ?_, by rw [hps.1, ← ho], hps.2⟩
             rw [take_step hn] at hx
             rcases List.mem_append.1 hx with hx | hx
             · exact List.mem_append_left _ (hall x hx)
             · rw [List.mem_singleton.1 hx]; exact List.mem_append_right _ C.hd)
          | (refine ⟨(i + 1, S, lm, g, c, B, tr, jm, np, out, go, co), ?_, by (try dsimp only); omega, ⟨gInt rfl (by first | rfl | omega | simp), gLen rfl (by first | rfl | simp | (simp; omega)), rfl, rfl, rfl, trivial⟩, _, (by repeat constructor)⟩
             have hyi : n ∈ S := by
               have := mGet_mem.1 (by first | assumption | (simp_all; done) : (mGet (fmF 0 S) n).isSome = true)
               rwa [fmF_keys] at this
             have hpo := pc_old ((hs n).1 hyi)
             rw [← take_step hn] at hpo
             refine ⟨by omega, I, hjn, hnp, hSo, fun x hx => ?_, by rw [hpo, ho], by rw [hpo]; exact hs⟩
             rw [take_step hn] at hx
             rcases List.mem_append.1 hx with hx | hx
             · exact hall x hx
             · rw [List.mem_singleton.1 hx]; exact hyi)
    · skip
      refine aExit rfl ?_
      refine aSeq ?_
      refine aReg ?_
      refine sp pM ?_
      refine sp pMa ?_
      refine oNil ?_
      refine aRet ?_
      obtain rfl : i = (upTo 65 (hasB w)).length := by omega
      rw [List.take_length] at ho hall
      obtain rfl : out = pcL w := ho
      exact ⟨_, [.sl go co 51 1 ((pcL w).map pcC)], _, rfl, (.cons (by repeat constructor) .nil), go, co, rfl, rfl, pc_fact W hws I hall hnp hSo⟩
end A
end Go.Proofs.Ytnabkchagjjjnaa
set_option linter.unusedVariables false
set_option linter.unusedSimpArgs false
namespace Go.Proofs.Ytnabkchagjjjnaa
namespace A
theorem es_64 : elemSize Try.prog 64 = some 1 := by kernel_rfl
theorem st_90 : structPlaces Try.prog 90 = some [(0, 1), (1, 1), (2, 1)] := by kernel_rfl
theorem us_55 : Try.prog.underlying 55 = some (.slice 90) := by kernel_rfl
def exR : List Arc := [⟨1, 2, 1⟩, ⟨2, 1, 1⟩, ⟨2, 3, 1⟩, ⟨3, 2, 1⟩]
theorem exR_B : bridgesM exR = [⟨1, 2, 1⟩, ⟨2, 3, 1⟩] := by decide +kernel
theorem exR_J : jointsM exR = [2] := by decide +kernel
theorem exR_P : (pcL (edgesM exR)).length = 1 := by decide +kernel
theorem br_Bridges_s {l : List Arc} (hll : l.length ≤ 1000000 := by omega) : Triple Try.prog 24 [.sl 3 (l.map arcC)] [] (Is (.sl 3 ((bridgesM l).map edC)) []) := (br_Bridges (l := l) hll).settle
theorem br_Pieces {l : List Arc} (hll : l.length ≤ 1000000 := by omega) : Triple Try.prog 32 [.sl 3 (l.map arcC)] [] (fun q h' => ∃ g c, q = .v (slV g (pcL (edgesM l)).length c) ∧ h' = [.sl g c 51 1 ((pcL (edgesM l)).map pcC)] ∧ PcF (edgesM l)) := br_PiecesO (l := l) hll rfl
theorem ref39_Edges_s {l : List Arc} (hok : arcsB none l = true) (hll : l.length ≤ 5000) : Triple Try.prog 27 [.sl 3 (l.map arcC)] [] (Is (.sl 3 ((edgesM l).map edC)) []) := by
  rw [← edges_ref hok]
  exact (ref39_Edges (l := l) hll).settle
theorem edgesM_ok (l : List Arc) : ∀ e ∈ edgesM l, EOk e := fun e he => ((edges_wok (l := l)).ok e he).1
theorem ref39_Bridges_s {l : List Arc} (hll : l.length ≤ 1000000) : Triple Try.prog 29 [.sl 3 ((edgesM l).map edC)] [] (Is (.sl 3 ((bridgesM l).map edC)) []) := (ref39_Bridges (w := edgesM l) (Nat.le_trans (edgesM_len l) hll) (edgesM_ok l)).settle
theorem ref39_Joints_s {l : List Arc} (hll : l.length ≤ 1000000) : Triple Try.prog 31 [.sl 3 ((edgesM l).map edC)] [] (Is (.sl 1 ((jointsM l).map intA)) []) := (ref39_Joints (w := edgesM l) (Nat.le_trans (edgesM_len l) hll) (edgesM_ok l)).settle
theorem ref39_Pieces_s {l : List Arc} (hll : l.length ≤ 1000000) : Triple Try.prog 33 [.sl 3 ((edgesM l).map edC)] [] (Is (.sl 1 ((pcL (edgesM l)).map pcC)) []) := (ref39_Pieces (w := edgesM l) (Nat.le_trans (edgesM_len l) hll) (edgesM_ok l)).settle
theorem up_nil {p : Int → Bool} (h : ∀ v : Int, 1 ≤ v → v ≤ 64 → p v = false) : upTo 65 p = [] := by
  rw [List.eq_nil_iff_forall_not_mem]
  intro v hv
  obtain ⟨h1, h2, h3⟩ := mem_upTo.1 hv
  rw [h v h1 (by omega)] at h3
  cases h3
theorem joints_nil {l : List Arc} (h : edgesM l = []) : jointsM l = [] := up_nil fun v h1 h2 => by
  cases hj : jN (edgesM l) v with
  | false => rfl
  | true =>
    have := ((jN_iff edges_wok ⟨h1, h2⟩).1 hj).has
    rw [h] at this
    cases this
theorem bridges_len (l : List Arc) : (bridgesM l).length ≤ l.length := Nat.le_trans (List.length_filter_le _ _) (edgesM_len l)
theorem joints_len (l : List Arc) : (jointsM l).length ≤ 65 := upTo_len _ _
theorem pcL_len (w : List Ed) : (pcL w).length ≤ 65 := Nat.le_trans (pcK_len w _) (upTo_len _ _)
def sumL (l : List (List Int)) : Nat := (l.map List.length).sum
theorem sumL_step {l : List (List Int)} {i : Nat} {p : List Int} (h : l[i]? = some p) : sumL (l.take (i + 1)) = sumL (l.take i) + p.length := by
  unfold sumL
  rw [take_step h]
  simp
theorem pc_each (w : List Ed) : ∀ p ∈ pcL w, p.length ≤ 65 := by
  have key : ∀ (ks : List Int) (st : List (List Int) × (Int → Bool)), (∀ p ∈ st.1, p.length ≤ 65) → ∀ p ∈ (ks.foldl (pcS w) st).1, p.length ≤ 65 := fun ks => by
    induction ks with
    | nil => intro st h; exact h
    | cons x t ih =>
      intro st h
      rw [List.foldl_cons]
      refine ih _ ?_
      unfold pcS
      split
      · exact h
      · intro p hp
        rcases List.mem_append.1 hp with hp | hp
        · exact h p hp
        · rw [List.mem_singleton.1 hp]; exact upTo_len _ _
  exact key _ _ (fun p hp => by simp at hp)
theorem sumL_le {l : List (List Int)} (h : ∀ p ∈ l, p.length ≤ 65) : sumL l ≤ 65 * l.length := by
  induction l with
  | nil => simp [sumL]
  | cons p t ih =>
    have := ih fun q hq => h q (by simp [hq])
    have := h p (by simp)
    unfold sumL at *
    simp only [List.map_cons, List.sum_cons, List.length_cons]
    omega
/- waymarklaw39.row -/
set_option maxRecDepth 100000 in
set_option maxHeartbeats 400000 in
theorem law39_row  : Triple Try.prog 48 [] [] (Own 90 3 (exR.map arcC) []) := by
  refine triple_of Try.func48 rfl (by kernel_rfl) rfl (by simp) ?_
  refine aSeq ?_
  refine aReg ?_
  refine sp pMa ?_
  refine oNil ?_
  refine aSeq ?_
  refine aReg ?_
  refine sp (pBuild rfl st_90 ze_90 rfl rfl rfl rfl) ?_
  refine sp (pBuild rfl st_90 ze_90 rfl rfl rfl rfl) ?_
  refine sp (pBuild rfl st_90 ze_90 rfl rfl rfl rfl) ?_
  refine sp (pBuild rfl st_90 ze_90 rfl rfl rfl rfl) ?_
  refine sq ?_
  refine qLit (l := [_, _, _, _]) rfl rfl (by decide) us_55 ty_90 ze_90 rfl (by decide) (by decide) rfl rfl rfl (fun b5 => ?_)
  refine sp pMa ?_
  refine oNil ?_
  refine aRet ?_
  refine finOwn rfl ?_
  rfl
theorem law39_row_s : Triple Try.prog 48 [] [] (Is (.sl 3 (exR.map arcC)) []) := law39_row.settle
/- waymarklaw39.awake -/
set_option maxRecDepth 100000 in
set_option maxHeartbeats 1000000 in
theorem law39_awake  : Triple Try.prog 22 [] [] (Is (.v (.bool true)) []) := by
  refine triple_of Try.func22 rfl (by kernel_rfl) rfl (by simp) ?_
  refine aSeq ?_
  refine aReg ?_
  refine sp pMa ?_
  refine oNil ?_
  refine aSeq ?_
  refine aReg ?_
  refine sq ?_
  refine ci rfl rfl rfl law39_row_s ?_
  refine sq ?_
  refine ci rfl rfl rfl (br_Bridges_s (l := exR) (by decide)) ?_
  rw [exR_B]
  refine sq ?_
  refine ci rfl rfl rfl law39_row_s ?_
  refine sq ?_
  refine ci rfl rfl rfl (br_Joints (l := exR) (by decide)) ?_
  rw [exR_J]
  refine sp pMa ?_
  refine sp pMa ?_
  refine oNil ?_
  refine aSeq ?_
  have h1 : ([⟨1, 2, 1⟩, ⟨2, 3, 1⟩] : List Ed)[(0 : Int).toNat]? = some ⟨1, 2, 1⟩ := rfl
  have h2 : ([2] : List Int)[(0 : Int).toNat]? = some 2 := rfl
  refine aReg ?_
  refine sp pM ?_
  refine sp (by first | exact pLm sl_56 | exact pLs sl_56 | exact pLv sl_56) ?_
  refine sp pB ?_
  refine sp pM ?_
  refine gp pM ?_
  first | refine gp (pIx es_56) ?_ | refine gp (pIo es_56) ?_
  refine gr (by first | exact rSW ty_86 rfl | exact rSA ty_86 | exact rBWa ty_86 | exact rBW ty_86 | exact rBA ty_86 | exact rArA ty_86 (fun _ => rfl)) ?_
  refine gp (pBuild rfl st_86 ze_86 rfl rfl rfl rfl) ?_
  refine gp (pEqA rfl (.inl rfl) rfl rfl eq_86 rfl rfl) ?_
  refine sp pK ?_
  refine sp pM ?_
  refine gp pM ?_
  refine gp (by first | exact pLm sl_51 | exact pLs sl_51 | exact pLv sl_51) ?_
  refine gp pB ?_
  refine sp pK ?_
  refine sp pM ?_
  refine gp pM ?_
  first | refine gp (pIx es_51) ?_ | refine gp (pIo es_51) ?_
  refine gr (by first | exact rS1 ty_3 | exact rB1 ty_3 | exact rAr ty_3 | exact rArL ty_3 | exact rArR2 ty_3) ?_
  refine gp pB ?_
  refine sp pK ?_
  refine sp pM ?_
  refine ga ?_
  refine (ci rfl rfl rfl law39_row_s ?_).op
  refine ga ?_
  refine ca rfl rfl rfl (br_Pieces (l := exR) (by decide)) ?_
  rintro _ _ ⟨gpp, cpp, rfl, rfl, _⟩
  rw [exR_P]
  refine gp (by first | exact pLm sl_64 | exact pLs sl_64 | exact pLv sl_64) ?_
  refine gp pB ?_
  refine sp pK ?_
  refine sp pMa ?_
  refine oNil ?_
  refine aRet ?_
  refine finIs rfl ?_
  rfl
/- waymarklaw39.BridgeFinds -/
set_option maxRecDepth 100000 in
set_option maxHeartbeats 2000000 in
theorem law39_BridgeFinds {l : List Arc} (hll : l.length ≤ 9223372036854775807) : Triple Try.prog 4 [.sl 3 (l.map arcC)] [] (Is (.v (.bool true)) []) := by
  refine triple_of Try.func4 rfl (by kernel_rfl) rfl (by simp) ?_
  refine aSeq ?_
  refine aReg ?_
  refine sp pMa ?_
  refine oNil ?_
  refine aSeq ?_
  refine aSeq ?_
  refine aReg ?_
  refine sp pM ?_
  refine sp (by first | exact pLm sl_55 | exact pLs sl_55) ?_
  refine sp pB ?_
  refine oNil ?_
  refine aCondDec rfl (fun c9 => ?_) (fun c9 => ?_)
  · skip
    refine aSeq ?_
    refine aReg ?_
    refine sq ?_
    refine ci rfl rfl rfl law39_awake ?_
    refine sp pMa ?_
    refine oNil ?_
    refine aRet ?_
    refine finIs rfl ?_
    rfl
  · skip
    refine aSkip ?_
    refine aSeq ?_
    have hel := edgesM_len l
    have hbl := bridges_len l
    have hjl := joints_len l
    refine aReg ?_
    refine sp pM ?_
    refine sq ?_
    refine ci rfl rfl rfl (bridge_Edges_s (l := l) (by omega)) ?_
    refine sp pM ?_
    refine sq ?_
    refine ci rfl rfl rfl (br_Bridges_s (l := l) (by omega)) ?_
    refine sp pM ?_
    refine sq ?_
    refine ci rfl rfl rfl (br_Joints (l := l) (by omega)) ?_
    refine sp pMa ?_
    refine sp pMa ?_
    refine sp pMa ?_
    refine oNil ?_
    refine aSeq ?_
    refine aSeq ?_
    refine aReg ?_
    refine sp pM ?_
    refine sq ?_
    refine cv rfl rfl rfl (lents_refl _) (ref24_May (by omega)) ?_
    refine sp pNo ?_
    refine oNil ?_
    refine aCondNot rfl (fun c19 => ?_) (fun c19 => ?_)
    · skip
      refine aSeq ?_
      have hno : arcsB none l = false := by simp_all
      have e0 : edgesM l = [] := by unfold edgesM; rw [hno]; rfl
      have b0 : bridgesM l = [] := by unfold bridgesM; rw [e0]; rfl
      rw [e0, b0, joints_nil e0]
      refine aReg ?_
      refine sp pM ?_
      refine sp (by first | exact pLm sl_56 | exact pLs sl_56 | exact pLv sl_56) ?_
      refine sp pB ?_
      refine sp pM ?_
      refine gp pM ?_
      refine gp (by first | exact pLm sl_56 | exact pLs sl_56 | exact pLv sl_56) ?_
      refine gp pB ?_
      refine sp pK ?_
      refine sp pM ?_
      refine gp pM ?_
      refine gp (by first | exact pLm sl_51 | exact pLs sl_51 | exact pLv sl_51) ?_
      refine gp pB ?_
      refine sp pK ?_
      refine sp pM ?_
      refine ga ?_
      refine (ci rfl rfl rfl law39_awake ?_).op
      refine sp pK ?_
      refine sp pMa ?_
      refine oNil ?_
      refine aRet ?_
      refine finIs rfl ?_
      rfl
    · skip
      refine aSkip ?_
      refine aSeq ?_
      have hyes : arcsB none l = true := by simp_all
      refine aReg ?_
      refine sp pM ?_
      refine sq ?_
      refine ci rfl rfl rfl (ref39_Edges_s hyes (by omega)) ?_
      refine sp pMa ?_
      refine oNil ?_
      refine aSeq ?_
      refine aReg ?_
      refine sp pM ?_
      refine sp pM ?_
      refine sq ?_
      refine cv rfl rfl rfl (lents_refl _) (ref39_Same (by omega) (by omega)) ?_
      rw [show decide (edgesM l = edgesM l) = true from decide_eq_true rfl]
      refine sp pM ?_
      refine gp pM ?_
      refine gp pM ?_
      refine ga ?_
      refine (ci rfl rfl rfl (ref39_Bridges_s (by omega)) ?_).op
      refine ga ?_
      refine (cv rfl rfl rfl (lents_refl _) (ref39_Same (by omega) (by omega)) ?_).op
      rw [show decide (bridgesM l = bridgesM l) = true from decide_eq_true rfl]
      refine sp pK ?_
      refine sp pM ?_
      refine gp pM ?_
      refine gp pM ?_
      refine ga ?_
      refine (ci rfl rfl rfl (ref39_Joints_s (by omega)) ?_).op
      refine ga ?_
      refine (cv rfl rfl rfl (lents_refl _) (ref24_Ints (by omega) (by omega)) ?_).op
      rw [show decide (jointsM l = jointsM l) = true from decide_eq_true rfl]
      refine sp pK ?_
      refine sp pM ?_
      refine ga ?_
      refine (ci rfl rfl rfl law39_awake ?_).op
      refine sp pK ?_
      refine sp pMa ?_
      refine oNil ?_
      refine aRet ?_
      refine finIs rfl ?_
      rfl
/- waymarklaw39.BridgePieces -/
def law39_BridgePieces_r14_T : Bool × List (List Nat × List Nat) := (true, [([], []), ([], []), ([0, 1], [0, 1]), ([2], [2]), ([], []), ([], []), ([4, 5], [4, 5]), ([6], [6]), ([3, 7], [3, 7]), ([8], [8])])
def law39_BridgePieces_r14_B : List Nat := [0, 0, 3, 7, 0, 0, 48, 112, 255, 511]
theorem law39_BridgePieces_r14_t : Go.Proofs.YtnabkchagjjjnaaW.PrintLast.rtab .any (Go.Proofs.YtnabkchagjjjnaaW.PrintLast.opsOf Try.f5 14) = law39_BridgePieces_r14_T := by kernel_rfl
theorem law39_BridgePieces_r14_b : Go.Proofs.YtnabkchagjjjnaaW.PrintLast.waitsOk law39_BridgePieces_r14_T.2 law39_BridgePieces_r14_B = true := by kernel_rfl
set_option maxRecDepth 100000 in
set_option maxHeartbeats 2000000 in
theorem law39_BridgePieces {l : List Arc} (hll : l.length ≤ 9223372036854775807) : Triple Try.prog 5 [.sl 3 (l.map arcC)] [] (Is (.v (.bool true)) []) := by
  refine triple_of Try.func5 rfl (by kernel_rfl) rfl (by simp) ?_
  refine aSeq ?_
  refine aReg ?_
  refine sp pMa ?_
  refine oNil ?_
  refine aSeq ?_
  refine aSeq ?_
  refine aReg ?_
  refine sp pM ?_
  refine sp (by first | exact pLm sl_55 | exact pLs sl_55) ?_
  refine sp pB ?_
  refine oNil ?_
  refine aCondDec rfl (fun c11 => ?_) (fun c11 => ?_)
  · skip
    refine aSeq ?_
    refine aReg ?_
    refine sq ?_
    refine ci rfl rfl rfl law39_awake ?_
    refine sp pMa ?_
    refine oNil ?_
    refine aRet ?_
    refine finIs rfl ?_
    rfl
  · skip
    refine aSkip ?_
    refine aSeq ?_
    have hel := edgesM_len l
    have hbl := bridges_len l
    have hjl := joints_len l
    have hpl := pcL_len (edgesM l)
    refine aReg ?_
    refine sp pM ?_
    refine sa ?_
    refine ca rfl rfl rfl (br_Pieces (l := l) (by omega)) ?_
    rintro _ _ ⟨gpp, cpp, rfl, rfl, hF⟩
    refine sp pMa ?_
    refine oNil ?_
    refine aSeq ?_
    refine aSeq ?_
    refine aWeak (weak_settle (k := 3) rfl (by repeat constructor) (by first | rfl | (simp; done) | (simp; omega) | (simp_all; done))) ?_
    refine aReg ?_
    refine sp pM ?_
    refine sq ?_
    refine cv rfl rfl rfl (lents_refl _) (ref24_May (by omega)) ?_
    refine sp pNo ?_
    refine oNil ?_
    refine aCondNot rfl (fun c17 => ?_) (fun c17 => ?_)
    · skip
      refine aSeq ?_
      have hno : arcsB none l = false := by simp_all
      have e0 : edgesM l = [] := by unfold edgesM; rw [hno]; rfl
      rw [e0]
      refine aReg ?_
      refine sp pM ?_
      refine sp (by first | exact pLm sl_64 | exact pLs sl_64) ?_
      refine sp pB ?_
      refine sp pM ?_
      refine ga ?_
      refine (ci rfl rfl rfl law39_awake ?_).op
      refine sp pK ?_
      refine sp pMa ?_
      refine oNil ?_
      refine aRet ?_
      refine finIs rfl ?_
      rfl
    · skip
      refine aSkip ?_
      refine aSeq ?_
      have hyes : arcsB none l = true := by simp_all
      refine aReg ?_
      refine sp pM ?_
      refine sq ?_
      refine ci rfl rfl rfl (ref39_Edges_s hyes (by omega)) ?_
      refine sp pMa ?_
      refine oNil ?_
      refine aSeq ?_
      refine aReg ?_
      refine sp pM ?_
      refine sq ?_
      refine ci rfl rfl rfl (ref39_Pieces_s (by omega)) ?_
      refine sp pMa ?_
      refine oNil ?_
      refine aSeq ?_
      refine aSeq ?_
      refine aReg ?_
      refine sp pM ?_
      refine sp (by first | exact pLm sl_64 | exact pLs sl_64) ?_
      refine sp pM ?_
      refine sp (by first | exact pLm sl_64 | exact pLs sl_64 | exact pLv sl_64) ?_
      refine sp (pBl (by exact pB) (show _ = false from by simp)) ?_
      refine oNil ?_
      refine aCondF rfl ?_
      refine aSkip ?_
      refine aSeq ?_
      refine aReg ?_
      refine sp pMa ?_
      refine oNil ?_
      refine aSeq ?_
      refine aSeq ?_
      refine aReg ?_
      refine sp pMa ?_
      refine oNil ?_
      refine aBlock ?_
      refine loopF (α := Nat) (kept := [(0, _), (3, _), (4, _), (5, _)]) (fun i => i ≤ (pcL (edgesM l)).length) (fun i => [(7, .int i), (6, .int (sumL ((pcL (edgesM l)).take i)))]) (fun i => []) (fun i => (pcL (edgesM l)).length - i) 0 ?_ ⟨gInt rfl (by first | rfl | omega | simp), gInt rfl (by first | rfl | (rw [sumL_step hp]; omega)), rfl, rfl, rfl, rfl, trivial⟩ (by repeat constructor) ?_
      · skip
        omega
      · rintro i hi
        refine aSeq ?_
        refine aSeq ?_
        refine aReg ?_
        refine sp pM ?_
        refine sp pM ?_
        refine sp (by first | exact pLm sl_64 | exact pLs sl_64) ?_
        refine sp pB ?_
        refine oNil ?_
        refine aCondDec rfl (fun c36 => ?_) (fun c36 => ?_)
        · skip
          refine aSkip ?_
          refine aSeq ?_
          refine aBlock ?_
          refine aSeq ?_
          refine aSeq ?_
          obtain ⟨p, hp⟩ : ∃ z, (pcL (edgesM l))[i]? = some z := ⟨_, List.getElem?_eq_getElem (by omega)⟩
          have hpe := pc_each _ p (List.mem_of_getElem? hp)
          refine aDrawT law39_BridgePieces_r14_t law39_BridgePieces_r14_b [] 10 #[false, false, false, false, false, false, false, false, false, false] (by kernel_rfl) rfl rfl (fun HT => ?_)
          refine dp HT 0 rfl pM ?_
          refine dp HT 1 rfl pM ?_
          first | refine dp HT 2 rfl (pIx es_64) ?_ | (refine obtDN 39 40 rfl rfl (by omega) (fun x41 hx41 => ?_); refine dp HT 2 rfl (pIs es_64 hx41) ?_) | (refine obtD 39 40 rfl rfl (by omega) (by omega) (fun x41 hx41 => ?_); refine dp HT 2 rfl (pIs es_64 hx41) ?_) | refine dp HT 2 rfl (pIo es_64) ?_
          refine dr HT 3 rfl (rS1 ty_51) ?_
          refine dp HT 4 rfl pM ?_
          refine dp HT 5 rfl pM ?_
          first | refine dp HT 6 rfl (pIx es_64) ?_ | (refine obtDN 43 44 rfl rfl (by omega) (fun x45 hx45 => ?_); refine dp HT 6 rfl (pIs es_64 hx45) ?_) | (refine obtD 43 44 rfl rfl (by omega) (by omega) (fun x45 hx45 => ?_); refine dp HT 6 rfl (pIs es_64 hx45) ?_) | refine dp HT 6 rfl (pIo es_64) ?_
          refine dr HT 7 rfl (by first | exact rS1 ty_51 | exact rB1 ty_51 | exact rAr ty_51 | exact rArL ty_51 | exact rArR2 ty_51) ?_
          refine dGo ?_
          refine e1 HT 8 rfl ?_
          refine cv rfl rfl rfl (lents_refl _) (ref24_Ints (by omega) (by omega)) ?_
          rw [show decide (p = p) = true from decide_eq_true rfl]
          refine ef HT 9 rfl pNo ?_
          refine eE HT ?_
          clear HT
          refine aCondF rfl ?_
          refine aSkip ?_
          have hsl := sumL_le (l := (pcL (edgesM l)).take i) (fun q hq => pc_each _ q (List.mem_of_mem_take hq))
          have htl := List.length_take_le' i (pcL (edgesM l))
          refine aReg ?_
          refine sp pM ?_
          refine sp pM ?_
          refine sp pM ?_
          first | refine sp (pIx es_64) ?_ | (refine obtSN 50 51 rfl rfl (by omega) (fun x52 hx52 => ?_); refine sp (pIs es_64 hx52) ?_) | (refine obtS 50 51 rfl rfl (by omega) (by omega) (fun x52 hx52 => ?_); refine sp (pIs es_64 hx52) ?_) | refine sp (pIo es_64) ?_
          refine sr (rS1 ty_51) ?_
          refine sp (by first | exact pLm sl_51 | exact pLs sl_51 | exact pLv sl_51) ?_
          refine sp pAd ?_
          refine sp pMa ?_
          refine oNil ?_
          refine aReg ?_
          refine sp pM ?_
          refine sp pAd ?_
          refine sp pMa ?_
          refine oNil ?_
          refine ⟨i + 1, ?_, by (try dsimp only); omega, ⟨gInt rfl (by first | rfl | omega | simp), gInt rfl (by first | rfl | (rw [sumL_step hp]; omega)), rfl, rfl, rfl, rfl, trivial⟩, _, (by repeat constructor)⟩
          omega
        · skip
          refine aExit rfl ?_
          refine aSeq ?_
          obtain rfl : i = (pcL (edgesM l)).length := by omega
          rw [List.take_length]
          have hsl := sumL_le (pc_each (edgesM l))
          have hF1 : sumL (pcL (edgesM l)) ≤ (edgesM l).length + (pcL (edgesM l)).length := hF.1
          have hF2 : (sumL (pcL (edgesM l)) = (edgesM l).length + (pcL (edgesM l)).length) ↔ (bridgesM l).length = (edgesM l).length := hF.2
          refine aReg ?_
          refine sp pM ?_
          refine sq ?_
          refine ci rfl rfl rfl (br_Bridges_s (l := l) (by omega)) ?_
          refine sp (by first | exact pLm sl_56 | exact pLs sl_56 | exact pLv sl_56) ?_
          refine sp pM ?_
          refine sp (by first | exact pLm sl_56 | exact pLs sl_56 | exact pLv sl_56) ?_
          refine sp pB ?_
          refine sp pMa ?_
          refine oNil ?_
          refine aSeq ?_
          refine aReg ?_
          refine sp pM ?_
          refine sp (by first | exact pLm sl_56 | exact pLs sl_56 | exact pLv sl_56) ?_
          refine sp pM ?_
          refine sp pM ?_
          refine sp (by first | exact pLm sl_64 | exact pLs sl_64) ?_
          refine sp pSu ?_
          refine sp (pBl (by exact pB) (show _ = true from decide_eq_true (by omega))) ?_
          refine sp pM ?_
          refine gp pM ?_
          refine gp (by first | exact pLm sl_56 | exact pLs sl_56 | exact pLv sl_56) ?_
          refine gp pM ?_
          refine gp pM ?_
          refine gp (by first | exact pLm sl_64 | exact pLs sl_64) ?_
          refine gp pSu ?_
          refine gp pB ?_
          refine gp pM ?_
          refine gp (pBl (by exact pEqBe bo_4) (show _ = true from by rw [beq_iff_eq, Bool.eq_iff_iff, beq_iff_eq, beq_iff_eq]; omega)) ?_
          refine sp pK ?_
          refine sp pM ?_
          refine ga ?_
          refine (ci rfl rfl rfl law39_awake ?_).op
          refine sp pK ?_
          refine sp pMa ?_
          refine oNil ?_
          refine aRet ?_
          refine finIs rfl ?_
          rfl
end A
end Go.Proofs.Ytnabkchagjjjnaa
set_option linter.unusedVariables false
set_option linter.unusedSimpArgs false
namespace Go.Proofs.Ytnabkchagjjjnaa
namespace A
theorem op_Arc : OpC Try.prog 90 3 Arc arcC (fun _ => True) :=
  opMap (opStruct Try.underlying90 (by kernel_rfl) (fsCons rfl (by kernel_rfl) (opInt Try.underlying3) (fsCons rfl (by kernel_rfl) (opInt Try.underlying3) (fsCons rfl (by kernel_rfl) (opInt Try.underlying3) fsNil)))) (fun x => ⟨x.1, x.2.1, x.2.2.1⟩) (fun _ => rfl) (fun _ _ => trivial)
end A
end Go.Proofs.Ytnabkchagjjjnaa
namespace Go.Proofs.Ytnabkchagjjjnaa.bridgePieces
open Go.ChangeShapes Go.WideShapes Go.ChangeAt Go.RowKit Go.Proofs.Ytnabkchagjjjnaa.A
open Go.ChangeMaps (open_string shut_string)
set_option linter.unusedVariables false
theorem own : ownKnob Try.prog.godebug = none := by kernel_rfl
theorem laidOut : laidOutB Try.prog = true := A.laidAll
theorem fInPlace : (Rows.bridgePiecesRow.inPlace == Try.prog.inPlace 5) = true := by kernel_rfl
theorem fUnfollowed : (Rows.bridgePiecesRow.unfollowed == Try.prog.unfollowed 5) = true := by kernel_rfl
theorem fRecurses : (Rows.bridgePiecesRow.recurses == Try.prog.recurses 5) = true := by kernel_rfl
theorem fNamed : (Rows.bridgePiecesRow.named == Try.prog.varsNamed 5) = true := by kernel_rfl
theorem closed : joinedFacts Try.prog 5 Try.f5 Rows.bridgePiecesSpec Rows.bridgePiecesRow = true := by
  unfold joinedFacts
  simp only [Bool.and_eq_true]
  refine ⟨⟨⟨⟨⟨⟨⟨⟨⟨⟨⟨⟨⟨⟨⟨⟨⟨⟨⟨⟨⟨⟨⟨⟨⟨⟨⟨⟨⟨⟨⟨?_, A.laidAll⟩, A.mapsAll⟩, ?_⟩, ?_⟩, ?_⟩, ?_⟩, ?_⟩, ?_⟩, fInPlace⟩, fUnfollowed⟩, fRecurses⟩, fNamed⟩, ?_⟩, ?_⟩, ?_⟩, ?_⟩, ?_⟩, ?_⟩, ?_⟩, ?_⟩, ?_⟩, ?_⟩, ?_⟩, A.stopsAll⟩, A.mayE⟩, by rw [A.lifF]; kernel_rfl⟩, by rw [A.mkC]; kernel_rfl⟩, ?_⟩, ?_⟩, ?_⟩, ?_⟩
  all_goals kernel_rfl
set_option maxRecDepth 100000 in
theorem lifted (os : Os) (started : os.Started) (H : Type) (enc : TypeId × Value → H) :
    ReturnsInHanded {} Try.checked os 5 .any (Rows.bridgePiecesSpec.pre6 enc Try.prog Try.f5 Rows.bridgePiecesRow.domain false) (Rows.bridgePiecesSpec.post enc Try.prog Try.f5 false true false false) := by
  refine returnsInHanded_of_change_sized (C := Try.checked) own started (by kernel_rfl) Try.func5
    (ChangeSpec.witness6 (enc := enc) (C := Try.checked) false ⟨#[], #[.slice none 0 0], []⟩ 8 (by kernel_rfl) (by kernel_rfl) (by kernel_rfl) (by kernel_rfl)) ?_
  intro W base args ds gs before hval0 hW hcnd hsz0 _
  have hval : ∀ (j : Nat) t v, Try.f5.params[j]? = some t → args[j]? = some v → Value.okWide Try.prog W .any base t v := hval0
  have hW' := hW
  obtain ⟨p, q, hA0, hV, rfl, hfz, hnd⟩ := hW
  have hA : DataW.TrodAll enc Try.prog W 0 (fun _ => true) true Try.f5.params.toList args.toList ds p := hA0
  rw [Try.params5] at hA hval
  obtain ⟨v0, vs0, d0, ds0, p0, q0, hargs, rfl, rfl, h0, r0⟩ := trodAll_cons hA
  obtain ⟨rfl, rfl, rfl⟩ := trodAll_nil r0
  obtain rfl : args = #[v0] := by cases args; simp_all
  obtain ⟨rfl, rfl⟩ := trodVars_none hV
  have k0 := h0
  have lt0 : ∀ x ∈ p0, x.block < W.heap.size := by obtain ⟨m, hm⟩ := k0; exact DataW.trod_lt m _ _ _ hm
  have one0 : v0.oneCell' = true := by obtain ⟨_, _, _, rfl⟩ := okWide_slice Try.underlying55 (hval 0 55 v0 rfl rfl); rfl
  obtain ⟨a0, w0, rep0⟩ := argOne (opSlice Try.underlying55 (by kernel_rfl) (by decide) op_Arc) one0 h0
  refine (law_calls (law39_BridgePieces (l := a0) w0.2) (reps_cons rep0 reps_nil)).mono fun e W' ⟨he, bel⟩ => ?_
  subst he
  exact ⟨_, rfl, _, _, _, [], _, [], hW', trodAll_mk1 (shut_bool Try.underlying4 _), (trodAll_cons_mk (Below.trod laidOut (by kernel_rfl) (of_decide_eq_true (by kernel_rfl)) k0 bel lt0) trodAll_mk0), rfl, bel.frame _, fun h => by cases h⟩
theorem over : Rows.bridgePiecesRow.holds Try.pinned (OpenSpec.ofChange Rows.bridgePiecesSpec) :=
  OpenClaim.holds_of_wide 5 Try.f5 rfl rfl rfl rfl rfl rfl rfl ⟨rfl, rfl, rfl, rfl, rfl⟩ rfl rfl rfl rfl rfl (by kernel_rfl) Try.func5 closed
    (of_decide_eq_true (by kernel_rfl)) (by unfold Func.isWrapper; first | (rw [if_pos (by decide +kernel)]; kernel_rfl) | (rw [if_neg (by decide +kernel)]; exact ⟨rfl, rfl⟩))
    (fun os started H enc _ => lifted os started H enc)
theorem proved : Rows.BridgePiecesSaid := over
#print axioms proved
end Go.Proofs.Ytnabkchagjjjnaa.bridgePieces
