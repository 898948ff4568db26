/- Whatever the input, waymarklaw44.HopAgree returns true, and each argument reads as it did. -/
import Derived.KernelRfl
import Derived.Test.YtmcannmjielalaaProg
import Derived.Test.YtmcannmjielalaaS12HopAgree
set_option linter.unusedVariables false
set_option linter.unusedSimpArgs false
namespace Go.Proofs.Ytmcannmjielalaa
namespace A
theorem el_41 : elemOf Try.prog 41 = some (49, 3, 24) := by kernel_rfl
theorem mo_156 : mapOf Try.prog 156 = some (3, 22) := by kernel_rfl
theorem sl_41 : isSl Try.prog 41 = true := by kernel_rfl
theorem st_164 : structPlaces Try.prog 164 = some [(0, 1), (1, 1), (2, 1), (3, 1)] := by kernel_rfl
theorem us_41 : Try.prog.underlying 41 = some (.slice 49) := by kernel_rfl
theorem ze_164 : zeroOf Try.prog 164 = some (.agg #[.int .i64 0, .map none, .map none, .pointer none]) := by kernel_rfl
theorem ze_22 : zeroOf Try.prog 22 = some (.slice none 0 0) := by kernel_rfl
theorem DInv.perm {l : List Arc} {r : Int} {known : Int → Option (Int × Int)} {done : Int → Bool} {hp hp' : List (Int × Int)} {pend : Arc → Prop} (I : DInv l r known done hp pend) (h : hp.Perm hp') : DInv l r known done hp' pend :=
  ⟨I.k1, I.d1, I.d2, fun v p a b => h.mem_iff.1 (I.h1 v p a b), fun a => h.mem_iff.1 (I.hr a), fun c v a => I.h2 c v (h.mem_iff.2 a)⟩
def cntA (l : List Arc) (D : Int → Bool) : Nat := (l.filter fun a => !D a.f).length
theorem cntA_done : ∀ {l : List Arc} {D : Int → Bool} {n : Int}, D n = false → cntA l D = cntA l (updF D n true) + (l.filter fun a => a.f == n).length
  | [], _, _, _ => rfl
  | a :: l, D, n, h => by
    have ih := cntA_done (l := l) h
    unfold cntA at *
    simp only [List.filter_cons]
    by_cases e : a.f = n
    · have h1 : updF D n true a.f = true := by rw [e, updF_same]
      rw [e, h] at *
      simp [h1, updF_same]
      omega
    · have h1 : updF D n true a.f = D a.f := updF_ne _ _ e
      have h2 : (a.f == n) = false := by simpa using e
      rw [h1, h2]
      cases D a.f <;> simp <;> omega
def rKeys (l : List Arc) (r : Int) : List Int := ((List.range 65).map fun (i : Nat) => (i : Int)).filter fun v => decide (v ≠ r) && isF l r v
theorem rKeys_sorted (l : List Arc) (r : Int) : (rKeys l r).Pairwise (· < ·) := by
  refine List.Pairwise.sublist List.filter_sublist ?_
  rw [List.pairwise_map]
  exact List.pairwise_lt_range.imp (fun h => by omega)
theorem rKeys_mem {l : List Arc} (hl : ∀ a ∈ l, AOk a) {r v : Int} : v ∈ rKeys l r ↔ v ≠ r ∧ isF l r v = true := by
  unfold rKeys
  rw [List.mem_filter]
  simp only [Bool.and_eq_true, decide_eq_true_eq, List.mem_map, List.mem_range]
  refine ⟨fun h => h.2, fun h => ⟨?_, h⟩⟩
  rcases (isF_wk hl h.2).rng hl with e | e
  · exact absurd e h.1
  · exact ⟨v.toNat, by omega, by omega⟩
theorem rKeys_len (l : List Arc) (r : Int) : (rKeys l r).length ≤ 65 := by
  unfold rKeys
  refine Nat.le_trans (List.length_filter_le _ _) ?_
  simp
/-- What is known when all is done. -/
structure KEnd (l : List Arc) (r : Int) (km : List (Int × Rt)) : Prop where
  s : sortI (mKeys km) = rKeys l r
  g : ∀ n ∈ rKeys l r, (mGet km n).getD ⟨0, 0, 0⟩ = ⟨n, viaM l r n, dF l r n⟩
  n : km.length ≤ 65
theorem kend_of {l : List Arc} (hl : ∀ a ∈ l, AOk a) {r : Int} {km : List (Int × Rt)} {D : Int → Bool} (K : KI km) (I : DInv l r (kF km) D [] (fun _ => False)) : KEnd l r km := by
  have hk : ∀ v, v ∈ mKeys km ↔ v ∈ rKeys l r := fun v => by
    rw [rKeys_mem hl, ← mGet_mem]
    have h := I.done hl v
    unfold kF at h
    split at h
    · rename_i hc
      rw [Option.map_eq_some_iff] at h
      obtain ⟨x, hx, _⟩ := h
      simp [hx, hc]
    · rename_i hc
      rw [Option.map_eq_none_iff] at h
      rw [h]
      simp only [Option.isSome_none, Bool.false_eq_true, false_iff]
      exact hc
  refine ⟨sortI_eq K.1 (rKeys_sorted l r) (fun x => hk x), fun n hn => ?_, mLen K.1 (n := 65) (fun x hx => ?_)⟩
  · have h := I.done hl n
    rw [if_pos ((rKeys_mem hl).1 hn)] at h
    unfold kF at h
    rw [Option.map_eq_some_iff] at h
    obtain ⟨x, hx, he⟩ := h
    rw [hx, Option.getD_some]
    have h1 := K.2 n x hx
    obtain ⟨x1, x2, x3⟩ := x
    simp only [Prod.mk.injEq] at he h1
    rw [h1, he.1, he.2]
  · have h := (rKeys_mem hl).1 ((hk x).1 hx)
    rcases (isF_wk hl h.2).rng hl with e | e
    · exact absurd e h.1
    · omega
/-- The next one is taken. -/
theorem loop_next {l : List Arc} {r : Int} {K : Int → Option (Int × Int)} {D : Int → Bool} {h h3 : List (Int × Int)} {x2 : Int × Int} {q2 : Bool} (J : DInv l r K D h (fun _ => False)) (hq0 : q2 = false → h = [] ∧ h3 = []) (hq1 : q2 = true → h.Perm (x2 :: h3) ∧ ∀ e ∈ h, x2.1 ≤ e.1) :
    (q2 = true → DInv l r K D (x2 :: h3) (fun _ => False) ∧ ∀ e ∈ x2 :: h3, x2.1 ≤ e.1) ∧ (q2 = false → DInv l r K D [] (fun _ => False)) :=
  ⟨fun e => ⟨J.perm (hq1 e).1, fun y hy => (hq1 e).2 y ((hq1 e).1.mem_iff.2 hy)⟩, fun e => by have := hq0 e; rw [this.1] at J; exact J⟩
def bI (q : Bool) : Nat := if q then 1 else 0
theorem take_len {h h3 : List (Int × Int)} {x2 : Int × Int} {q2 : Bool} (hq0 : q2 = false → h = [] ∧ h3 = []) (hq1 : q2 = true → h.Perm (x2 :: h3) ∧ ∀ e ∈ h, x2.1 ≤ e.1) : h3.length + bI q2 = h.length := by
  cases q2 with
  | false => rw [(hq0 rfl).1, (hq0 rfl).2]; rfl
  | true => rw [(hq1 rfl).1.length_eq]; simp [bI]
/- spf.Routes -/
def spf_Routes_r7_T : Bool × List (List Nat × List Nat) := (true, [([], []), ([], []), ([1], [1]), ([], []), ([], []), ([4], [4]), ([3, 5], [3, 5]), ([], []), ([7], [7]), ([6, 8], [6, 8]), ([0, 2, 9, 9, 0, 1, 2, 3, 4, 5, 6, 7, 8, 9], [0, 2, 9])])
def spf_Routes_r7_B : List Nat := [0, 0, 2, 0, 0, 16, 56, 0, 128, 504, 1023]
theorem spf_Routes_r7_t : Go.Proofs.YtmcannmjielalaaW.PrintLast.rtab .any (Go.Proofs.YtmcannmjielalaaW.PrintLast.opsOf Try.f43 7) = spf_Routes_r7_T := by kernel_rfl
theorem spf_Routes_r7_b : Go.Proofs.YtmcannmjielalaaW.PrintLast.waitsOk spf_Routes_r7_T.2 spf_Routes_r7_B = true := by kernel_rfl
def spf_Routes_r13_T : Bool × List (List Nat × List Nat) := (true, [([], []), ([0], [0]), ([1], [1]), ([2], [2]), ([], []), ([4], [4]), ([3, 5], [3, 5]), ([6], [6])])
def spf_Routes_r13_B : List Nat := [0, 1, 3, 7, 0, 16, 63, 127]
theorem spf_Routes_r13_t : Go.Proofs.YtmcannmjielalaaW.PrintLast.rtab .any (Go.Proofs.YtmcannmjielalaaW.PrintLast.opsOf Try.f43 13) = spf_Routes_r13_T := by kernel_rfl
theorem spf_Routes_r13_b : Go.Proofs.YtmcannmjielalaaW.PrintLast.waitsOk spf_Routes_r13_T.2 spf_Routes_r13_B = true := by kernel_rfl
def spf_Routes_r14_T : Bool × List (List Nat × List Nat) := (true, [([], []), ([0], [0]), ([1], [1]), ([2], [2]), ([], []), ([4], [4]), ([3, 5, 0, 1, 2, 3, 4, 5], [3, 5])])
def spf_Routes_r14_B : List Nat := [0, 1, 3, 7, 0, 16, 63]
theorem spf_Routes_r14_t : Go.Proofs.YtmcannmjielalaaW.PrintLast.rtab .any (Go.Proofs.YtmcannmjielalaaW.PrintLast.opsOf Try.f43 14) = spf_Routes_r14_T := by kernel_rfl
theorem spf_Routes_r14_b : Go.Proofs.YtmcannmjielalaaW.PrintLast.waitsOk spf_Routes_r14_T.2 spf_Routes_r14_B = true := by kernel_rfl
set_option maxRecDepth 100000 in
set_option maxHeartbeats 8000000 in
theorem spf_Routes {l : List Arc} {r : Int} (hll : l.length ≤ 400000 := by omega) : Triple Try.prog 43 [.sl 3 (l.map arcC), .int r] [] (Own 49 3 ((if arcsB none l then routesM l r else []).map rtC) []) := by
  refine triple_of Try.func43 rfl (by kernel_rfl) rfl (by simp) ?_
  refine aSeq ?_
  refine aReg ?_
  refine sp pMa ?_
  refine oNil ?_
  refine aSeq ?_
  refine aSeq ?_
  refine aReg ?_
  refine sp pM ?_
  refine sq ?_
  refine cv rfl rfl rfl (lents_refl _) graph_Check ?_
  refine sp pB ?_
  refine oNil ?_
  refine aCondNe rfl (fun c16 => ?_) (fun c16 => ?_)
  · skip
    refine aSeq ?_
    refine aWeak (weak_nil 49 3) ?_
    refine aReg ?_
    refine sp pMa ?_
    refine oNil ?_
    refine aRet ?_
    refine finOwn rfl ?_
    have hno : arcsB none l = false := by cases h : arcsB none l <;> simp_all
    rw [hno]
    rfl
  · skip
    refine aSkip ?_
    refine aSeq ?_
    have hyes : arcsB none l = true := by cases h : arcsB none l <;> simp_all
    have hlA := arcs_ok hyes
    have hsA := arcsB_sorted hyes
    refine aReg ?_
    refine sq ?_
    refine qMakeMap rfl rfl (by decide) (fun b17 => ?_)
    refine sp pMa ?_
    refine oNil ?_
    refine aSeq ?_
    refine aSeq ?_
    refine aReg ?_
    refine sp pM ?_
    refine sp (by first | exact pLm sl_22 | exact pLs sl_22) ?_
    refine sp pM ?_
    refine oNil ?_
    refine aBlock ?_
    refine aLoopI (α := Nat × List (Int × SlE Arc)) (fun (i, m) => i ≤ l.length ∧ ∀ k, (slAt m k).l = (l.take i).filter fun a => a.f == k) (fun (i, m) => ([(1, .int r), (5, .v (.map (some b17))), (18, .sl 3 (l.map arcC)), (19, .int l.length), (20, .int i)], .map b17 (kvM slE m) :: msH 36 3 arcC m)) (fun (i, m) => l.length - i) (0, []) ?_ ?_ ?_
    · skip
      exact ⟨by omega, fun k => by simp [slAt, mGet, sl0]⟩
    · skip
      exact weak_env ⟨rfl, rfl, rfl, gInt rfl (by simp), rfl, trivial⟩
    · rintro ⟨i, m⟩ ⟨hi, hM⟩
      skip
      refine aSeq ?_
      refine aReg ?_
      refine sp pB ?_
      refine oNil ?_
      refine aSeq ?_
      refine aCondDec rfl (fun c21 => ?_) (fun c21 => ?_)
      · skip
        refine aSkip ?_
        refine aSeq ?_
        refine aBlock ?_
        refine aSeq ?_
        obtain ⟨a, ha⟩ : ∃ a, l[i]? = some a := ⟨_, List.getElem?_eq_getElem (by omega)⟩
        refine aReg ?_
        first | refine sp (pIx es_22) ?_ | (refine obtSN 18 20 rfl rfl (by omega) (fun x22 hx22 => ?_); refine sp (pIs es_22 hx22) ?_) | (refine obtS 18 20 rfl rfl (by omega) (by omega) (fun x22 hx22 => ?_); refine sp (pIs es_22 hx22) ?_) | refine sp (pIo es_22) ?_
        refine sr (by first | exact rSW ty_36 rfl | exact rSA ty_36 | exact rBWa ty_36 | exact rBW ty_36 | exact rBA ty_36 | exact rArA ty_36 (fun _ => rfl)) ?_
        refine sq ?_
        refine qAlloc rfl rfl (by decide) ze_36 rfl (fun b7 => ?_)
        refine sa ?_
        refine oStW rfl rfl rfl rfl (by repeat constructor) ty_36 ?_
        refine oNil ?_
        have hsl : (slAt m a.f).l.length ≤ 1000000 := by rw [hM]; have := filter_len (p := fun b : Arc => b.f == a.f) (l := l) (i := i); omega
        refine aWeak (weak_takeS (h0 := [_, _]) a.f) ?_
        dsimp only [List.cons_append, List.nil_append]
        refine aDrawS (h1 := [.box b7 _, .map b17 _]) spf_Routes_r7_t spf_Routes_r7_b [10] 11 #[false, false, false, false, false, false, false, false, false, false, false] (by kernel_rfl) rfl rfl (.cons (by repeat constructor) (.cons (by repeat constructor) .nil)) (fun HT => ?_)
        refine ep HT 0 rfl pM ?_
        refine ep HT 1 rfl (pFb fd_36_0) ?_
        refine er HT 2 rfl (rB1 ty_3) ?_
        refine ep HT 3 rfl pM ?_
        refine ep HT 4 rfl (pFb fd_36_0) ?_
        refine er HT 5 rfl (rB1 ty_3) ?_
        refine er HT 6 rfl (rMG mo_156 ze_22 (sl0 : SlE Arc) .refl) ?_
        refine er HT 7 rfl (by first | exact rBWa ty_36 | exact rBW ty_36 | exact rBA ty_36) ?_
        refine e1 HT 8 rfl ?_
        refine qLit (l := [_]) rfl rfl (by decide) us_22 ty_36 ze_36 rfl (by decide) (by decide) rfl rfl rfl (fun b32 => ?_)
        refine eOneS (i := 9) #[true, true, true, true, true, true, true, true, true, true, false] rfl (HT.one (by kernel_rfl)) (by decide) ?_
        · skip
          refine stA (hx := [.sl (slAt m a.f).g _ _ _ _, .sl (some b32) _ _ _ _]) (wantN rfl) (fun t ht => by cases ht <;> decide) (.cons (by repeat constructor) (.cons (by repeat constructor) .nil)) (by repeat constructor) ?_
          refine oAppT ([a] : List Arc) rfl rfl (by repeat constructor) (srcOwn rfl (by repeat constructor) rfl) el_22 sl_22 (fun g33 k33 => ?_)
          refine undel (d := 33) rfl ?_
          dsimp only [List.cons_append, List.nil_append]
          refine eLast ?_
          refine f1 HT 10 rfl ?_
          refine oMP (c := slE) (v := ⟨g33, k33, (slAt m a.f).l ++ [a]⟩) rfl rfl rfl rfl mo_156 ?_
          refine fE HT ?_
          clear HT
          refine aReg ?_
          refine sp pAd ?_
          refine sp pM ?_
          refine oNil ?_
          refine ⟨(i + 1, mPut m a.f ⟨g33, k33, (slAt m a.f).l ++ [a]⟩), ⟨by omega, fun k => ?_⟩, by show l.length - (i + 1) < l.length - i; omega, ?_⟩
          rotate_left
          · refine Weak.trans ?_ (weak_putS (h0 := [_]))
            exact weak_sub ⟨rfl, rfl, rfl, rfl, gInt rfl (by simp), trivial⟩ (.cons (by repeat constructor) (.cons (by repeat constructor) (tk_after (l := [_, _]))))
          rw [slAt_put, filter_take ha]
          by_cases e : k = a.f
          · subst e; simp [hM]
          · rw [if_neg e, hM, if_neg (by simpa using fun e' => e e'.symm), List.append_nil]
      · skip
        refine aExit rfl ?_
        refine aSeq ?_
        rw [take_all (by omega)] at hM
        refine aWeak weak_settleMS ?_
        refine aReg ?_
        refine sp pM ?_
        refine sq ?_
        refine qMakeMap rfl rfl (by decide) (fun b36 => ?_)
        refine sq ?_
        refine qMM boA rfl (fun b37 => ?_)
        refine sp pM ?_
        refine sp (pBuild rfl st_162 ze_162 rfl rfl rfl rfl) ?_
        refine sq ?_
        refine qLit (l := [_]) rfl rfl (by decide) us_261 ty_162 ze_162 rfl (by decide) (by decide) rfl rfl rfl (fun b40 => ?_)
        refine oWeak (weak_settle (k := 40) (es := [(0, r)].map spC) rfl .hd rfl) ?_
        refine sa ?_
        refine ca rfl rfl rfl (heap_New [(0, r)] (by simp)) ?_
        rintro _ _ ⟨hb, g, c, h, rfl, rfl, hk, hpm⟩
        refine sp (pBuild rfl st_164 ze_164 rfl rfl rfl rfl) ?_
        refine sq ?_
        refine qBox rfl rfl (by decide) rfl rfl (fun b43 => ?_)
        refine sp pMa ?_
        refine oNil ?_
        refine aSeq ?_
        refine aSeq ?_
        refine aReg ?_
        refine sp pM ?_
        refine sp pNv ?_
        refine sp (pFb fd_164_3) ?_
        refine sr (rB1 ty_159) ?_
        refine sa ?_
        refine ca rfl rfl rfl (heap_Take hb g c h hk (by have := hpm.length_eq; simp at this; omega)) ?_
        rintro _ _ ⟨x, q, h1, g1, c1, rfl, rfl, hk1, hq0, hq1⟩
        refine sp pM ?_
        refine sp pX ?_
        refine sp pX ?_
        refine sq ?_
        refine qAlloc rfl rfl (by decide) ze_162 rfl (fun b9 => ?_)
        refine sa ?_
        refine oStW rfl rfl rfl rfl (by repeat constructor) ty_162 ?_
        refine sp pMa ?_
        refine oNil ?_
        refine aBlock ?_
        refine loopF (α := List (Int × Rt) × List (Int × Bool) × (Int × Int) × Bool × Option Nat × Nat × List (Int × Int) × Nat) (kept := [(5, _), (8, _)]) (fun (km, dm, x, q, g, c, h, b) => HeapOk h ∧ KI km ∧ (q = true → DInv l r (kF km) (DF dm) (x :: h) (fun _ => False) ∧ ∀ e ∈ x :: h, x.1 ≤ e.1) ∧ (q = false → DInv l r (kF km) (DF dm) [] (fun _ => False)) ∧ h.length + bI q + cntA l (DF dm) ≤ l.length + 1) (fun (km, dm, x, q, g, c, h, b) => [(9, .v (.pointer (some ⟨b, 0, none⟩))), (10, .v (.bool q))]) (fun (km, dm, x, q, g, c, h, b) => [.box b43 [.int r, .v (.map (some b36)), .v (.map (some b37)), .v (.pointer (some ⟨hb, 0, none⟩))], .map b36 (kvM rtA (km)), .map b37 (kvM boA (dm)), .box hb [.v (slV g (h).length c)], .sl g c 162 2 ((h).map spC), .box b (spC x)]) (fun (km, dm, x, q, g, c, h, b) => h.length + bI q + cntA l (DF dm)) ([], [], x, q, g1, c1, h1, b9) ?_ ⟨rfl, rfl, rfl, rfl, trivial⟩ (by repeat constructor) ?_
        · skip
          have hN : DInv l r (kF []) (DF []) h (fun _ => False) := (dinv_new l r).perm hpm.symm
          have hnx := loop_next hN hq0 hq1
          have htl := take_len hq0 hq1
          have hpl := hpm.length_eq
          simp at hpl
          exact ⟨hk1, ⟨by simp [mKeys], fun v x hx => by simp [mGet] at hx⟩, hnx.1, hnx.2, by have : cntA l (DF []) ≤ l.length := List.length_filter_le _ _; omega⟩
        · rintro ⟨km, dm, x, q, g, c, h, b⟩ ⟨hk, K, hQ1, hQ0, hB⟩
          refine aSeq ?_
          refine aSeq ?_
          refine aReg ?_
          refine sp pM ?_
          refine oNil ?_
          refine aCond rfl (fun c52 => ?_) (fun c52 => ?_)
          · skip
            refine aSkip ?_
            refine aSeq ?_
            refine aBlock ?_
            refine aSeq ?_
            obtain ⟨I, hmin⟩ := hQ1 (by assumption)
            refine aDrawT spf_Routes_r13_t spf_Routes_r13_b [] 8 #[false, false, false, false, false, false, false, false] (by kernel_rfl) rfl rfl (fun HT => ?_)
            refine dp HT 0 rfl pM ?_
            refine dp HT 1 rfl pNv ?_
            refine dp HT 2 rfl (pFb fd_164_2) ?_
            refine dr HT 3 rfl (rB1 ty_144) ?_
            refine dp HT 4 rfl (by first | exact pFb fd_162_1 | exact pFs fd_162_1) ?_
            refine dr HT 5 rfl (by first | exact rS1 ty_3 | exact rB1 ty_3 | exact rAr ty_3 | exact rArL ty_3 | exact rArR2 ty_3) ?_
            refine dr HT 6 rfl (rMGb mo_144 ze_4) ?_
            refine dp HT 7 rfl pNo ?_
            refine dE HT ?_
            clear HT
            refine aCondNot rfl (fun c68 => ?_) (fun c68 => ?_)
            · skip
              refine aSeq ?_
              refine aDrawT spf_Routes_r14_t spf_Routes_r14_b [6] 7 #[false, false, false, false, false, false, false] (by kernel_rfl) rfl rfl (fun HT => ?_)
              refine dp HT 0 rfl pM ?_
              refine dp HT 1 rfl pNv ?_
              refine dp HT 2 rfl (pFb fd_164_2) ?_
              refine dr HT 3 rfl (rB1 ty_144) ?_
              refine dp HT 4 rfl (by first | exact pFb fd_162_1 | exact pFs fd_162_1) ?_
              refine dr HT 5 rfl (by first | exact rS1 ty_3 | exact rB1 ty_3 | exact rAr ty_3 | exact rArL ty_3 | exact rArR2 ty_3) ?_
              refine dGo ?_
              refine eLast ?_
              refine f1 HT 6 rfl ?_
              first | refine oMP rfl rfl rfl rfl mo_144 ?_ | refine oMapSet rfl rfl rfl rfl rfl (by repeat constructor) mo_144 ?_
              refine fE HT ?_
              clear HT
              refine aReg ?_
              refine sp pM ?_
              refine sp pM ?_
              refine sp (by first | exact pFb fd_162_1 | exact pFs fd_162_1) ?_
              refine sr (by first | exact rS1 ty_3 | exact rB1 ty_3 | exact rAr ty_3 | exact rArL ty_3 | exact rArR2 ty_3) ?_
              refine sr (rMG (c := slS 3 arcC) mo_156 ze_22 ([] : List Arc) cast_nil) ?_
              rw [show slS 3 arcC ((mGet (msL m) x.2).getD []) = .sl 3 ((l.filter fun a => a.f == x.2).map arcC) by rw [← hM x.2, msL_get, slAt]; cases mGet m x.2 <;> rfl]
              refine sp (by first | exact pFb fd_162_1 | exact pFs fd_162_1) ?_
              refine sr (by first | exact rS1 ty_3 | exact rB1 ty_3 | exact rAr ty_3 | exact rArL ty_3 | exact rArR2 ty_3) ?_
              have hnd : DF dm x.2 = false := by assumption
              have Itk : DInv l r (kF km) (DF (mPut dm x.2 true)) h (fun a => a.f = x.2) := by rw [DF_put]; exact I.take hlA hsA (.refl _) hmin hnd
              have hcnt := cntA_done (l := l) hnd
              rw [← DF_put (b := true)] at hcnt
              refine sa ?_
              refine ca rfl rfl rfl (spf_spread hlA hsA (by omega) b43 b36 b37 hb km (mPut dm x.2 true) g c h x.2 (l.filter fun a => a.f == x.2) rfl hk (by omega) Itk (by rw [DF_put, updF_same]) K) ?_
              rintro _ _ ⟨km', g', c', h', rfl, rfl, hk', I', K', hl'⟩
              refine oNil ?_
              refine aSeq ?_
              refine aSeq ?_
              refine aReg ?_
              refine sr (by first | exact rSW ty_162 rfl | exact rSA ty_162 | exact rBWa ty_162 | exact rBW ty_162 | exact rBA ty_162 | exact rArA ty_162 (fun _ => rfl)) ?_
              refine oNil ?_
              refine aReg ?_
              refine sq ?_
              refine qAlloc rfl rfl (by decide) ze_162 rfl (fun b9 => ?_)
              refine sa ?_
              refine oStW rfl rfl rfl rfl (by repeat constructor) ty_162 ?_
              refine oNil ?_
              refine aReg ?_
              refine sp pM ?_
              refine sp pNv ?_
              refine sp (pFb fd_164_3) ?_
              refine sr (rB1 ty_159) ?_
              refine sa ?_
              first | refine ca rfl rfl rfl (heap_Take hb g' c' h' hk' (by omega)) ?_ | refine ca rfl rfl rfl (heap_Take hb g c h hk (by omega)) ?_
              rintro _ _ ⟨x2, q2, h3, g3, c3, rfl, rfl, hk3, hq0', hq1'⟩
              have hlt := take_len hq0' hq1'
              refine sp pM ?_
              refine sp pX ?_
              refine sp pX ?_
              refine sa ?_
              refine oStW rfl rfl rfl rfl (by repeat constructor) ty_162 ?_
              refine sp pMa ?_
              refine oNil ?_
              have hbq : bI q = 1 := by rw [show q = true by assumption]; rfl
              first
                | (refine ⟨(km', mPut dm x.2 true, x2, q2, g3, c3, h3, _), ?_, by (try dsimp only); omega, ⟨rfl, rfl, rfl, rfl, trivial⟩, _, (by repeat constructor)⟩
                   have hnx := loop_next I' hq0' hq1'
                   exact ⟨hk3, K', hnx.1, hnx.2, by omega⟩)
                | (refine ⟨(km, dm, x2, q2, g3, c3, h3, _), ?_, by (try dsimp only); omega, ⟨rfl, rfl, rfl, rfl, trivial⟩, _, (by repeat constructor)⟩
                   have hdn : DF dm x.2 = true := by assumption
                   have hnx := loop_next (I.old (.refl _) hdn) hq0' hq1'
                   exact ⟨hk3, K, hnx.1, hnx.2, by omega⟩)
            · skip
              refine aSkip ?_
              refine aSeq ?_
              refine aSeq ?_
              refine aReg ?_
              refine sr (by first | exact rSW ty_162 rfl | exact rSA ty_162 | exact rBWa ty_162 | exact rBW ty_162 | exact rBA ty_162 | exact rArA ty_162 (fun _ => rfl)) ?_
              refine oNil ?_
              refine aReg ?_
              refine sq ?_
              refine qAlloc rfl rfl (by decide) ze_162 rfl (fun b9 => ?_)
              refine sa ?_
              refine oStW rfl rfl rfl rfl (by repeat constructor) ty_162 ?_
              refine oNil ?_
              refine aReg ?_
              refine sp pM ?_
              refine sp pNv ?_
              refine sp (pFb fd_164_3) ?_
              refine sr (rB1 ty_159) ?_
              refine sa ?_
              first | refine ca rfl rfl rfl (heap_Take hb g' c' h' hk' (by omega)) ?_ | refine ca rfl rfl rfl (heap_Take hb g c h hk (by omega)) ?_
              rintro _ _ ⟨x2, q2, h3, g3, c3, rfl, rfl, hk3, hq0', hq1'⟩
              have hlt := take_len hq0' hq1'
              refine sp pM ?_
              refine sp pX ?_
              refine sp pX ?_
              refine sa ?_
              refine oStW rfl rfl rfl rfl (by repeat constructor) ty_162 ?_
              refine sp pMa ?_
              refine oNil ?_
              have hbq : bI q = 1 := by rw [show q = true by assumption]; rfl
              first
                | (refine ⟨(km', mPut dm x.2 true, x2, q2, g3, c3, h3, _), ?_, by (try dsimp only); omega, ⟨rfl, rfl, rfl, rfl, trivial⟩, _, (by repeat constructor)⟩
                   have hnx := loop_next I' hq0' hq1'
                   exact ⟨hk3, K', hnx.1, hnx.2, by omega⟩)
                | (refine ⟨(km, dm, x2, q2, g3, c3, h3, _), ?_, by (try dsimp only); omega, ⟨rfl, rfl, rfl, rfl, trivial⟩, _, (by repeat constructor)⟩
                   have hdn : DF dm x.2 = true := by assumption
                   have hnx := loop_next (I.old (.refl _) hdn) hq0' hq1'
                   exact ⟨hk3, K, hnx.1, hnx.2, by omega⟩)
          · skip
            refine aExit rfl ?_
            refine aSeq ?_
            refine aReg ?_
            refine sp pMa ?_
            refine oNil ?_
            refine aSeq ?_
            refine aSeq ?_
            refine aWeak (weak_nil 49 3) ?_
            have hE := kend_of hlA K (hQ0 (by assumption))
            refine aReg ?_
            refine sp pM ?_
            refine sp pNv ?_
            refine sp (pFb fd_164_1) ?_
            refine sr (rB1 ty_158) ?_
            refine sa ?_
            refine ca rfl rfl rfl (keys_mir b36) ?_
            rintro _ _ ⟨pb, rfl, rfl⟩
            refine sa ?_
            refine cai rfl rfl rfl (sorted_int_s _ _ (kvM rtA km) _ (keys1_mir_iter b36 pb (kvM rtA km)) (by rw [kvM_len]; have := hE.n; omega)) ?_
            rw [kvM_keys, hE.s]
            have hkl := rKeys_len l r
            refine sp (by first | exact pLm sl_25 | exact pLs sl_25 | exact pLv sl_25) ?_
            refine sp pM ?_
            refine oNil ?_
            refine aBlock ?_
            refine loopF (α := Nat × List Rt × Option Nat × Nat) (kept := [(8, _), (89, _), (90, _)]) (fun (i, out, g, c) => i ≤ (rKeys l r).length ∧ out = ((rKeys l r).take i).map fun v => ⟨v, viaM l r v, dF l r v⟩) (fun (i, out, g, c) => [(91, .int i), (11, .v (slV g out.length c))]) (fun (i, out, g, c) => [.sl g c 49 3 (out.map rtC)]) (fun (i, out, g, c) => (rKeys l r).length - i) (0, [], _, _) ?_ ⟨gInt rfl (by first | rfl | omega | simp), gLen rfl (by first | rfl | simp | (simp; omega)), rfl, rfl, rfl, trivial⟩ (by repeat constructor) ?_
            · skip
              exact ⟨by omega, rfl⟩
            · rintro ⟨i, out, g, c⟩ ⟨hi, ho⟩
              refine aSeq ?_
              refine aReg ?_
              refine sp pB ?_
              refine oNil ?_
              refine aSeq ?_
              refine aCondDec rfl (fun c92 => ?_) (fun c92 => ?_)
              · skip
                refine aSkip ?_
                refine aSeq ?_
                refine aBlock ?_
                refine aSeq ?_
                obtain ⟨nn, hnn⟩ : ∃ n, (rKeys l r)[i]? = some n := ⟨_, List.getElem?_eq_getElem (by omega)⟩
                have hget := hE.g nn (List.mem_of_getElem? hnn)
                refine aReg ?_
                first | refine sp (pIx es_25) ?_ | (refine obtSN 89 91 rfl rfl (by omega) (fun x93 hx93 => ?_); refine sp (pIs es_25 hx93) ?_) | (refine obtS 89 91 rfl rfl (by omega) (by omega) (fun x93 hx93 => ?_); refine sp (pIs es_25 hx93) ?_) | refine sp (pIo es_25) ?_
                refine sr (by first | exact rS1 ty_3 | exact rB1 ty_3 | exact rAr ty_3 | exact rArL ty_3 | exact rArR2 ty_3) ?_
                refine sp pMa ?_
                refine oNil ?_
                have hol : out.length ≤ 65 := by rw [ho, List.length_map, List.length_take]; omega
                refine aReg ?_
                refine sp pM ?_
                refine sp pM ?_
                refine sp pNv ?_
                refine sp (pFb fd_164_1) ?_
                refine sr (rB1 ty_158) ?_
                refine sp pM ?_
                refine sr (rMG mo_158 ze_49 (⟨0, 0, 0⟩ : Rt) cast_rt) ?_
                rw [hget]
                refine sq ?_
                refine qLit (l := [_]) rfl rfl (by decide) us_41 ty_49 ze_49 rfl (by decide) (by decide) rfl rfl rfl (fun b102 => ?_)
                refine sa ?_
                refine oAppT ([⟨nn, viaM l r nn, dF l r nn⟩] : List Rt) rfl rfl (by repeat constructor) (srcOwn rfl (by repeat constructor) rfl) el_41 sl_41 (fun g103 k103 => ?_)
                refine sp pMa ?_
                refine oNil ?_
                refine aReg ?_
                refine sp pAd ?_
                refine sp pM ?_
                refine oNil ?_
                refine ⟨(i + 1, _, _, _), ?_, by (try dsimp only); omega, ⟨gInt rfl (by first | rfl | omega | simp), gLen rfl (by first | rfl | simp | (simp; omega)), rfl, rfl, rfl, trivial⟩, _, (by repeat constructor)⟩
                refine ⟨by omega, ?_⟩
                rw [take_step hnn, List.map_append, ← ho]
                rfl
              · skip
                refine aExit rfl ?_
                refine aSeq ?_
                refine aReg ?_
                refine sp pM ?_
                refine sp pMa ?_
                refine oNil ?_
                refine aRet ?_
                refine finOwn rfl ?_
                rw [hyes, ho, take_all (by omega)]
                rfl
end A
end Go.Proofs.Ytmcannmjielalaa
set_option linter.unusedVariables false
set_option linter.unusedSimpArgs false
namespace Go.Proofs.Ytmcannmjielalaa
namespace A
theorem es_41 : elemSize Try.prog 41 = some 3 := by kernel_rfl
def dstB (l : List Arc) (a b : Int) : Bool := arcsB none l && isF l a b
def dstM (l : List Arc) (a b : Int) : Int := if dstB l a b then dF l a b else 0
def rtsM (l : List Arc) (r : Int) : List Rt := if arcsB none l then routesM l r else []
theorem spf_Routes_s {l : List Arc} {r : Int} (hll : l.length ≤ 400000 := by omega) : Triple Try.prog 43 [.sl 3 (l.map arcC), .int r] [] (Is (.sl 3 ((rtsM l r).map rtC)) []) := (spf_Routes (l := l) (r := r) hll).settle
theorem routesM_eq (l : List Arc) (r : Int) : routesM l r = (rKeys l r).map fun v => ⟨v, viaM l r v, dF l r v⟩ := rfl
theorem rtsM_len (l : List Arc) (r : Int) : (rtsM l r).length ≤ 65 := by
  unfold rtsM
  split
  · rw [routesM_eq, List.length_map]; exact rKeys_len l r
  · simp
theorem rtsM_mem {l : List Arc} {r : Int} {x : Rt} (h : x ∈ rtsM l r) : arcsB none l = true ∧ x.nd ≠ r ∧ isF l r x.nd = true ∧ x = ⟨x.nd, viaM l r x.nd, dF l r x.nd⟩ := by
  unfold rtsM at h
  split at h
  · rename_i hok
    rw [routesM_eq, List.mem_map] at h
    obtain ⟨v, hv, rfl⟩ := h
    have := (rKeys_mem (arcs_ok hok)).1 hv
    exact ⟨hok, this.1, this.2, rfl⟩
  · simp at h
end A
end Go.Proofs.Ytmcannmjielalaa
set_option linter.unusedVariables false
set_option linter.unusedSimpArgs false
namespace Go.Proofs.Ytmcannmjielalaa
namespace A
/-- A step of the way: an arc, and the distance falls by its cost. -/
theorem hop_step {l : List Arc} (hl : ∀ a ∈ l, AOk a) (hs : l.Pairwise ltA) {v td : Int} (h : isF l v td = true) (hne : td ≠ v) : ∃ a ∈ l, a.f = v ∧ a.t = viaM l v td ∧ isF l (viaM l v td) td = true ∧ a.c + dF l (viaM l v td) td = dF l v td := by
  obtain ⟨w, hw⟩ := fh_ex hl h hne
  have hv := viaM_is hl hs hw
  obtain ⟨a, ha, hf, ht, c, k, hc⟩ := hv.1
  have hok := hl a ha
  unfold AOk at hok
  have h1 := wk_isF hl (r := viaM l v td) (.inl (by omega)) k
  have h2 := wk_isF hl (r := v) (.inl (by omega)) (Wk.pre ha hf (by rw [ht]; exact isF_wk hl h1.1))
  exact ⟨a, ha, hf, ht, h1.1, by omega⟩
end A
end Go.Proofs.Ytmcannmjielalaa
set_option linter.unusedVariables false
set_option linter.unusedSimpArgs false
namespace Go.Proofs.Ytmcannmjielalaa
namespace A
/-- A route's via: an arc goes to it, and the distance from it is less by what that costs. -/
theorem rts_via {l : List Arc} {r : Int} {x : Rt} (h : x ∈ rtsM l r) : ∃ a ∈ l, a.f = r ∧ a.t = x.via ∧ 1 ≤ a.c ∧ a.c ≤ 1073741824 ∧ dstB l x.via x.nd = true ∧ a.c + dstM l x.via x.nd = x.c := by
  obtain ⟨hok, h1, h2, h3⟩ := rtsM_mem h
  obtain ⟨a, ha, hf, ht, hi, hd⟩ := hop_step (arcs_ok hok) (arcsB_sorted hok) h2 h1
  have hak := arcs_ok hok a ha
  unfold AOk at hak
  have hv : x.via = viaM l r x.nd := congrArg Rt.via h3
  have hc : x.c = dF l r x.nd := congrArg Rt.c h3
  have hb : dstB l x.via x.nd = true := by unfold dstB; rw [hok, hv, hi]; rfl
  refine ⟨a, ha, hf, by rw [hv]; exact ht, hak.2.2.2.2.2.1, hak.2.2.2.2.2.2, hb, ?_⟩
  unfold dstM
  rw [hb, if_pos rfl, hc, hv]
  exact hd
end A
end Go.Proofs.Ytmcannmjielalaa
set_option linter.unusedVariables false
set_option linter.unusedSimpArgs false
namespace Go.Proofs.Ytmcannmjielalaa
namespace A
theorem lsdb_Check_v {db : List Lsa} (hl : db.length < 9223372036854775807 := by omega) : Triple Try.prog 137 [.sl 3 (db.map lsaC)] [] (Is (.v (.int .i64 (if lsdbB 0 db then 0 else 1))) []) := lsdb_Check db hl
theorem graph_Arcs_s {db : List Lsa} (hl : db.length < 9223372036854775807 := by omega) : Triple Try.prog 114 [.sl 3 (db.map lsaC)] [] (Is (.sl 3 ((arcsDb db).map arcC)) []) :=
  ((graph_Arcs db hl).mono (Q' := Own 36 3 ((arcsDb db).map arcC) []) fun q h' ⟨g, c, hq, hh⟩ => ⟨g, c, by rw [List.length_map]; exact hq, hh⟩).settle
theorem law19_Light_v {db : List Lsa} : Triple Try.prog 136 [.sl 3 (db.map lsaC)] [] (Is (.v (.bool (lightB db))) []) := law19_Light db
theorem ref19_May_v {db : List Lsa} (hl : db.length ≤ 4000) (hm : ∀ x ∈ db, x.ls.length ≤ 4000) : Triple Try.prog 55 [.sl 3 (db.map lsaC)] [] (Is (.v (.bool (lsdbB 0 db))) []) := ref19_May db hl hm
theorem dbArcs_len {db : List Lsa} (h : lsdbB 0 db = true) : (arcsDb db).length ≤ 4000 := arcs_len (by have := lsdb_len64 h; omega) (fun x hx => by have := lsa_links (lsdb_mem h x hx); omega)
theorem dbArcs_ok {db : List Lsa} (h : lsdbB 0 db = true) : arcsB none (arcsDb db) = true := by rw [arcsDb, if_pos h]; exact arcsAll_ok h
def rtsDb (db : List Lsa) (me : Int) : List Rt := if lsdbB 0 db then rtsM (arcsDb db) me else []
theorem rtsDb_len (db : List Lsa) (me : Int) : (rtsDb db me).length ≤ 65 := by
  unfold rtsDb
  split
  · exact rtsM_len _ _
  · simp
/- route.Of -/
set_option maxRecDepth 100000 in
set_option maxHeartbeats 400000 in
theorem route_Of {db : List Lsa} {me : Int} (hdl : db.length < 9223372036854775807 := by omega) : Triple Try.prog 53 [.sl 3 (db.map lsaC), .int me] [] (Is (.sl 3 ((rtsDb db me).map rtC)) []) := by
  refine triple_of Try.func53 rfl (by kernel_rfl) rfl (by simp) ?_
  refine aSeq ?_
  refine aReg ?_
  refine sp pMa ?_
  refine oNil ?_
  refine aSeq ?_
  refine aSeq ?_
  refine aReg ?_
  refine sp pM ?_
  refine sq ?_
  refine cv rfl rfl rfl (lents_refl _) (lsdb_Check_v (db := db) hdl) ?_
  refine sp pB ?_
  refine oNil ?_
  refine aCondNe rfl (fun c7 => ?_) (fun c7 => ?_)
  · skip
    refine aSeq ?_
    have hno : lsdbB 0 db = false := by cases h : lsdbB 0 db <;> simp_all
    have hr : rtsDb db me = [] := by unfold rtsDb; rw [hno]; rfl
    refine aWeak (weak_nil 49 3) ?_
    refine aReg ?_
    refine sp pMa ?_
    refine oNil ?_
    refine aWeak (weak_settle (k := 4) rfl .hd rfl) ?_
    refine aRet ?_
    refine finIs rfl ?_
    rw [hr]
    rfl
  · skip
    refine aSkip ?_
    refine aSeq ?_
    have hyes : lsdbB 0 db = true := by cases h : lsdbB 0 db <;> simp_all
    have hal := dbArcs_len hyes
    refine aReg ?_
    refine sp pM ?_
    refine sq ?_
    refine ci rfl rfl rfl (graph_Arcs_s (db := db) hdl) ?_
    refine sp pM ?_
    refine sq ?_
    refine ci rfl rfl rfl (spf_Routes_s (l := arcsDb db) (r := me) (by omega)) ?_
    refine sp pMa ?_
    refine oNil ?_
    refine aRet ?_
    refine finIs rfl ?_
    unfold rtsDb
    rw [hyes]
    rfl
/- api.Route] -/
set_option maxRecDepth 100000 in
set_option maxHeartbeats 400000 in
theorem index_Route {f : FuncId} {caps : List AV} {p : Rt → Bool} (hf : ∀ x : Rt, Triple Try.prog f ([AV.agg (rtC x)] ++ caps) [] (Is (.v (.bool (p x))) [])) (l : List Rt) (hl : l.length ≤ 1000000) : Triple Try.prog 138 [.sl 3 (l.map rtC), .fn (.func f) caps] [] (Is (.v (.int .i64 (idxF p l))) []) := by
  refine triple_of Try.func138 rfl (by kernel_rfl) rfl (by simp) ?_
  refine aSeq ?_
  refine aReg ?_
  refine sp pMa ?_
  refine oNil ?_
  refine aSeq ?_
  refine aSeq ?_
  refine aReg ?_
  refine sp pM ?_
  refine sp (by first | exact pLm sl_41 | exact pLs sl_41) ?_
  refine sp pM ?_
  refine oNil ?_
  refine aBlock ?_
  refine loopF (α := Nat) (kept := [(0, _), (1, _), (7, _)]) (fun i => i ≤ l.length ∧ ∀ y ∈ l.take i, p y = false) (fun i => [(8, .int i)]) (fun i => []) (fun i => l.length - i) 0 ?_ ⟨gInt rfl (by first | rfl | omega | simp), rfl, rfl, rfl, trivial⟩ (by repeat constructor) ?_
  · skip
    exact ⟨by omega, fun y hy => by simp at hy⟩
  · rintro i ⟨hi, hv⟩
    refine aSeq ?_
    refine aReg ?_
    refine sp pB ?_
    refine oNil ?_
    refine aSeq ?_
    refine aCondDec rfl (fun c9 => ?_) (fun c9 => ?_)
    · skip
      refine aSkip ?_
      refine aSeq ?_
      refine aBlock ?_
      refine aSeq ?_
      refine aReg ?_
      refine sp pM ?_
      refine sp pMa ?_
      refine oNil ?_
      refine aSeq ?_
      obtain ⟨x, hx⟩ : ∃ x, l[i]? = some x := ⟨_, List.getElem?_eq_getElem (by omega)⟩
      refine aReg ?_
      refine sp pM ?_
      refine sp pM ?_
      refine sp pM ?_
      first | refine sp (pIx es_41) ?_ | (refine obtSN 12 13 rfl rfl (by omega) (fun x14 hx14 => ?_); refine sp (pIs es_41 hx14) ?_) | (refine obtS 12 13 rfl rfl (by omega) (by omega) (fun x14 hx14 => ?_); refine sp (pIs es_41 hx14) ?_) | refine sp (pIo es_41) ?_
      refine sr (by first | exact rSW ty_49 rfl | exact rSA ty_49) ?_
      refine sq ?_
      refine cv rfl rfl rfl (lents_refl _) (hf x) ?_
      refine oNil ?_
      refine aCond rfl (fun c16 => ?_) (fun c16 => ?_)
      · skip
        refine aSeq ?_
        refine aReg ?_
        refine sp pM ?_
        refine sp pMa ?_
        refine oNil ?_
        refine aRet ?_
        refine finIs rfl ?_
        show AV.int _ = AV.int _
        rw [(idxF_at hv hx (by simp_all)).1]
      · skip
        refine aSkip ?_
        refine aReg ?_
        refine sp pAd ?_
        refine sp pM ?_
        refine oNil ?_
        refine ⟨i + 1, ?_, by (try dsimp only); omega, ⟨gInt rfl (by first | rfl | omega | simp), rfl, rfl, rfl, trivial⟩, _, (by repeat constructor)⟩
        refine ⟨by omega, fun y hy => ?_⟩
        rw [take_step hx] at hy
        rcases List.mem_append.1 hy with hy | hy
        · exact hv y hy
        · rw [List.mem_singleton.1 hy]; simp_all
    · skip
      refine aExit rfl ?_
      refine aSeq ?_
      refine aReg ?_
      refine sp pMa ?_
      refine oNil ?_
      refine aRet ?_
      refine finIs rfl ?_
      show AV.int _ = AV.int _
      rw [take_all (by omega)] at hv
      rw [(idxF_no hv).1]
/- route.Find$1 -/
set_option maxRecDepth 100000 in
set_option maxHeartbeats 400000 in
theorem route_Find1 {x : Rt} {n : Int} : Triple Try.prog 139 [.agg (rtC x), .sp [.int n]] [] (Is (.v (.bool (x.nd == n))) []) := by
  refine triple_of Try.func139 rfl (by kernel_rfl) rfl (by simp) ?_
  refine aSeq ?_
  refine aReg ?_
  refine sq ?_
  refine qBox rfl rfl (by decide) rfl rfl (fun b2 => ?_)
  refine sp pMa ?_
  refine oNil ?_
  refine aSeq ?_
  refine aReg ?_
  refine sp (pFb fd_49_0) ?_
  refine sr (rB1 ty_3) ?_
  refine sr (rS1 ty_3) ?_
  refine sp pB ?_
  refine sp pMa ?_
  refine oNil ?_
  refine aRet ?_
  refine finIs rfl ?_
  rfl
def findR (rs : List Rt) (n : Int) : Option Rt := rs.find? fun x => x.nd == n
def findG (rs : List Rt) (n : Int) : Rt := (findR rs n).getD ⟨0, 0, 0⟩
def findT2 (rs : List Rt) (n : Int) : AV := .tup [.agg (rtC (findG rs n)), .v (.bool (findR rs n).isSome)]
theorem findR_some {rs : List Rt} {n : Int} {x : Rt} (h : findR rs n = some x) : x ∈ rs ∧ x.nd = n := ⟨List.mem_of_find?_eq_some h, by simpa using List.find?_some h⟩
/- route.Find -/
set_option maxRecDepth 100000 in
set_option maxHeartbeats 400000 in
theorem route_Find {rs : List Rt} {n : Int} (hl : rs.length ≤ 1000000) : Triple Try.prog 54 [.sl 3 (rs.map rtC), .int n] [] (Is (findT2 rs n) []) := by
  refine triple_ofR Try.func54 rfl (by kernel_rfl) rfl (by simp) ?_
  refine aSeq ?_
  refine aReg ?_
  refine sq ?_
  refine qBox rfl rfl (by decide) rfl rfl (fun b3 => ?_)
  refine sq ?_
  refine qAlloc rfl rfl (by decide) ze_49 rfl (fun b4 => ?_)
  refine sp pMa ?_
  refine oNil ?_
  refine aSeq ?_
  refine aReg ?_
  refine sp pM ?_
  refine sp (pFn rfl rfl) ?_
  refine sq ?_
  refine cv rfl rfl rfl (.cons (.same _) (.cons (lent_fn1 (.sp (by repeat (first | exact List.mem_cons_self | apply List.mem_cons_of_mem)))) .nil)) (index_Route (p := fun x => x.nd == n) (fun x => route_Find1) rs hl) ?_
  refine sp pMa ?_
  refine oNil ?_
  refine aSeq ?_
  refine aSeq ?_
  refine aReg ?_
  refine sp pM ?_
  refine sp pB ?_
  refine oNil ?_
  refine aCondDec rfl (fun c11 => ?_) (fun c11 => ?_)
  · skip
    refine aSeq ?_
    refine aReg ?_
    refine sp (pBuild rfl st_49 ze_49 rfl rfl rfl rfl) ?_
    refine sa ?_
    refine oStW rfl rfl rfl rfl (by repeat constructor) ty_49 ?_
    refine sp pMa ?_
    refine oNil ?_
    refine aRet ?_
    refine finRIs (l := [.agg (rtC ⟨0, 0, 0⟩), .v (.bool false)]) (.cons (.cellA rfl (by repeat (first | exact List.mem_cons_self | apply List.mem_cons_of_mem)) ty_49) (.cons (.tmp rfl) .nil)) ?_
    have h2 : rs.find? (fun x : Rt => x.nd == n) = none := by
      rcases idxF_cases (fun x : Rt => x.nd == n) rs with ⟨h1, h2⟩ | ⟨i, x, h1, h2, h3⟩
      · exact h2
      · omega
    simp [findT2, findG, findR, h2, retOf]
  · skip
    refine aSkip ?_
    refine aSeq ?_
    obtain ⟨i, x, h1, h2, h3⟩ : ∃ i x, idxF (fun x : Rt => x.nd == n) rs = (i : Nat) ∧ rs[i]? = some x ∧ rs.find? (fun x : Rt => x.nd == n) = some x := by
      rcases idxF_cases (fun x : Rt => x.nd == n) rs with ⟨h1, h2⟩ | h
      · omega
      · exact h
    rw [h1] at *
    refine aReg ?_
    refine sp pM ?_
    refine sp pM ?_
    first | refine sp (pIx es_41) ?_ | (refine obtSN 13 14 rfl rfl (by omega) (fun x15 hx15 => ?_); refine sp (pIs es_41 hx15) ?_) | (refine obtS 13 14 rfl rfl (by omega) (by omega) (fun x15 hx15 => ?_); refine sp (pIs es_41 hx15) ?_) | refine sp (pIo es_41) ?_
    refine sr (by first | exact rSW ty_49 rfl | exact rSA ty_49) ?_
    refine sa ?_
    refine oStW rfl rfl rfl rfl (by repeat constructor) ty_49 ?_
    refine sp pMa ?_
    refine oNil ?_
    refine aRet ?_
    refine finRIs (l := [.agg (rtC x), .v (.bool true)]) (.cons (.cellA rfl (by repeat (first | exact List.mem_cons_self | apply List.mem_cons_of_mem)) ty_49) (.cons (.tmp rfl) .nil)) ?_
    simp [findT2, findG, findR, h3, retOf]
def fewB (db : List Lsa) : Bool := decide (db.length ≤ 8) && lightB db
theorem few_len {db : List Lsa} (h : fewB db = true) : db.length ≤ 8 ∧ ∀ x ∈ db, x.ls.length ≤ 40 := by
  unfold fewB at h
  rw [Bool.and_eq_true, decide_eq_true_eq] at h
  exact ⟨h.1, fun x hx => light_mem h.2 hx⟩
end A
end Go.Proofs.Ytmcannmjielalaa
set_option linter.unusedVariables false
set_option linter.unusedSimpArgs false
namespace Go.Proofs.Ytmcannmjielalaa
namespace A
theorem el_139 : elemOf Try.prog 139 = some (138, 2, 16) := by kernel_rfl
theorem eq_138 : eqType Try.prog 138 = some [(0, .i), (1, .i)] := by kernel_rfl
theorem ik_270 : intKindOf Try.prog 270 = some .u64 := by kernel_rfl
theorem us_139 : Try.prog.underlying 139 = some (.slice 138) := by kernel_rfl
def posL (l : List Lsa) (n : Int) : Nat := (l.filter fun x => decide (x.o < n)).length
def hasL (l : List Lsa) (n : Int) : Bool := l.any fun x => x.o == n
theorem sortL_at {l : List Lsa} (hs : l.Pairwise (fun x y => x.o < y.o)) {i j : Nat} {x y : Lsa} (hx : l[i]? = some x) (hy : l[j]? = some y) (h : i < j) : x.o < y.o := by
  obtain ⟨hi, rfl⟩ := List.getElem?_eq_some_iff.1 hx
  obtain ⟨hj, rfl⟩ := List.getElem?_eq_some_iff.1 hy
  exact List.pairwise_iff_getElem.1 hs i j hi hj h
theorem posL_is {l : List Lsa} {n : Int} {i : Nat} (hi : i ≤ l.length) (h1 : ∀ k x, k < i → l[k]? = some x → x.o < n) (h2 : ∀ k x, i ≤ k → l[k]? = some x → n ≤ x.o) : posL l n = i := by
  unfold posL
  rw [← List.take_append_drop i l, List.filter_append, List.length_append, List.filter_eq_self.2 (fun x hx => ?_), List.filter_eq_nil_iff.2 (fun x hx => ?_)]
  · rw [List.length_take, List.length_nil]; omega
  · obtain ⟨k, hk⟩ := List.mem_iff_getElem?.1 hx
    rw [List.getElem?_drop] at hk
    have := h2 (i + k) x (by omega) hk
    simp
    omega
  · obtain ⟨k, hk⟩ := List.mem_iff_getElem?.1 hx
    rw [List.getElem?_take] at hk
    split at hk
    · exact decide_eq_true (h1 k x (by assumption) hk)
    · cases hk
theorem hasL_pos {l : List Lsa} (hs : l.Pairwise (fun x y => x.o < y.o)) {n : Int} {i : Nat} (h1 : ∀ k x, k < i → l[k]? = some x → x.o < n) (h2 : ∀ k x, i ≤ k → l[k]? = some x → n ≤ x.o) : hasL l n = match l[i]? with | some x => x.o == n | none => false := by
  unfold hasL
  rw [Bool.eq_iff_iff, List.any_eq_true]
  constructor
  · rintro ⟨x, hx, hn⟩
    obtain ⟨k, hk⟩ := List.mem_iff_getElem?.1 hx
    have hn : x.o = n := by simpa using hn
    by_cases hlt : k < i
    · have := h1 k x hlt hk; omega
    · by_cases e : k = i
      · subst e; rw [hk]; simpa using hn
      · obtain ⟨hkl, _⟩ := List.getElem?_eq_some_iff.1 hk
        have hil : l[i]? = some l[i] := List.getElem?_eq_getElem (by omega)
        have := sortL_at hs hil hk (by omega)
        have := h2 i _ (Nat.le_refl _) hil
        omega
  · intro h
    split at h
    · rename_i x hx; exact ⟨x, List.mem_of_getElem? hx, h⟩
    · cases h
theorem hasL_get {l : List Lsa} (h : lsdbB 0 l = true) {n : Int} : (hasL l n = true → ∃ x, l[posL l n]? = some x ∧ getL l n = x) ∧ (hasL l n = false → getL l n = ⟨0, 0, []⟩) := by
  have hs := (lsdbB_spec h).2
  constructor
  · intro hh
    unfold hasL at hh
    obtain ⟨x, hx, hn⟩ := List.any_eq_true.1 hh
    have hn : x.o = n := by simpa using hn
    obtain ⟨k, hk⟩ := List.mem_iff_getElem?.1 hx
    have hp : posL l n = k := posL_is (by have := (List.getElem?_eq_some_iff.1 hk).1; omega) (fun j y hj hy => by have := sortL_at hs hy hk hj; omega) (fun j y hj hy => by
      by_cases e : k = j
      · subst e; rw [hk] at hy; cases hy; omega
      · have := sortL_at hs hk hy (by omega); omega)
    exact ⟨x, by rw [hp, hk], by rw [← hn]; exact getL_mem h hx⟩
  · intro hh
    unfold getL
    cases hf : l.reverse.find? (fun x => x.o == n) with
    | none => rfl
    | some x =>
      have h1 := List.find?_some hf
      have h2 := List.mem_of_find?_eq_some hf
      unfold hasL at hh
      rw [List.any_eq_false] at hh
      exact absurd h1 (hh x (by simpa using h2))
/- api.Link] -/
set_option maxRecDepth 100000 in
set_option maxHeartbeats 400000 in
theorem clone_Link {l : List Link} (hl : l.length ≤ 1000000 := by omega) : Triple Try.prog 235 [.sl 2 (l.map linkC)] [] (Own 138 2 (l.map linkC) []) := by
  refine triple_of Try.func235 rfl (by kernel_rfl) rfl (by simp) ?_
  refine aSeq ?_
  refine aReg ?_
  refine sp pMa ?_
  refine oNil ?_
  refine aSeq ?_
  refine aSeq ?_
  refine aReg ?_
  refine sp pM ?_
  refine sa ?_
  refine oSlNil rfl (.inl rfl) rfl sl_139 rfl (by decide) (fun q4 hq4 => ?_)
  refine oNil ?_
  refine aCond rfl (fun c4 => ?_) (fun c4 => ?_)
  · skip
    refine aSeq ?_
    refine aWeak (weak_nil 138 2) ?_
    refine aReg ?_
    refine sp pMa ?_
    refine oNil ?_
    refine aRet ?_
    have he : l = [] := by
      cases l with
      | nil => rfl
      | cons x l => have := hq4 (by simp); simp_all
    subst he
    exact ⟨_, _, _, rfl, .cons .hd .nil, none, 0, rfl, rfl⟩
  · skip
    refine aSkip ?_
    refine aSeq ?_
    refine aReg ?_
    refine sq ?_
    refine qLit (l := []) rfl rfl (by decide) us_139 ty_138 ze_138 rfl (by decide) (by decide) rfl rfl rfl (fun b5 => ?_)
    refine sp pM ?_
    refine sa ?_
    first | refine oAppT (out := []) _ rfl rfl (by repeat constructor) (.inl rfl) el_139 sl_139 (fun g7 k7 => ?_) | refine oAppT (out := []) _ rfl rfl (by repeat constructor) (srcOwn rfl (by repeat constructor) (by first | rfl | simp)) el_139 sl_139 (fun g7 k7 => ?_)
    refine sp pMa ?_
    refine oNil ?_
    refine aRet ?_
    refine finOwn rfl ?_
    rfl
/- lsa.Copy -/
set_option maxRecDepth 100000 in
set_option maxHeartbeats 400000 in
theorem lsa_CopyO {l : Lsa} (hl : l.ls.length ≤ 1000000 := by omega) : Triple Try.prog 149 [.agg (lsaC l)] [] (fun q h' => ∃ g c, q = .agg [.int l.o, .int l.s, .v (slV g l.ls.length c)] ∧ h' = [.sl g c 138 2 (l.ls.map linkC)]) := by
  refine triple_ofR Try.func149 rfl (by kernel_rfl) rfl (by simp) ?_
  refine aSeq ?_
  refine aReg ?_
  refine sq ?_
  refine qBox rfl rfl (by decide) rfl rfl (fun b1 => ?_)
  refine sq ?_
  refine qAlloc rfl rfl (by decide) ze_141 rfl (fun b2 => ?_)
  refine oNil ?_
  refine aSeq ?_
  refine aReg ?_
  refine sp (pFb fd_141_2) ?_
  refine sr (rB1 ty_139) ?_
  refine sa ?_
  first | refine coM rfl rfl rfl (clone_Link (l := l.ls) hl) (fun g5 k5 => ?_) | refine co rfl rfl rfl (clone_Link (l := l.ls) hl) (fun g5 k5 => ?_)
  refine sp (pFb fd_141_2) ?_
  refine sa ?_
  refine oStB rfl rfl rfl rfl (by repeat constructor) ty_139 rfl (Nat.le_of_ble_eq_true rfl) rfl ?_
  refine oNil ?_
  refine aSeq ?_
  refine aReg ?_
  refine sr (by first | exact rBWa ty_141 | exact rBW ty_141 | exact rBA ty_141) ?_
  refine sa ?_
  refine oStW rfl rfl rfl rfl (by repeat constructor) ty_141 ?_
  refine oNil ?_
  refine aRet ?_
  exact ⟨[.agg [.int l.o, .int l.s, .v (slV g5 l.ls.length k5)]], [.sl g5 k5 138 2 (l.ls.map linkC)], _, .cons (.cellA rfl (by repeat (first | exact List.mem_cons_self | apply List.mem_cons_of_mem)) ty_141) .nil, (by repeat constructor), g5, k5, rfl, rfl⟩
theorem lsa_Copy_s {l : Lsa} (hl : l.ls.length ≤ 1000000 := by omega) : Triple Try.prog 149 [.agg (lsaC l)] [] (Is (.agg (lsaC l)) []) :=
  (lsa_CopyO (l := l) hl).deep fun q h' ⟨g, c, hq, hh⟩ => ⟨_, [.sl g c 138 2 (l.ls.map linkC)], [], by subst hh; exact .cons .hd .nil, by subst hq; exact .agg (.same (.same (.sl List.mem_cons_self (by rw [List.length_map]) Deep.refl (.row .nil)))) (.row .nil), rfl, rfl⟩
/- lsdb.find$1 -/
set_option maxRecDepth 100000 in
set_option maxHeartbeats 400000 in
theorem lsdb_find1 {x : Lsa} {n : Int} : Triple Try.prog 273 [.agg (lsaC x), .int n] [] (Is (.v (.int .i64 (cmpI x.o n))) []) := by
  refine triple_of Try.func273 rfl (by kernel_rfl) rfl (by simp) ?_
  refine aSeq ?_
  refine aReg ?_
  refine sq ?_
  refine qBox rfl rfl (by decide) rfl rfl (fun b2 => ?_)
  refine sp pMa ?_
  refine oNil ?_
  refine aSeq ?_
  refine aReg ?_
  refine sp (pFb fd_141_0) ?_
  refine sr (rB1 ty_3) ?_
  refine sp pM ?_
  refine sq ?_
  refine cv rfl rfl rfl (lents_refl _) cmp_Compare ?_
  refine sp pMa ?_
  refine oNil ?_
  refine aRet ?_
  refine finIs rfl ?_
  rfl
/- api.Lsa,int] -/
set_option maxRecDepth 100000 in
set_option maxHeartbeats 2000000 in
theorem bs_Lsa {l : List Lsa} {n : Int} (hs : l.Pairwise (fun x y => x.o < y.o)) (hl : l.length ≤ 1000000) : Triple Try.prog 272 [.sl 3 (l.map lsaC), .int n, .fn (.func 273) []] [] (Is (.tup [.int (posL l n), .v (.bool (hasL l n))]) []) := by
  refine triple_of Try.func272 rfl (by kernel_rfl) rfl (by simp) ?_
  refine aSeq ?_
  refine aReg ?_
  refine sp pMa ?_
  refine sp pMa ?_
  refine oNil ?_
  refine aSeq ?_
  refine aReg ?_
  refine sp pM ?_
  refine sp (by first | exact pLm sl_55 | exact pLs sl_55) ?_
  refine sp pMa ?_
  refine oNil ?_
  refine aSeq ?_
  refine aReg ?_
  refine sp pM ?_
  refine sp pMa ?_
  refine sp pMa ?_
  refine oNil ?_
  refine aSeq ?_
  refine aBlock ?_
  refine loopF (α := Nat × Nat) (kept := [(0, _), (1, _), (2, _), (8, _)]) (fun (i, j) => i ≤ j ∧ j ≤ l.length ∧ (∀ k x, k < i → l[k]? = some x → x.o < n) ∧ (∀ k x, j ≤ k → l[k]? = some x → n ≤ x.o)) (fun (i, j) => [(9, .int i), (10, .int j)]) (fun (i, j) => []) (fun (i, j) => j - i) (0, l.length) ?_ ⟨gInt rfl (by first | rfl | omega | simp), gInt rfl (by first | rfl | omega | simp), rfl, rfl, rfl, rfl, trivial⟩ (by repeat constructor) ?_
  · skip
    exact ⟨by omega, by omega, fun k x hk _ => by omega, fun k x hk hx => by have := (List.getElem?_eq_some_iff.1 hx).1; omega⟩
  · rintro ⟨i, j⟩ ⟨hij, hj, h1, h2⟩
    refine aSeq ?_
    refine aSeq ?_
    refine aReg ?_
    refine sp pM ?_
    refine sp pM ?_
    refine sp pB ?_
    refine oNil ?_
    refine aCondDec rfl (fun c17 => ?_) (fun c17 => ?_)
    · skip
      refine aSkip ?_
      refine aBlock ?_
      refine aSeq ?_
      refine aReg ?_
      refine sp pM ?_
      refine sp pM ?_
      refine sp pAd ?_
      refine sp (pConv (n' := ((i + j : Nat) : Int)) rfl rfl ik_3 ik_270 (by rw [show (i : Int) + j = ((i + j : Nat) : Int) by omega]; exact wrap_u64 (by omega) (by omega))) ?_
      refine sp (pShrN (a := i + j) (r := 1) rfl rfl rfl rfl (by decide)) ?_
      refine sp (pConv (n' := (((i + j) / 2 : Nat) : Int)) rfl rfl ik_270 ik_3 (wrap_i64 (by omega) (by omega))) ?_
      refine sp pMa ?_
      refine oNil ?_
      refine aSeq ?_
      obtain ⟨m, hm⟩ : ∃ m, m = (i + j) / 2 := ⟨_, rfl⟩
      rw [← hm]
      obtain ⟨x, hx⟩ : ∃ z, l[m]? = some z := ⟨_, List.getElem?_eq_getElem (by omega)⟩
      refine aReg ?_
      refine sp pM ?_
      refine sp pM ?_
      refine sp pM ?_
      first | refine sp (pIx es_55) ?_ | (refine obtSN 25 26 rfl rfl (by omega) (fun x27 hx27 => ?_); refine sp (pIs es_55 hx27) ?_) | (refine obtS 25 26 rfl rfl (by omega) (by omega) (fun x27 hx27 => ?_); refine sp (pIs es_55 hx27) ?_) | refine sp (pIo es_55) ?_
      refine sr (by first | exact rSW ty_141 rfl | exact rSA ty_141) ?_
      refine sp pM ?_
      refine sq ?_
      refine cv rfl rfl rfl (lents_refl _) (lsdb_find1 (x := x) (n := n)) ?_
      refine sp pB ?_
      refine oNil ?_
      refine aCondDec rfl (fun c31 => ?_) (fun c31 => ?_)
      · skip
        refine aReg ?_
        refine sp pM ?_
        refine sp pAd ?_
        refine sp pMa ?_
        refine oNil ?_
        first
          | (refine ⟨(m + 1, j), ?_, by (try dsimp only); omega, ⟨gInt rfl (by first | rfl | omega | simp), gInt rfl (by first | rfl | omega | simp), rfl, rfl, rfl, rfl, trivial⟩, _, (by repeat constructor)⟩
             have hc := cmpI_lt (a := x.o) (b := n)
             refine ⟨by omega, by omega, fun k y hk hy => ?_, h2⟩
             have hxn : x.o < n := by omega
             by_cases e : k = m
             · subst e; rw [hx] at hy; cases hy; exact hxn
             · have := sortL_at hs hy hx (by omega); omega)
          | (refine ⟨(i, m), ?_, by (try dsimp only); omega, ⟨gInt rfl (by first | rfl | omega | simp), gInt rfl (by first | rfl | omega | simp), rfl, rfl, rfl, rfl, trivial⟩, _, (by repeat constructor)⟩
             have hc := cmpI_lt (a := x.o) (b := n)
             refine ⟨by omega, by omega, h1, fun k y hk hy => ?_⟩
             have hxn : n ≤ x.o := by omega
             by_cases e : k = m
             · subst e; rw [hx] at hy; cases hy; exact hxn
             · have := sortL_at hs hx hy (by omega); omega)
      · skip
        refine aReg ?_
        refine sp pM ?_
        refine sp pMa ?_
        refine oNil ?_
        first
          | (refine ⟨(m + 1, j), ?_, by (try dsimp only); omega, ⟨gInt rfl (by first | rfl | omega | simp), gInt rfl (by first | rfl | omega | simp), rfl, rfl, rfl, rfl, trivial⟩, _, (by repeat constructor)⟩
             have hc := cmpI_lt (a := x.o) (b := n)
             refine ⟨by omega, by omega, fun k y hk hy => ?_, h2⟩
             have hxn : x.o < n := by omega
             by_cases e : k = m
             · subst e; rw [hx] at hy; cases hy; exact hxn
             · have := sortL_at hs hy hx (by omega); omega)
          | (refine ⟨(i, m), ?_, by (try dsimp only); omega, ⟨gInt rfl (by first | rfl | omega | simp), gInt rfl (by first | rfl | omega | simp), rfl, rfl, rfl, rfl, trivial⟩, _, (by repeat constructor)⟩
             have hc := cmpI_lt (a := x.o) (b := n)
             refine ⟨by omega, by omega, h1, fun k y hk hy => ?_⟩
             have hxn : n ≤ x.o := by omega
             by_cases e : k = m
             · subst e; rw [hx] at hy; cases hy; exact hxn
             · have := sortL_at hs hx hy (by omega); omega)
    · skip
      refine aExit rfl ?_
      refine aSeq ?_
      obtain rfl : i = j := by omega
      have hpos := posL_is (by omega) h1 h2
      have hhas := hasL_pos hs h1 h2
      refine aReg ?_
      refine sp pM ?_
      refine sp pM ?_
      refine sp pM ?_
      refine sp pB ?_
      refine sp pM ?_
      refine oSplitDec 39 rfl (fun c39 => ?_) (fun c39 => ?_)
      · skip
        refine gp pM ?_
        refine gp pM ?_
        refine gp pM ?_
        first | refine gp (pIx es_55) ?_ | (refine obtSN 41 42 rfl rfl (by omega) (fun x43 hx43 => ?_); refine gp (pIs es_55 hx43) ?_) | (refine obtS 41 42 rfl rfl (by omega) (by omega) (fun x43 hx43 => ?_); refine gp (pIs es_55 hx43) ?_) | refine gp (pIo es_55) ?_
        refine gr (by first | exact rSW ty_141 rfl | exact rSA ty_141) ?_
        refine gp pM ?_
        refine ga ?_
        refine (cv rfl rfl rfl (lents_refl _) (lsdb_find1 (x := x43) (n := n)) ?_).op
        refine gp pB ?_
        refine sp pK ?_
        refine sp pMa ?_
        refine sp pMa ?_
        refine oNil ?_
        refine aRet ?_
        refine finIs rfl ?_
        rw [hpos, hhas]
        first
          | (have hc := cmpI_ne (a := x43.o) (b := n)
             simp_all [retOf]
             rw [Bool.eq_iff_iff]
             simp
             omega)
          | (simp_all [retOf]; done)
      · skip
        refine gf ?_
        refine gf ?_
        refine gf ?_
        refine gf ?_
        refine gf ?_
        refine gf ?_
        refine gf ?_
        refine gf ?_
        refine sp pK ?_
        refine sp pMa ?_
        refine sp pMa ?_
        refine oNil ?_
        refine aRet ?_
        refine finIs rfl ?_
        rw [hpos, hhas]
        first
          | (have hc := cmpI_ne (a := x43.o) (b := n)
             simp_all [retOf]
             rw [Bool.eq_iff_iff]
             simp
             omega)
          | (simp_all [retOf]; done)
/- lsdb.find -/
set_option maxRecDepth 100000 in
set_option maxHeartbeats 400000 in
theorem lsdb_find {l : List Lsa} {n : Int} (hs : l.Pairwise (fun x y => x.o < y.o)) (hl : l.length ≤ 1000000) : Triple Try.prog 236 [.sl 3 (l.map lsaC), .int n] [] (Is (.tup [.int (posL l n), .v (.bool (hasL l n))]) []) := by
  refine triple_of Try.func236 rfl (by kernel_rfl) rfl (by simp) ?_
  refine aSeq ?_
  refine aReg ?_
  refine sp pMa ?_
  refine sp pMa ?_
  refine oNil ?_
  refine aSeq ?_
  refine aReg ?_
  refine sp pM ?_
  refine sp pM ?_
  refine sq ?_
  refine ci rfl rfl rfl (bs_Lsa (l := l) (n := n) hs hl) ?_
  refine sp pX ?_
  refine sp pX ?_
  refine sp pMa ?_
  refine sp pMa ?_
  refine oNil ?_
  refine aRet ?_
  refine finIs rfl ?_
  rfl
/- lsdb.Get -/
set_option maxRecDepth 100000 in
set_option maxHeartbeats 1000000 in
theorem lsdb_Get {db : List Lsa} {n : Int} (hv : lsdbB 0 db = true) : Triple Try.prog 158 [.sl 3 (db.map lsaC), .int n] [] (Is (.tup [.agg (lsaC (getL db n)), .v (.bool (hasL db n))]) []) := by
  have h64 := lsdb_len64 hv
  obtain ⟨hg1, hg2⟩ := hasL_get hv (n := n)
  refine triple_ofR Try.func158 rfl (by kernel_rfl) rfl (by simp) ?_
  refine aSeq ?_
  refine aReg ?_
  refine sq ?_
  refine qAlloc rfl rfl (by decide) ze_141 rfl (fun b4 => ?_)
  refine sp pMa ?_
  refine oNil ?_
  refine aSeq ?_
  refine aSeq ?_
  refine aReg ?_
  refine sp pM ?_
  refine sq ?_
  refine cv rfl rfl rfl (lents_refl _) (lsdb_Check_v (db := db) (by omega)) ?_
  rw [hv]
  refine sp pB ?_
  refine oNil ?_
  refine aCondF rfl ?_
  refine aSkip ?_
  refine aSeq ?_
  refine aReg ?_
  refine sp pM ?_
  refine sp pM ?_
  refine sq ?_
  refine ci rfl rfl rfl (lsdb_find (l := db) (n := n) (lsdbB_spec hv).2 (by omega)) ?_
  refine sp pM ?_
  refine sp pX ?_
  refine sp pX ?_
  refine sp pMa ?_
  refine sp pMa ?_
  refine oNil ?_
  refine aSeq ?_
  refine aSeq ?_
  refine aReg ?_
  refine sp pM ?_
  refine sp pNo ?_
  refine oNil ?_
  refine aCondNot rfl (fun c19 => ?_) (fun c19 => ?_)
  · skip
    refine aSeq ?_
    refine aReg ?_
    refine sp (pBuild rfl st_141 ze_141 rfl rfl rfl rfl) ?_
    refine sa ?_
    refine oStW rfl rfl rfl rfl (by repeat constructor) ty_141 ?_
    refine sp pMa ?_
    refine oNil ?_
    refine aRet ?_
    refine finRIs (l := [.agg (lsaC ⟨0, 0, []⟩), .v (.bool false)]) (.cons ((.cast (a := .agg [.int 0, .int 0, .v (.slice none 0 0)]) (.cellA rfl (by repeat (first | exact List.mem_cons_self | apply List.mem_cons_of_mem)) ty_141) cast_lsa0)) (.cons (.tmp rfl) .nil)) ?_
    rw [hg2 (by simp_all)]
    simp_all [retOf]
  · skip
    refine aSkip ?_
    refine aSeq ?_
    obtain ⟨x, hx, hgx⟩ := hg1 (by simp_all)
    refine aReg ?_
    refine sp pM ?_
    refine sp pM ?_
    first | refine sp (pIx es_55) ?_ | (refine obtSN 21 22 rfl rfl (by omega) (fun x23 hx23 => ?_); refine sp (pIs es_55 hx23) ?_) | (refine obtS 21 22 rfl rfl (by omega) (by omega) (fun x23 hx23 => ?_); refine sp (pIs es_55 hx23) ?_) | refine sp (pIo es_55) ?_
    refine sr (by first | exact rSW ty_141 rfl | exact rSA ty_141) ?_
    refine sq ?_
    refine ci rfl rfl rfl (lsa_Copy_s (l := x) (by have := lsa_links (lsdb_mem hv x (List.mem_of_getElem? hx)); omega)) ?_
    refine sa ?_
    refine oStW rfl rfl rfl rfl (by repeat constructor) ty_141 ?_
    refine sp pMa ?_
    refine oNil ?_
    refine aRet ?_
    refine finRIs (l := [.agg (lsaC x), .v (.bool true)]) (.cons (.cellA rfl (by repeat (first | exact List.mem_cons_self | apply List.mem_cons_of_mem)) ty_141) (.cons (.tmp rfl) .nil)) ?_
    rw [hgx]
    simp_all [retOf]
/- api.Link] -/
def equal_Link_r6_T : Bool × List (List Nat × List Nat) := (true, [([], []), ([], []), ([0, 1], [0, 1]), ([2], [2]), ([], []), ([], []), ([4, 5], [4, 5]), ([6], [6]), ([3, 7], [3, 7])])
def equal_Link_r6_B : List Nat := [0, 0, 3, 7, 0, 0, 48, 112, 255]
theorem equal_Link_r6_t : Go.Proofs.YtmcannmjielalaaW.PrintLast.rtab .any (Go.Proofs.YtmcannmjielalaaW.PrintLast.opsOf Try.f239 6) = equal_Link_r6_T := by kernel_rfl
theorem equal_Link_r6_b : Go.Proofs.YtmcannmjielalaaW.PrintLast.waitsOk equal_Link_r6_T.2 equal_Link_r6_B = true := by kernel_rfl
set_option maxRecDepth 100000 in
set_option maxHeartbeats 400000 in
theorem equal_Link {a b : List Link} (ha : a.length < 9223372036854775807 := by omega) (hb : b.length < 9223372036854775807 := by omega) : Triple Try.prog 239 [.sl 2 (a.map linkC), .sl 2 (b.map linkC)] [] (Is (.v (.bool (decide (a = b)))) []) := by
  refine triple_of Try.func239 rfl (by kernel_rfl) rfl (by simp) ?_
  refine aSeq ?_
  refine aReg ?_
  refine sp pMa ?_
  refine oNil ?_
  refine aSeq ?_
  refine aSeq ?_
  refine aReg ?_
  refine sp pM ?_
  refine sp (by first | exact pLm sl_139 | exact pLs sl_139) ?_
  refine sp pM ?_
  refine sp (by first | exact pLm sl_139 | exact pLs sl_139) ?_
  refine sp pB ?_
  refine oNil ?_
  refine aCondNe rfl (fun c10 => ?_) (fun c10 => ?_)
  · skip
    refine aSeq ?_
    refine aReg ?_
    refine sp pMa ?_
    refine oNil ?_
    refine aRet ?_
    refine finIs rfl ?_
    rw [decide_eq_false (fun e => by subst e; simp_all)]
    rfl
  · skip
    refine aSkip ?_
    refine aSeq ?_
    refine aSeq ?_
    refine aReg ?_
    refine sp pM ?_
    refine sp (by first | exact pLm sl_139 | exact pLs sl_139) ?_
    refine sp pM ?_
    refine oNil ?_
    refine aBlock ?_
    refine loopF (α := Nat) (kept := [(0, _), (1, _), (12, _)]) (fun i => i ≤ a.length ∧ a.length = b.length ∧ a.take i = b.take i) (fun i => [(13, .int i)]) (fun i => []) (fun i => a.length - i) 0 ?_ ⟨gInt rfl (by first | rfl | omega | simp), rfl, rfl, rfl, trivial⟩ (by repeat constructor) ?_
    · skip
      exact ⟨by omega, by omega, rfl⟩
    · rintro i ⟨hi, hl, hv⟩
      refine aSeq ?_
      refine aReg ?_
      refine sp pB ?_
      refine oNil ?_
      refine aSeq ?_
      refine aCondDec rfl (fun c14 => ?_) (fun c14 => ?_)
      · skip
        refine aSkip ?_
        refine aSeq ?_
        refine aBlock ?_
        refine aSeq ?_
        refine aReg ?_
        refine sp pM ?_
        refine sp pMa ?_
        refine oNil ?_
        refine aSeq ?_
        refine aDrawT equal_Link_r6_t equal_Link_r6_b [] 9 #[false, false, false, false, false, false, false, false, false] (by kernel_rfl) rfl rfl (fun HT => ?_)
        refine dp HT 0 rfl pM ?_
        refine dp HT 1 rfl pM ?_
        first | refine dp HT 2 rfl (pIx es_139) ?_ | (refine obtDN 16 17 rfl rfl (by omega) (fun x18 hx18 => ?_); refine dp HT 2 rfl (pIs es_139 hx18) ?_) | (refine obtD 16 17 rfl rfl (by omega) (by omega) (fun x18 hx18 => ?_); refine dp HT 2 rfl (pIs es_139 hx18) ?_) | refine dp HT 2 rfl (pIo es_139) ?_
        refine dr HT 3 rfl (by first | exact rSW ty_138 rfl | exact rSA ty_138) ?_
        refine dp HT 4 rfl pM ?_
        refine dp HT 5 rfl pM ?_
        first | refine dp HT 6 rfl (pIx es_139) ?_ | (refine obtDN 20 21 rfl rfl (by omega) (fun x22 hx22 => ?_); refine dp HT 6 rfl (pIs es_139 hx22) ?_) | (refine obtD 20 21 rfl rfl (by omega) (by omega) (fun x22 hx22 => ?_); refine dp HT 6 rfl (pIs es_139 hx22) ?_) | refine dp HT 6 rfl (pIo es_139) ?_
        refine dr HT 7 rfl (by first | exact rSW ty_138 rfl | exact rSA ty_138) ?_
        refine dp HT 8 rfl (pEqAn eq_138) ?_
        refine dE HT ?_
        clear HT
        refine aCond rfl (fun c24 => ?_) (fun c24 => ?_)
        · skip
          refine aSeq ?_
          refine aReg ?_
          refine sp pMa ?_
          refine oNil ?_
          refine aRet ?_
          refine finIs rfl ?_
          rw [decide_eq_false (fun e => by subst e; obtain rfl := Option.some.inj (hx18.symm.trans hx22); simp_all)]
          rfl
        · skip
          refine aSkip ?_
          refine aReg ?_
          refine sp pAd ?_
          refine sp pM ?_
          refine oNil ?_
          refine ⟨i + 1, ?_, by (try dsimp only); omega, ⟨gInt rfl (by first | rfl | omega | simp), rfl, rfl, rfl, trivial⟩, _, (by repeat constructor)⟩
          have hxy : x18 = x22 := by
            cases x18
            cases x22
            simp_all
          exact ⟨by omega, hl, by rw [take_step hx18, take_step hx22, hv, hxy]⟩
      · skip
        refine aExit rfl ?_
        refine aSeq ?_
        refine aReg ?_
        refine sp pMa ?_
        refine oNil ?_
        refine aRet ?_
        refine finIs rfl ?_
        rw [take_all (by omega), take_all (by omega)] at hv
        rw [decide_eq_true hv]
        rfl
/- lsa.Same -/
set_option maxRecDepth 100000 in
set_option maxHeartbeats 400000 in
theorem lsa_Same {a b : Lsa} (ha : a.ls.length < 9223372036854775807 := by omega) (hb : b.ls.length < 9223372036854775807 := by omega) : Triple Try.prog 162 [.agg (lsaC a), .agg (lsaC b)] [] (Is (.v (.bool (decide (a = b)))) []) := by
  refine triple_of Try.func162 rfl (by kernel_rfl) rfl (by simp) ?_
  refine aSeq ?_
  refine aReg ?_
  refine sq ?_
  refine qBox rfl rfl (by decide) rfl rfl (fun b2 => ?_)
  refine sq ?_
  refine qBox rfl rfl (by decide) rfl rfl (fun b3 => ?_)
  refine sp pMa ?_
  refine oNil ?_
  refine aSeq ?_
  refine aReg ?_
  refine sp (pFb fd_141_0) ?_
  refine sr (rB1 ty_3) ?_
  refine sp (pFb fd_141_0) ?_
  refine sr (rB1 ty_3) ?_
  refine sp pB ?_
  refine sp pM ?_
  refine oSplitEq 10 rfl (fun c10 => ?_) (fun c10 => ?_)
  · skip
    refine gp (pFb fd_141_1) ?_
    refine gr (rB1 ty_3) ?_
    refine gp (pFb fd_141_1) ?_
    refine gr (rB1 ty_3) ?_
    refine gp pB ?_
    refine sp pK ?_
    refine sp pM ?_
    refine oSplitEq 17 rfl (fun c17 => ?_) (fun c17 => ?_)
    · skip
      refine gp (pFb fd_141_2) ?_
      refine gr (rB1 ty_139) ?_
      refine gp (pFb fd_141_2) ?_
      refine gr (rB1 ty_139) ?_
      refine ga ?_
      refine (cv rfl rfl rfl (lents_refl _) (equal_Link (a := a.ls) (b := b.ls) ha hb) ?_).op
      refine sp pK ?_
      refine sp pMa ?_
      refine oNil ?_
      refine aRet ?_
      refine finIs rfl ?_
      cases a
      cases b
      simp_all [retOf]
    · skip
      refine gf ?_
      refine gf ?_
      refine gf ?_
      refine gf ?_
      refine gf ?_
      refine sp pK ?_
      refine sp pMa ?_
      refine oNil ?_
      refine aRet ?_
      refine finIs rfl ?_
      cases a
      cases b
      simp_all [retOf]
  · skip
    refine gf ?_
    refine gf ?_
    refine gf ?_
    refine gf ?_
    refine gf ?_
    refine sp pK ?_
    refine sp pM ?_
    refine gf ?_
    refine gf ?_
    refine gf ?_
    refine gf ?_
    refine gf ?_
    refine sp pK ?_
    refine sp pMa ?_
    refine oNil ?_
    refine aRet ?_
    refine finIs rfl ?_
    cases a
    cases b
    simp_all [retOf]
/- api.Lsa] -/
set_option maxRecDepth 100000 in
set_option maxHeartbeats 400000 in
theorem equalF_Lsa {a b : List Lsa} (ha : a.length < 9223372036854775807 := by omega) (hb : b.length < 9223372036854775807 := by omega) (hma : ∀ x ∈ a, x.ls.length < 9223372036854775807) (hmb : ∀ x ∈ b, x.ls.length < 9223372036854775807) : Triple Try.prog 161 [.sl 3 (a.map lsaC), .sl 3 (b.map lsaC), .fn (.func 162) []] [] (Is (.v (.bool (decide (a = b)))) []) := by
  refine triple_of Try.func161 rfl (by kernel_rfl) rfl (by simp) ?_
  refine aSeq ?_
  refine aReg ?_
  refine sp pMa ?_
  refine oNil ?_
  refine aSeq ?_
  refine aSeq ?_
  refine aReg ?_
  refine sp pM ?_
  refine sp (by first | exact pLm sl_55 | exact pLs sl_55) ?_
  refine sp pM ?_
  refine sp (by first | exact pLm sl_55 | exact pLs sl_55) ?_
  refine sp pB ?_
  refine oNil ?_
  refine aCondNe rfl (fun c14 => ?_) (fun c14 => ?_)
  · skip
    refine aSeq ?_
    refine aReg ?_
    refine sp pMa ?_
    refine oNil ?_
    refine aRet ?_
    refine finIs rfl ?_
    rw [decide_eq_false (fun e => by subst e; simp_all)]
    rfl
  · skip
    refine aSkip ?_
    refine aSeq ?_
    refine aSeq ?_
    refine aReg ?_
    refine sp pM ?_
    refine sp (by first | exact pLm sl_55 | exact pLs sl_55) ?_
    refine sp pM ?_
    refine oNil ?_
    refine aBlock ?_
    refine loopF (α := Nat) (kept := [(1, _), (2, _), (15, _), (16, _)]) (fun i => i ≤ a.length ∧ a.length = b.length ∧ a.take i = b.take i) (fun i => [(17, .int i)]) (fun i => []) (fun i => a.length - i) 0 ?_ ⟨gInt rfl (by first | rfl | omega | simp), rfl, rfl, rfl, rfl, trivial⟩ (by repeat constructor) ?_
    · skip
      exact ⟨by omega, by omega, rfl⟩
    · rintro i ⟨hi, hl, hv⟩
      refine aSeq ?_
      refine aReg ?_
      refine sp pB ?_
      refine oNil ?_
      refine aSeq ?_
      refine aCondDec rfl (fun c18 => ?_) (fun c18 => ?_)
      · skip
        refine aSkip ?_
        refine aSeq ?_
        refine aBlock ?_
        refine aSeq ?_
        refine aReg ?_
        refine sp pM ?_
        first | refine sp (pIx es_55) ?_ | (refine obtSN 15 17 rfl rfl (by omega) (fun x20 hx20 => ?_); refine sp (pIs es_55 hx20) ?_) | (refine obtS 15 17 rfl rfl (by omega) (by omega) (fun x20 hx20 => ?_); refine sp (pIs es_55 hx20) ?_) | refine sp (pIo es_55) ?_
        refine sr (by first | exact rSW ty_141 rfl | exact rSA ty_141) ?_
        refine sq ?_
        refine qAlloc rfl rfl (by decide) ze_141 rfl (fun b8 => ?_)
        refine sp pMa ?_
        refine sa ?_
        refine oStW rfl rfl rfl rfl (by repeat constructor) ty_141 ?_
        refine oNil ?_
        refine aSeq ?_
        refine aReg ?_
        refine sp pM ?_
        refine sp pM ?_
        first | refine sp (pIx es_55) ?_ | (refine obtSN 22 23 rfl rfl (by omega) (fun x24 hx24 => ?_); refine sp (pIs es_55 hx24) ?_) | (refine obtS 22 23 rfl rfl (by omega) (by omega) (fun x24 hx24 => ?_); refine sp (pIs es_55 hx24) ?_) | refine sp (pIo es_55) ?_
        refine sr (by first | exact rSW ty_141 rfl | exact rSA ty_141) ?_
        refine sq ?_
        refine qAlloc rfl rfl (by decide) ze_141 rfl (fun b9 => ?_)
        refine sa ?_
        refine oStW rfl rfl rfl rfl (by repeat constructor) ty_141 ?_
        refine oNil ?_
        refine aSeq ?_
        refine aReg ?_
        refine sp pM ?_
        refine sr (by first | exact rBWa ty_141 | exact rBW ty_141 | exact rBA ty_141) ?_
        refine sr (by first | exact rBWa ty_141 | exact rBW ty_141 | exact rBA ty_141) ?_
        refine sq ?_
        refine cv rfl rfl rfl (lents_refl _) (lsa_Same (a := x20) (b := x24) (hma _ (List.mem_of_getElem? hx20)) (hmb _ (List.mem_of_getElem? hx24))) ?_
        refine sp pNo ?_
        refine oNil ?_
        refine aCondNot rfl (fun c30 => ?_) (fun c30 => ?_)
        · skip
          refine aSeq ?_
          refine aReg ?_
          refine sp pMa ?_
          refine oNil ?_
          refine aRet ?_
          refine finIs rfl ?_
          rw [decide_eq_false (fun e => by subst e; obtain rfl := Option.some.inj (hx20.symm.trans hx24); simp_all)]
          rfl
        · skip
          refine aSkip ?_
          refine aReg ?_
          refine sp pAd ?_
          refine sp pM ?_
          refine oNil ?_
          refine ⟨i + 1, ?_, by (try dsimp only); omega, ⟨gInt rfl (by first | rfl | omega | simp), rfl, rfl, rfl, rfl, trivial⟩, _, (by repeat constructor)⟩
          have hxy : x20 = x24 := by simp_all
          exact ⟨by omega, hl, by rw [take_step hx20, take_step hx24, hv, hxy]⟩
      · skip
        refine aExit rfl ?_
        refine aSeq ?_
        refine aReg ?_
        refine sp pMa ?_
        refine oNil ?_
        refine aRet ?_
        refine finIs rfl ?_
        rw [take_all (by omega), take_all (by omega)] at hv
        rw [decide_eq_true hv]
        rfl
end A
end Go.Proofs.Ytmcannmjielalaa
set_option linter.unusedVariables false
set_option linter.unusedSimpArgs false
namespace Go.Proofs.Ytmcannmjielalaa
namespace A
def basC (x : List Lsa) : List AV := [.sl 3 (x.map lsaC)]
def atB (b : List (List Lsa)) (n : Int) : List Lsa := b.getD (n - 1).toNat []
def baseM (b : List (List Lsa)) (n : Int) : List Lsa := if lsdbB 0 (atB b n) then atB b n else []
theorem base_ok (b : List (List Lsa)) (n : Int) : lsdbB 0 (baseM b n) = true := by
  unfold baseM
  split
  · assumption
  · rfl
theorem base_len (b : List (List Lsa)) (n : Int) : (baseM b n).length ≤ 64 := lsdb_len64 (base_ok b n)
theorem base_far {b : List (List Lsa)} {n : Int} (h : (b.length : Int) < n) : baseM b n = [] := by
  have : atB b n = [] := by
    unfold atB
    rw [List.getD, List.getElem?_eq_none (by omega)]
    rfl
  unfold baseM
  rw [this]
  split <;> rfl
theorem atB_at {b : List (List Lsa)} {n : Int} {x : List Lsa} (h : b[(n - 1).toNat]? = some x) : atB b n = x := by
  unfold atB
  rw [List.getD, h]
  rfl
theorem base_at {b : List (List Lsa)} {n : Int} {x : List Lsa} (h : b[(n - 1).toNat]? = some x) : baseM b n = if lsdbB 0 x then x else [] := by
  unfold baseM
  rw [atB_at h]
def goM (b : List (List Lsa)) (td : Int) : Nat → Int → List Int × Int
  | 0, v => if v = td then ([v], 1) else ([v], 3)
  | k + 1, v => if v = td then ([v], 1) else match findR (rtsDb (baseM b v) v) td with
    | none => ([v], 2)
    | some r => (v :: (goM b td k r.via).1, (goM b td k r.via).2)
theorem goM_here {b : List (List Lsa)} {td : Int} : ∀ {k : Nat}, goM b td k td = ([td], 1)
  | 0 => by rw [goM, if_pos rfl]
  | k + 1 => by rw [goM, if_pos rfl]
theorem goM_spent {b : List (List Lsa)} {td v : Int} (h : v ≠ td) : goM b td 0 v = ([v], 3) := by rw [goM, if_neg h]
theorem goM_lost {b : List (List Lsa)} {td v : Int} {k : Nat} (h : v ≠ td) (hf : (findR (rtsDb (baseM b v) v) td).isSome = false) : goM b td (k + 1) v = ([v], 2) := by
  rw [goM, if_neg h]
  cases hx : findR (rtsDb (baseM b v) v) td with
  | none => rfl
  | some r => rw [hx] at hf; cases hf
theorem goM_step {b : List (List Lsa)} {td v : Int} {k : Nat} (h : v ≠ td) (hf : (findR (rtsDb (baseM b v) v) td).isSome = true) : goM b td (k + 1) v = (v :: (goM b td k (findG (rtsDb (baseM b v) v) td).via).1, (goM b td k (findG (rtsDb (baseM b v) v) td).via).2) := by
  rw [goM, if_neg h]
  unfold findG
  cases hx : findR (rtsDb (baseM b v) v) td with
  | none => rw [hx] at hf; cases hf
  | some r => rfl
theorem find_via {db : List Lsa} {me td : Int} (h : (findR (rtsDb db me) td).isSome = true) : 1 ≤ (findG (rtsDb db me) td).via ∧ (findG (rtsDb db me) td).via ≤ 64 := by
  unfold findG
  cases hx : findR (rtsDb db me) td with
  | none => rw [hx] at h; cases h
  | some r =>
    obtain ⟨h1, h2⟩ := findR_some hx
    rw [Option.getD_some]
    unfold rtsDb at h1
    split at h1
    case isFalse => simp at h1
    rename_i hv
    obtain ⟨a, ha, _, h3, _⟩ := rts_via h1
    have := arcs_ok (dbArcs_ok hv) a ha
    unfold AOk at this
    omega
theorem goM_len (b : List (List Lsa)) (td : Int) : ∀ (k : Nat) (v : Int), 1 ≤ (goM b td k v).1.length ∧ (goM b td k v).1.length ≤ k + 1
  | 0, v => by rw [goM]; split <;> simp
  | k + 1, v => by
    rw [goM]
    split
    · simp
    · split
      · simp
      · rename_i r _
        have := goM_len b td k r.via
        simp
        omega
theorem goM_rng {b : List (List Lsa)} {td : Int} : ∀ (k : Nat) (v : Int), 1 ≤ v → v ≤ 64 → ∀ u ∈ (goM b td k v).1, 1 ≤ u ∧ u ≤ 64
  | 0, v, h1, h2, u, hu => by
    have : u = v := by rw [goM] at hu; split at hu <;> simpa using hu
    omega
  | k + 1, v, h1, h2, u, hu => by
    by_cases e : v = td
    · rw [e, goM_here] at hu
      have : u = td := by simpa using hu
      omega
    · cases hs : (findR (rtsDb (baseM b v) v) td).isSome with
      | false => rw [goM_lost e hs] at hu; have : u = v := by simpa using hu
                 omega
      | true =>
        rw [goM_step e hs] at hu
        have hv := find_via hs
        rcases List.mem_cons.1 hu with rfl | hu
        · omega
        · exact goM_rng k _ hv.1 hv.2 u hu
def hopsN (h : Int) : Nat := (min (max h 0) 64).toNat
def goW (b : List (List Lsa)) (fr td hops : Int) : List Int × Int := if nodeB fr && nodeB td then goM b td (hopsN hops) fr else ([], 0)
theorem nodeB_iff {n : Int} : nodeB n = true ↔ 1 ≤ n ∧ n ≤ 64 := by unfold nodeB; simp
theorem goW_len (b : List (List Lsa)) (fr td hops : Int) : (goW b fr td hops).1.length ≤ 65 := by
  unfold goW
  split
  · have := goM_len b td (hopsN hops) fr
    have : hopsN hops ≤ 64 := by unfold hopsN; omega
    omega
  · simp
theorem goW_rng {b : List (List Lsa)} {fr td hops : Int} : ∀ u ∈ (goW b fr td hops).1, 1 ≤ u ∧ u ≤ 64 := fun u hu => by
  unfold goW at hu
  split at hu
  · rename_i h
    rw [Bool.and_eq_true] at h
    have := nodeB_iff.1 h.1
    exact goM_rng _ _ this.1 this.2 u hu
  · simp at hu
theorem goW_one {b : List (List Lsa)} {fr td hops : Int} (h : (goW b fr td hops).2 = 1) : 1 ≤ (goW b fr td hops).1.length ∧ 1 ≤ fr ∧ fr ≤ 64 := by
  unfold goW at h ⊢
  split
  · rename_i h2
    rw [Bool.and_eq_true] at h2
    exact ⟨(goM_len b td (hopsN hops) fr).1, nodeB_iff.1 h2.1⟩
  · rename_i h2
    rw [if_neg h2] at h
    cases h
/-! ### What a walk costs -/
def stepC (b : List (List Lsa)) (x y : Int) : Int := costL (getL (baseM b x) x).ls y
def sumI (b : List (List Lsa)) (L : List Int) : Nat → Int
  | 0 => 0
  | i + 1 => sumI b L i + stepC b (L.getD i 0) (L.getD (i + 1) 0)
theorem costL_range {db : List Lsa} (h : lsdbB 0 db = true) (n m : Int) : 0 ≤ costL (getL db n).ls m ∧ costL (getL db n).ls m ≤ 1073741824 := by
  unfold costL
  cases hf : (getL db n).ls.find? (fun x => x.t == m) with
  | none => exact ⟨Int.le_refl _, by decide⟩
  | some x =>
    have hx := List.mem_of_find?_eq_some hf
    unfold getL at hx
    cases hg : db.reverse.find? (fun l => l.o == n) with
    | none => rw [hg] at hx; simp at hx
    | some l =>
      rw [hg] at hx
      have hl := (lsdbB_spec h).1 l (by simpa using List.mem_of_find?_eq_some hg)
      have := (linksB_spec (lsaB_links hl.2)).1 x hx
      show 0 ≤ x.c ∧ x.c ≤ 1073741824
      omega
theorem stepC_range (b : List (List Lsa)) (x y : Int) : 0 ≤ stepC b x y ∧ stepC b x y ≤ 1073741824 := costL_range (base_ok b x) x y
theorem sumI_range (b : List (List Lsa)) (L : List Int) : ∀ i : Nat, 0 ≤ sumI b L i ∧ sumI b L i ≤ i * 1073741824
  | 0 => ⟨Int.le_refl _, by simp [sumI]⟩
  | i + 1 => by
    have h1 := sumI_range b L i
    have h2 := stepC_range b (L.getD i 0) (L.getD (i + 1) 0)
    unfold sumI
    omega
theorem sumI_step {b : List (List Lsa)} {L : List Int} {i : Nat} {x y : Int} (hx : L[i]? = some x) (hy : L[i + 1]? = some y) : sumI b L (i + 1) = sumI b L i + stepC b x y := by
  rw [sumI, List.getD, List.getD, hx, hy]
  rfl
/-! ### Have nodes the same base -/
def agP (b : List (List Lsa)) (n0 n : Int) : Bool := decide (1 ≤ n) && decide (n ≤ (b.length : Int)) && lsdbB 0 (atB b n) && decide (atB b n = baseM b n0)
def agreeM (b : List (List Lsa)) (l : List Int) : Bool := l.all fun n => nodeB n && agP b (l.getD 0 0) n
theorem all_step {l : List Int} {p : Int → Bool} {i : Nat} {x : Int} (h : l[i]? = some x) (hv : ∀ y ∈ l.take i, p y = true) (hp : p x = true) : ∀ y ∈ l.take (i + 1), p y = true := fun y hy => by
  rw [take_step h] at hy
  rcases List.mem_append.1 hy with hy | hy
  · exact hv y hy
  · rw [List.mem_singleton.1 hy]; exact hp
theorem all_bad {l : List Int} {p : Int → Bool} {i : Nat} {x : Int} (h : l[i]? = some x) (hp : p x = false) : l.all p = false := by
  rw [Bool.eq_false_iff]
  intro h2
  have := List.all_eq_true.1 h2 x (List.mem_of_getElem? h)
  rw [hp] at this
  cases this
end A
end Go.Proofs.Ytmcannmjielalaa
set_option linter.unusedVariables false
set_option linter.unusedSimpArgs false
namespace Go.Proofs.Ytmcannmjielalaa
namespace A
theorem op_Link : OpC Try.prog 138 2 Link linkC (fun _ => True) :=
  opMap (opStruct Try.underlying138 (by kernel_rfl) (fsCons rfl (by kernel_rfl) (opInt Try.underlying3) (fsCons rfl (by kernel_rfl) (opInt Try.underlying3) fsNil))) (fun x => ⟨x.1, x.2.1⟩) (fun _ => rfl) (fun _ _ => trivial)
theorem op_Lsa : OpC Try.prog 141 3 Lsa lsaC (fun _ => True) :=
  opMap (opStruct Try.underlying141 (by kernel_rfl) (fsCons rfl (by kernel_rfl) (opInt Try.underlying3) (fsCons rfl (by kernel_rfl) (opInt Try.underlying3) (fsCons rfl (by kernel_rfl) (opSlice Try.underlying139 (by kernel_rfl) (by decide) op_Link) fsNil)))) (fun x => ⟨x.1, x.2.1, x.2.2.1⟩) (fun _ => rfl) (fun _ _ => trivial)
theorem op_Bases : OpC Try.prog 81 1 (List (List Lsa)) (fun b => [.sl 1 (b.map basC)]) (fun b => b.length ≤ 9223372036854775807) :=
  opMapP (opSlice Try.underlying81 (by kernel_rfl) (by decide) (opSlice Try.underlying55 (by kernel_rfl) (by decide) op_Lsa)) (fun x => x) (fun x hx => rfl) (fun x hx => hx.2)
end A
end Go.Proofs.Ytmcannmjielalaa
set_option linter.unusedVariables false
set_option linter.unusedSimpArgs false
namespace Go.Proofs.Ytmcannmjielalaa
namespace A
theorem es_81 : elemSize Try.prog 81 = some 1 := by kernel_rfl
theorem fd_86_0 : fieldOf Try.prog 86 0 = some (0, 1, false) := by kernel_rfl
theorem fd_86_1 : fieldOf Try.prog 86 1 = some (1, 1, false) := by kernel_rfl
theorem sl_81 : isSl Try.prog 81 = true := by kernel_rfl
theorem st_86 : structPlaces Try.prog 86 = some [(0, 1), (1, 1)] := by kernel_rfl
theorem ty_55 : tyOf Try.prog 55 = some (1, false) := by kernel_rfl
theorem ty_86 : tyOf Try.prog 86 = some (2, true) := by kernel_rfl
theorem ze_86 : zeroOf Try.prog 86 = some (.agg #[.slice none 0 0, .int .i64 0]) := by kernel_rfl
/- hop.node -/
set_option maxRecDepth 100000 in
set_option maxHeartbeats 400000 in
theorem hop_node {n : Int} : Triple Try.prog 156 [.int n] [] (Is (.v (.bool (nodeB n))) []) := by
  refine triple_of Try.func156 rfl (by kernel_rfl) rfl (by simp) ?_
  refine aSeq ?_
  refine aReg ?_
  refine sp pMa ?_
  refine oNil ?_
  refine aSeq ?_
  refine aReg ?_
  refine sp pM ?_
  refine sp pB ?_
  refine sp pM ?_
  refine oSplitDec 5 rfl (fun c5 => ?_) (fun c5 => ?_)
  · skip
    refine gp pM ?_
    refine gp pB ?_
    refine sp pK ?_
    refine sp pMa ?_
    refine oNil ?_
    refine aRet ?_
    refine finIs rfl ?_
    unfold nodeB
    simp_all [retOf]
    all_goals omega
  · skip
    refine gf ?_
    refine gf ?_
    refine sp pK ?_
    refine sp pMa ?_
    refine oNil ?_
    refine aRet ?_
    refine finIs rfl ?_
    unfold nodeB
    simp_all [retOf]
    all_goals omega
/- hop.base -/
set_option maxRecDepth 100000 in
set_option maxHeartbeats 400000 in
theorem hop_base {b : List (List Lsa)} {n : Int} (hn : 1 ≤ n) (hbl : b.length < 9223372036854775807) (hb : ∀ x ∈ b, x.length < 9223372036854775807) : Triple Try.prog 159 [.sl 1 (b.map basC), .int n] [] (Is (.sl 3 ((baseM b n).map lsaC)) []) := by
  refine triple_of Try.func159 rfl (by kernel_rfl) rfl (by simp) ?_
  refine aSeq ?_
  refine aReg ?_
  refine sp pMa ?_
  refine oNil ?_
  refine aSeq ?_
  refine aSeq ?_
  refine aReg ?_
  refine sp pM ?_
  refine sp pM ?_
  refine sp (by first | exact pLm sl_81 | exact pLs sl_81) ?_
  refine sp pB ?_
  refine sp pM ?_
  refine oSplitDec 9 rfl (fun c9 => ?_) (fun c9 => ?_)
  · skip
    refine gf ?_
    refine gf ?_
    refine gf ?_
    refine gf ?_
    refine gf ?_
    refine gf ?_
    refine gf ?_
    refine sp pK ?_
    refine oNil ?_
    refine aCondT rfl ?_
    refine aSeq ?_
    refine aReg ?_
    refine sp pMa ?_
    refine oNil ?_
    refine aWeak (weak_nil 141 3) ?_
    refine aWeak (weak_settle (k := 4) (n := 0) (g := none) (c := 0) rfl .hd rfl) ?_
    refine aRet ?_
    refine finIs rfl ?_
    first
      | (rw [base_far (by omega)]; rfl)
      | (rw [base_at hx13]
         have hno : lsdbB 0 x13 = false := by cases h : lsdbB 0 x13 <;> simp_all
         rw [hno]
         rfl)
  · skip
    refine gp pM ?_
    refine gp pM ?_
    refine gp pSu ?_
    first | refine gp (pIx es_81) ?_ | (refine obtSN 10 12 rfl rfl (by omega) (fun x13 hx13 => ?_); refine gp (pIs es_81 hx13) ?_) | (refine obtS 10 12 rfl rfl (by omega) (by omega) (fun x13 hx13 => ?_); refine gp (pIs es_81 hx13) ?_) | refine gp (pIo es_81) ?_
    refine gr (rS1 ty_55) ?_
    refine ga ?_
    refine (cv rfl rfl rfl (lents_refl _) (lsdb_Check_v (db := x13) (hb _ (List.mem_of_getElem? hx13))) ?_).op
    refine gp pB ?_
    refine sp pK ?_
    refine oNil ?_
    refine aCondNe rfl (fun c17 => ?_) (fun c17 => ?_)
    · skip
      refine aSeq ?_
      refine aReg ?_
      refine sp pMa ?_
      refine oNil ?_
      refine aWeak (weak_nil 141 3) ?_
      refine aWeak (weak_settle (k := 4) (n := 0) (g := none) (c := 0) rfl .hd rfl) ?_
      refine aRet ?_
      refine finIs rfl ?_
      first
        | (rw [base_far (by omega)]; rfl)
        | (rw [base_at hx13]
           have hno : lsdbB 0 x13 = false := by cases h : lsdbB 0 x13 <;> simp_all
           rw [hno]
           rfl)
    · skip
      refine aSkip ?_
      refine aSeq ?_
      refine aReg ?_
      refine sp pM ?_
      refine sp pM ?_
      refine sp pSu ?_
      first | refine sp (pIx es_81) ?_ | (refine obtSN 18 20 rfl rfl (by omega) (fun x21 hx21 => ?_); refine sp (pIs es_81 hx21) ?_) | (refine obtS 18 20 rfl rfl (by omega) (by omega) (fun x21 hx21 => ?_); refine sp (pIs es_81 hx21) ?_) | refine sp (pIo es_81) ?_
      refine sr (rS1 ty_55) ?_
      refine sp pMa ?_
      refine oNil ?_
      refine aRet ?_
      refine finIs rfl ?_
      rw [base_at hx13]
      have hyes : lsdbB 0 x13 = true := by cases h : lsdbB 0 x13 <;> simp_all
      rw [hyes]
      rfl
/- waymarkref44.Base -/
set_option maxRecDepth 100000 in
set_option maxHeartbeats 400000 in
theorem ref44_Base {b : List (List Lsa)} {n : Int} (hn : 1 ≤ n) (hbl : b.length < 9223372036854775807) (hb : ∀ x ∈ b, x.length ≤ 4000 ∧ ∀ y ∈ x, y.ls.length ≤ 4000) : Triple Try.prog 80 [.sl 1 (b.map basC), .int n] [] (Is (.sl 3 ((baseM b n).map lsaC)) []) := by
  refine triple_of Try.func80 rfl (by kernel_rfl) rfl (by simp) ?_
  refine aSeq ?_
  refine aReg ?_
  refine sp pMa ?_
  refine oNil ?_
  refine aSeq ?_
  refine aSeq ?_
  refine aReg ?_
  refine sp pM ?_
  refine sp pM ?_
  refine sp (by first | exact pLm sl_81 | exact pLs sl_81) ?_
  refine sp pB ?_
  refine sp pM ?_
  refine oSplitDec 9 rfl (fun c9 => ?_) (fun c9 => ?_)
  · skip
    refine gf ?_
    refine gf ?_
    refine gf ?_
    refine gf ?_
    refine gf ?_
    refine gf ?_
    refine gf ?_
    refine sp pK ?_
    refine oNil ?_
    refine aCondT rfl ?_
    refine aSeq ?_
    refine aReg ?_
    refine sp pMa ?_
    refine oNil ?_
    refine aWeak (weak_nil 141 3) ?_
    refine aWeak (weak_settle (k := 4) (n := 0) (g := none) (c := 0) rfl .hd rfl) ?_
    refine aRet ?_
    refine finIs rfl ?_
    first
      | (rw [base_far (by omega)]; rfl)
      | (rw [base_at hx13]
         have hno : lsdbB 0 x13 = false := by cases h : lsdbB 0 x13 <;> simp_all
         rw [hno]
         rfl)
  · skip
    refine gp pM ?_
    refine gp pM ?_
    refine gp pSu ?_
    first | refine gp (pIx es_81) ?_ | (refine obtSN 10 12 rfl rfl (by omega) (fun x13 hx13 => ?_); refine gp (pIs es_81 hx13) ?_) | (refine obtS 10 12 rfl rfl (by omega) (by omega) (fun x13 hx13 => ?_); refine gp (pIs es_81 hx13) ?_) | refine gp (pIo es_81) ?_
    refine gr (rS1 ty_55) ?_
    refine ga ?_
    refine (cv rfl rfl rfl (lents_refl _) (ref19_May_v (db := x13) (hb _ (List.mem_of_getElem? hx13)).1 (hb _ (List.mem_of_getElem? hx13)).2) ?_).op
    refine gp pNo ?_
    refine sp pK ?_
    refine oNil ?_
    refine aCondNot rfl (fun c17 => ?_) (fun c17 => ?_)
    · skip
      refine aSeq ?_
      refine aReg ?_
      refine sp pMa ?_
      refine oNil ?_
      refine aWeak (weak_nil 141 3) ?_
      refine aWeak (weak_settle (k := 4) (n := 0) (g := none) (c := 0) rfl .hd rfl) ?_
      refine aRet ?_
      refine finIs rfl ?_
      first
        | (rw [base_far (by omega)]; rfl)
        | (rw [base_at hx13]
           have hno : lsdbB 0 x13 = false := by cases h : lsdbB 0 x13 <;> simp_all
           rw [hno]
           rfl)
    · skip
      refine aSkip ?_
      refine aSeq ?_
      refine aReg ?_
      refine sp pM ?_
      refine sp pM ?_
      refine sp pSu ?_
      first | refine sp (pIx es_81) ?_ | (refine obtSN 18 20 rfl rfl (by omega) (fun x21 hx21 => ?_); refine sp (pIs es_81 hx21) ?_) | (refine obtS 18 20 rfl rfl (by omega) (by omega) (fun x21 hx21 => ?_); refine sp (pIs es_81 hx21) ?_) | refine sp (pIo es_81) ?_
      refine sr (rS1 ty_55) ?_
      refine sp pMa ?_
      refine oNil ?_
      refine aRet ?_
      refine finIs rfl ?_
      rw [base_at hx13]
      have hyes : lsdbB 0 x13 = true := by cases h : lsdbB 0 x13 <;> simp_all
      rw [hyes]
      rfl
/- hop.via -/
set_option maxRecDepth 100000 in
set_option maxHeartbeats 400000 in
theorem hop_via {b : List (List Lsa)} {v td : Int} (hv : 1 ≤ v) (hbl : b.length < 9223372036854775807) (hb : ∀ x ∈ b, x.length < 9223372036854775807) : Triple Try.prog 157 [.sl 1 (b.map basC), .int v, .int td] [] (Is (findT2 (rtsDb (baseM b v) v) td) []) := by
  have hbm := base_len b v
  have hrl := rtsDb_len (baseM b v) v
  refine triple_ofR Try.func157 rfl (by kernel_rfl) rfl (by simp) ?_
  refine aSeq ?_
  refine aReg ?_
  refine sq ?_
  refine qAlloc rfl rfl (by decide) ze_49 rfl (fun b6 => ?_)
  refine sp pMa ?_
  refine oNil ?_
  refine aSeq ?_
  refine aReg ?_
  refine sp pM ?_
  refine sp pM ?_
  refine sq ?_
  refine ci rfl rfl rfl (hop_base (b := b) (n := v) hv hbl hb) ?_
  refine sp pM ?_
  refine sq ?_
  refine ci rfl rfl rfl (route_Of (db := baseM b v) (me := v) (by omega)) ?_
  refine sp pM ?_
  refine sq ?_
  refine ci rfl rfl rfl (route_Find (rs := rtsDb (baseM b v) v) (n := td) (by omega)) ?_
  unfold findT2
  refine sp pX ?_
  refine sp pX ?_
  refine sa ?_
  refine oStW rfl rfl rfl rfl (by repeat constructor) ty_49 ?_
  refine sp pMa ?_
  refine oNil ?_
  refine aRet ?_
  refine finRIs (l := [.agg (rtC (findG (rtsDb (baseM b v) v) td)), .v (.bool (findR (rtsDb (baseM b v) v) td).isSome)]) (.cons (.cellA rfl (by repeat (first | exact List.mem_cons_self | apply List.mem_cons_of_mem)) ty_49) (.cons (.tmp rfl) .nil)) ?_
  rfl
/- hop.Go -/
set_option maxRecDepth 100000 in
set_option maxHeartbeats 4000000 in
theorem hop_GoO {b : List (List Lsa)} {fr td hops : Int} (hbl : b.length < 9223372036854775807) (hb : ∀ x ∈ b, x.length < 9223372036854775807) : Triple Try.prog 76 [.sl 1 (b.map basC), .int fr, .int td, .int hops] [] (fun q h' => ∃ g c, q = .agg [.v (slV g (goW b fr td hops).1.length c), .int (goW b fr td hops).2] ∧ h' = [.sl g c 3 1 ((goW b fr td hops).1.map intA)]) := by
  refine triple_ofR Try.func76 rfl (by kernel_rfl) rfl (by simp) ?_
  refine aSeq ?_
  refine aReg ?_
  refine sq ?_
  refine qAlloc rfl rfl (by decide) ze_86 rfl (fun b8 => ?_)
  refine oNil ?_
  refine aSeq ?_
  refine aSeq ?_
  refine aReg ?_
  refine sp pM ?_
  refine sq ?_
  refine cv rfl rfl rfl (lents_refl _) hop_node ?_
  refine sp pNo ?_
  refine sp pM ?_
  refine oSplitNot 17 rfl (fun c17 => ?_) (fun c17 => ?_)
  · skip
    refine gf ?_
    refine gf ?_
    refine gf ?_
    refine sp pK ?_
    refine oNil ?_
    refine aCondT rfl ?_
    refine aSeq ?_
    have hno : (goW b fr td hops) = ([], 0) := by unfold goW; rw [if_neg (by simp_all)]
    refine aWeak (weak_nil 3 1) ?_
    refine aReg ?_
    refine sp (pBuild rfl st_86 ze_86 rfl rfl rfl rfl) ?_
    refine sa ?_
    refine oStW rfl rfl rfl rfl (by repeat constructor) ty_86 ?_
    refine oNil ?_
    refine aRet ?_
    exact ⟨[.agg [.v (slV none 0 0), .int 0]], [.sl none 0 3 1 ([])], _, .cons (.cellA rfl (by repeat (first | exact List.mem_cons_self | apply List.mem_cons_of_mem)) ty_86) .nil, (by repeat constructor), none, 0, by rw [hno]; rfl, by rw [hno]; rfl⟩
  · skip
    refine gp pM ?_
    refine ga ?_
    refine (cv rfl rfl rfl (lents_refl _) hop_node ?_).op
    refine gp pNo ?_
    refine sp pK ?_
    refine oNil ?_
    refine aCondNot rfl (fun c21 => ?_) (fun c21 => ?_)
    · skip
      refine aSeq ?_
      have hno : (goW b fr td hops) = ([], 0) := by unfold goW; rw [if_neg (by simp_all)]
      refine aWeak (weak_nil 3 1) ?_
      refine aReg ?_
      refine sp (pBuild rfl st_86 ze_86 rfl rfl rfl rfl) ?_
      refine sa ?_
      refine oStW rfl rfl rfl rfl (by repeat constructor) ty_86 ?_
      refine oNil ?_
      refine aRet ?_
      exact ⟨[.agg [.v (slV none 0 0), .int 0]], [.sl none 0 3 1 ([])], _, .cons (.cellA rfl (by repeat (first | exact List.mem_cons_self | apply List.mem_cons_of_mem)) ty_86) .nil, (by repeat constructor), none, 0, by rw [hno]; rfl, by rw [hno]; rfl⟩
    · skip
      refine aSkip ?_
      refine aSeq ?_
      have hyes : nodeB fr = true ∧ nodeB td = true := by simp_all
      have hfr := nodeB_iff.1 hyes.1
      refine aReg ?_
      refine sp pM ?_
      refine sq ?_
      refine qLit (l := [_]) rfl rfl (by decide) us_25 ty_3 ze_3 rfl (by decide) (by decide) rfl rfl rfl (fun b24 => ?_)
      refine sp (pBuild rfl st_86 ze_86 rfl rfl rfl rfl) ?_
      refine sq ?_
      refine qAlloc rfl rfl (by decide) ze_86 rfl (fun b9 => ?_)
      refine sa ?_
      refine oStW rfl rfl rfl rfl (by repeat constructor) ty_86 ?_
      refine oNil ?_
      refine aSeq ?_
      refine aReg ?_
      refine sp pM ?_
      refine sp pMax ?_
      refine sp pMin ?_
      refine sp pMa ?_
      refine oNil ?_
      refine aSeq ?_
      refine aSeq ?_
      refine aReg ?_
      refine sp pM ?_
      refine sp pMa ?_
      refine oNil ?_
      refine aBlock ?_
      refine loopF (α := List Int × Int × Int × Int × Option Nat × Nat) (kept := [(0, _), (2, _), (8, _), (9, _)]) (fun (L, v, lf, en, g, c) => L.length ≤ 65 ∧ -1 ≤ lf ∧ lf ≤ 64 ∧ (en = 0 ∧ 0 ≤ lf ∧ 1 ≤ v ∧ v ≤ 64 ∧ L.length + lf ≤ 65 ∧ (∃ p, L = p ++ [v] ∧ (goM b td (hopsN hops) fr) = (p ++ (goM b td lf.toNat v).1, (goM b td lf.toNat v).2)) ∨ 1 ≤ en ∧ (goM b td (hopsN hops) fr) = (L, en))) (fun (L, v, lf, en, g, c) => [(11, .int v), (10, .int lf)]) (fun (L, v, lf, en, g, c) => [.box b9 [.v (slV g L.length c), .int en], .sl g c 3 1 (L.map intA)]) (fun (L, v, lf, en, g, c) => (if en = 0 then lf.toNat + 1 else 0)) ([fr], fr, min (max hops 0) 64, 0, _, _) ?_ ⟨gInt rfl (by first | rfl | omega | simp), gInt rfl (by first | rfl | omega | simp), rfl, rfl, rfl, rfl, trivial⟩ (by repeat constructor) ?_
      · skip
        exact ⟨by simp, by omega, by omega, .inl ⟨rfl, by omega, hfr.1, hfr.2, by simp; omega, [], rfl, rfl⟩⟩
      · rintro ⟨L, v, lf, en, g, c⟩ ⟨hL, hlf1, hlf2, hst⟩
        refine aSeq ?_
        refine aSeq ?_
        refine aReg ?_
        refine sp (pFb fd_86_1) ?_
        refine sr (rB1 ty_3) ?_
        refine sp pB ?_
        refine oNil ?_
        refine aCondEq rfl (fun c32 => ?_) (fun c32 => ?_)
        · skip
          refine aSkip ?_
          refine aSeq ?_
          refine aBlock ?_
          refine aSeq ?_
          have hen : en = 0 := by assumption
          subst hen
          have hst0 : 0 ≤ lf ∧ 1 ≤ v ∧ v ≤ 64 ∧ L.length + lf ≤ 65 ∧ (∃ p, L = p ++ [v] ∧ (goM b td (hopsN hops) fr) = (p ++ (goM b td lf.toNat v).1, (goM b td lf.toNat v).2)) := by
            rcases hst with h | h
            · exact h.2
            · omega
          obtain ⟨hlf0, hv1, hv2, hLl, hst⟩ := hst0
          refine aReg ?_
          refine sp pM ?_
          refine sp pM ?_
          refine sp pM ?_
          refine sq ?_
          refine ci rfl rfl rfl (hop_via (b := b) (v := v) (td := td) (by omega) hbl hb) ?_
          unfold findT2
          refine sp pM ?_
          refine sp pX ?_
          refine sp pX ?_
          refine sq ?_
          refine qAlloc rfl rfl (by decide) ze_49 rfl (fun b12 => ?_)
          refine sa ?_
          refine oStW rfl rfl rfl rfl (by repeat constructor) ty_49 ?_
          refine sp pMa ?_
          refine oNil ?_
          refine aBlock ?_
          refine aSeq ?_
          refine aReg ?_
          refine sp pM ?_
          refine sp pM ?_
          refine sp pB ?_
          refine sp pMa ?_
          refine oNil ?_
          refine aCondEq rfl (fun c50 => ?_) (fun c50 => ?_)
          · skip
            refine aReg ?_
            refine sp (pFb fd_86_1) ?_
            refine sa ?_
            refine oStB rfl rfl rfl rfl (by repeat constructor) ty_3 rfl (Nat.le_of_ble_eq_true rfl) rfl ?_
            refine oNil ?_
            refine aReg ?_
            refine sp pM ?_
            refine sp pSu ?_
            refine sp pMa ?_
            refine oNil ?_
            first
              | (refine ⟨(L, v, lf - 1, 1, g, c), ?_, by (try dsimp only); (first | (rw [if_neg (by decide), if_pos rfl]; omega) | (rw [if_pos rfl, if_pos rfl]; omega)), ⟨gInt rfl (by first | rfl | omega | simp), gInt rfl (by first | rfl | omega | simp), rfl, rfl, rfl, rfl, trivial⟩, _, (by repeat constructor)⟩
                 refine ⟨by omega, by omega, by omega, .inr ⟨by omega, ?_⟩⟩
                 obtain ⟨p, hp, hR⟩ := hst
                 rw [hR, hp]
                 have e : v = td := by assumption
                 rw [e, goM_here])
              | (refine ⟨(L, v, lf - 1, 3, g, c), ?_, by (try dsimp only); (first | (rw [if_neg (by decide), if_pos rfl]; omega) | (rw [if_pos rfl, if_pos rfl]; omega)), ⟨gInt rfl (by first | rfl | omega | simp), gInt rfl (by first | rfl | omega | simp), rfl, rfl, rfl, rfl, trivial⟩, _, (by repeat constructor)⟩
                 refine ⟨by omega, by omega, by omega, .inr ⟨by omega, ?_⟩⟩
                 obtain ⟨p, hp, hR⟩ := hst
                 rw [hR, hp]
                 have e : lf.toNat = 0 := by omega
                 rw [e, goM_spent (by assumption)])
              | (refine ⟨(L, v, lf - 1, 2, g, c), ?_, by (try dsimp only); (first | (rw [if_neg (by decide), if_pos rfl]; omega) | (rw [if_pos rfl, if_pos rfl]; omega)), ⟨gInt rfl (by first | rfl | omega | simp), gInt rfl (by first | rfl | omega | simp), rfl, rfl, rfl, rfl, trivial⟩, _, (by repeat constructor)⟩
                 refine ⟨by omega, by omega, by omega, .inr ⟨by omega, ?_⟩⟩
                 obtain ⟨p, hp, hR⟩ := hst
                 rw [hR, hp]
                 have e : lf.toNat = (lf - 1).toNat + 1 := by omega
                 rw [e, goM_lost (by assumption) (by assumption)])
              | (refine ⟨(L ++ [(findG (rtsDb (baseM b v) v) td).via], (findG (rtsDb (baseM b v) v) td).via, lf - 1, 0, _, _), ?_, by (try dsimp only); (first | (rw [if_neg (by decide), if_pos rfl]; omega) | (rw [if_pos rfl, if_pos rfl]; omega)), ⟨gInt rfl (by first | rfl | omega | simp), gInt rfl (by first | rfl | omega | simp), rfl, rfl, rfl, rfl, trivial⟩, _, (by repeat constructor)⟩
                 have hsome : (findR (rtsDb (baseM b v) v) td).isSome = true := by assumption
                 have hvia := find_via hsome
                 obtain ⟨p, hp, hR⟩ := hst
                 refine ⟨by rw [List.length_append, List.length_singleton]; omega, by omega, by omega, .inl ⟨rfl, by omega, hvia.1, hvia.2, by rw [List.length_append, List.length_singleton]; omega, p ++ [v], by rw [hp], ?_⟩⟩
                 rw [hR, show lf.toNat = (lf - 1).toNat + 1 by omega, goM_step (by assumption) hsome]
                 simp)
          · skip
            refine aSeq ?_
            refine aReg ?_
            refine sp pM ?_
            refine sp pB ?_
            refine sp pMa ?_
            refine oNil ?_
            refine aCondEq rfl (fun c55 => ?_) (fun c55 => ?_)
            · skip
              refine aReg ?_
              refine sp (pFb fd_86_1) ?_
              refine sa ?_
              refine oStB rfl rfl rfl rfl (by repeat constructor) ty_3 rfl (Nat.le_of_ble_eq_true rfl) rfl ?_
              refine oNil ?_
              refine aReg ?_
              refine sp pM ?_
              refine sp pSu ?_
              refine sp pMa ?_
              refine oNil ?_
              first
                | (refine ⟨(L, v, lf - 1, 1, g, c), ?_, by (try dsimp only); (first | (rw [if_neg (by decide), if_pos rfl]; omega) | (rw [if_pos rfl, if_pos rfl]; omega)), ⟨gInt rfl (by first | rfl | omega | simp), gInt rfl (by first | rfl | omega | simp), rfl, rfl, rfl, rfl, trivial⟩, _, (by repeat constructor)⟩
                   refine ⟨by omega, by omega, by omega, .inr ⟨by omega, ?_⟩⟩
                   obtain ⟨p, hp, hR⟩ := hst
                   rw [hR, hp]
                   have e : v = td := by assumption
                   rw [e, goM_here])
                | (refine ⟨(L, v, lf - 1, 3, g, c), ?_, by (try dsimp only); (first | (rw [if_neg (by decide), if_pos rfl]; omega) | (rw [if_pos rfl, if_pos rfl]; omega)), ⟨gInt rfl (by first | rfl | omega | simp), gInt rfl (by first | rfl | omega | simp), rfl, rfl, rfl, rfl, trivial⟩, _, (by repeat constructor)⟩
                   refine ⟨by omega, by omega, by omega, .inr ⟨by omega, ?_⟩⟩
                   obtain ⟨p, hp, hR⟩ := hst
                   rw [hR, hp]
                   have e : lf.toNat = 0 := by omega
                   rw [e, goM_spent (by assumption)])
                | (refine ⟨(L, v, lf - 1, 2, g, c), ?_, by (try dsimp only); (first | (rw [if_neg (by decide), if_pos rfl]; omega) | (rw [if_pos rfl, if_pos rfl]; omega)), ⟨gInt rfl (by first | rfl | omega | simp), gInt rfl (by first | rfl | omega | simp), rfl, rfl, rfl, rfl, trivial⟩, _, (by repeat constructor)⟩
                   refine ⟨by omega, by omega, by omega, .inr ⟨by omega, ?_⟩⟩
                   obtain ⟨p, hp, hR⟩ := hst
                   rw [hR, hp]
                   have e : lf.toNat = (lf - 1).toNat + 1 := by omega
                   rw [e, goM_lost (by assumption) (by assumption)])
                | (refine ⟨(L ++ [(findG (rtsDb (baseM b v) v) td).via], (findG (rtsDb (baseM b v) v) td).via, lf - 1, 0, _, _), ?_, by (try dsimp only); (first | (rw [if_neg (by decide), if_pos rfl]; omega) | (rw [if_pos rfl, if_pos rfl]; omega)), ⟨gInt rfl (by first | rfl | omega | simp), gInt rfl (by first | rfl | omega | simp), rfl, rfl, rfl, rfl, trivial⟩, _, (by repeat constructor)⟩
                   have hsome : (findR (rtsDb (baseM b v) v) td).isSome = true := by assumption
                   have hvia := find_via hsome
                   obtain ⟨p, hp, hR⟩ := hst
                   refine ⟨by rw [List.length_append, List.length_singleton]; omega, by omega, by omega, .inl ⟨rfl, by omega, hvia.1, hvia.2, by rw [List.length_append, List.length_singleton]; omega, p ++ [v], by rw [hp], ?_⟩⟩
                   rw [hR, show lf.toNat = (lf - 1).toNat + 1 by omega, goM_step (by assumption) hsome]
                   simp)
            · skip
              refine aSeq ?_
              refine aReg ?_
              refine sp pM ?_
              refine sp pNo ?_
              refine sp pMa ?_
              refine oNil ?_
              refine aCondNot rfl (fun c59 => ?_) (fun c59 => ?_)
              · skip
                refine aReg ?_
                refine sp (pFb fd_86_1) ?_
                refine sa ?_
                refine oStB rfl rfl rfl rfl (by repeat constructor) ty_3 rfl (Nat.le_of_ble_eq_true rfl) rfl ?_
                refine oNil ?_
                refine aReg ?_
                refine sp pM ?_
                refine sp pSu ?_
                refine sp pMa ?_
                refine oNil ?_
                first
                  | (refine ⟨(L, v, lf - 1, 1, g, c), ?_, by (try dsimp only); (first | (rw [if_neg (by decide), if_pos rfl]; omega) | (rw [if_pos rfl, if_pos rfl]; omega)), ⟨gInt rfl (by first | rfl | omega | simp), gInt rfl (by first | rfl | omega | simp), rfl, rfl, rfl, rfl, trivial⟩, _, (by repeat constructor)⟩
                     refine ⟨by omega, by omega, by omega, .inr ⟨by omega, ?_⟩⟩
                     obtain ⟨p, hp, hR⟩ := hst
                     rw [hR, hp]
                     have e : v = td := by assumption
                     rw [e, goM_here])
                  | (refine ⟨(L, v, lf - 1, 3, g, c), ?_, by (try dsimp only); (first | (rw [if_neg (by decide), if_pos rfl]; omega) | (rw [if_pos rfl, if_pos rfl]; omega)), ⟨gInt rfl (by first | rfl | omega | simp), gInt rfl (by first | rfl | omega | simp), rfl, rfl, rfl, rfl, trivial⟩, _, (by repeat constructor)⟩
                     refine ⟨by omega, by omega, by omega, .inr ⟨by omega, ?_⟩⟩
                     obtain ⟨p, hp, hR⟩ := hst
                     rw [hR, hp]
                     have e : lf.toNat = 0 := by omega
                     rw [e, goM_spent (by assumption)])
                  | (refine ⟨(L, v, lf - 1, 2, g, c), ?_, by (try dsimp only); (first | (rw [if_neg (by decide), if_pos rfl]; omega) | (rw [if_pos rfl, if_pos rfl]; omega)), ⟨gInt rfl (by first | rfl | omega | simp), gInt rfl (by first | rfl | omega | simp), rfl, rfl, rfl, rfl, trivial⟩, _, (by repeat constructor)⟩
                     refine ⟨by omega, by omega, by omega, .inr ⟨by omega, ?_⟩⟩
                     obtain ⟨p, hp, hR⟩ := hst
                     rw [hR, hp]
                     have e : lf.toNat = (lf - 1).toNat + 1 := by omega
                     rw [e, goM_lost (by assumption) (by assumption)])
                  | (refine ⟨(L ++ [(findG (rtsDb (baseM b v) v) td).via], (findG (rtsDb (baseM b v) v) td).via, lf - 1, 0, _, _), ?_, by (try dsimp only); (first | (rw [if_neg (by decide), if_pos rfl]; omega) | (rw [if_pos rfl, if_pos rfl]; omega)), ⟨gInt rfl (by first | rfl | omega | simp), gInt rfl (by first | rfl | omega | simp), rfl, rfl, rfl, rfl, trivial⟩, _, (by repeat constructor)⟩
                     have hsome : (findR (rtsDb (baseM b v) v) td).isSome = true := by assumption
                     have hvia := find_via hsome
                     obtain ⟨p, hp, hR⟩ := hst
                     refine ⟨by rw [List.length_append, List.length_singleton]; omega, by omega, by omega, .inl ⟨rfl, by omega, hvia.1, hvia.2, by rw [List.length_append, List.length_singleton]; omega, p ++ [v], by rw [hp], ?_⟩⟩
                     rw [hR, show lf.toNat = (lf - 1).toNat + 1 by omega, goM_step (by assumption) hsome]
                     simp)
              · skip
                refine aSeq ?_
                refine aReg ?_
                refine sp (pFb fd_49_1) ?_
                refine sr (rB1 ty_3) ?_
                refine sp pMa ?_
                refine oNil ?_
                refine aReg ?_
                refine sp (pFb fd_86_0) ?_
                refine sr (rB1 ty_25) ?_
                refine sp pM ?_
                refine sq ?_
                refine qLit (l := [_]) rfl rfl (by decide) us_25 ty_3 ze_3 rfl (by decide) (by decide) rfl rfl rfl (fun b47 => ?_)
                refine sa ?_
                refine oAppT ([(findG (rtsDb (baseM b v) v) td).via] : List Int) rfl rfl (by repeat constructor) (srcOwn rfl (by repeat constructor) rfl) el_25 sl_25 (fun g48 k48 => ?_)
                refine sp (pFb fd_86_0) ?_
                refine sa ?_
                refine oStB rfl rfl rfl rfl (by repeat constructor) ty_25 rfl (Nat.le_of_ble_eq_true rfl) rfl ?_
                refine oNil ?_
                refine aReg ?_
                refine sp pM ?_
                refine sp pSu ?_
                refine sp pMa ?_
                refine oNil ?_
                first
                  | (refine ⟨(L, v, lf - 1, 1, g, c), ?_, by (try dsimp only); (first | (rw [if_neg (by decide), if_pos rfl]; omega) | (rw [if_pos rfl, if_pos rfl]; omega)), ⟨gInt rfl (by first | rfl | omega | simp), gInt rfl (by first | rfl | omega | simp), rfl, rfl, rfl, rfl, trivial⟩, _, (by repeat constructor)⟩
                     refine ⟨by omega, by omega, by omega, .inr ⟨by omega, ?_⟩⟩
                     obtain ⟨p, hp, hR⟩ := hst
                     rw [hR, hp]
                     have e : v = td := by assumption
                     rw [e, goM_here])
                  | (refine ⟨(L, v, lf - 1, 3, g, c), ?_, by (try dsimp only); (first | (rw [if_neg (by decide), if_pos rfl]; omega) | (rw [if_pos rfl, if_pos rfl]; omega)), ⟨gInt rfl (by first | rfl | omega | simp), gInt rfl (by first | rfl | omega | simp), rfl, rfl, rfl, rfl, trivial⟩, _, (by repeat constructor)⟩
                     refine ⟨by omega, by omega, by omega, .inr ⟨by omega, ?_⟩⟩
                     obtain ⟨p, hp, hR⟩ := hst
                     rw [hR, hp]
                     have e : lf.toNat = 0 := by omega
                     rw [e, goM_spent (by assumption)])
                  | (refine ⟨(L, v, lf - 1, 2, g, c), ?_, by (try dsimp only); (first | (rw [if_neg (by decide), if_pos rfl]; omega) | (rw [if_pos rfl, if_pos rfl]; omega)), ⟨gInt rfl (by first | rfl | omega | simp), gInt rfl (by first | rfl | omega | simp), rfl, rfl, rfl, rfl, trivial⟩, _, (by repeat constructor)⟩
                     refine ⟨by omega, by omega, by omega, .inr ⟨by omega, ?_⟩⟩
                     obtain ⟨p, hp, hR⟩ := hst
                     rw [hR, hp]
                     have e : lf.toNat = (lf - 1).toNat + 1 := by omega
                     rw [e, goM_lost (by assumption) (by assumption)])
                  | (refine ⟨(L ++ [(findG (rtsDb (baseM b v) v) td).via], (findG (rtsDb (baseM b v) v) td).via, lf - 1, 0, _, _), ?_, by (try dsimp only); (first | (rw [if_neg (by decide), if_pos rfl]; omega) | (rw [if_pos rfl, if_pos rfl]; omega)), ⟨gInt rfl (by first | rfl | omega | simp), gInt rfl (by first | rfl | omega | simp), rfl, rfl, rfl, rfl, trivial⟩, _, (by repeat constructor)⟩
                     have hsome : (findR (rtsDb (baseM b v) v) td).isSome = true := by assumption
                     have hvia := find_via hsome
                     obtain ⟨p, hp, hR⟩ := hst
                     refine ⟨by rw [List.length_append, List.length_singleton]; omega, by omega, by omega, .inl ⟨rfl, by omega, hvia.1, hvia.2, by rw [List.length_append, List.length_singleton]; omega, p ++ [v], by rw [hp], ?_⟩⟩
                     rw [hR, show lf.toNat = (lf - 1).toNat + 1 by omega, goM_step (by assumption) hsome]
                     simp)
        · skip
          refine aExit rfl ?_
          refine aSeq ?_
          refine aReg ?_
          refine sr (by first | exact rBWa ty_86 | exact rBW ty_86 | exact rBA ty_86) ?_
          refine sa ?_
          refine oStW rfl rfl rfl rfl (by repeat constructor) ty_86 ?_
          refine oNil ?_
          have hend : (goW b fr td hops) = (L, en) := by
            unfold goW
            rw [if_pos (by simp_all)]
            rcases hst with h | h
            · exact absurd h.1 (by assumption)
            · exact h.2
          refine aRet ?_
          exact ⟨[.agg [.v (slV g L.length c), .int en]], [.sl g c 3 1 (L.map intA)], _, .cons (.cellA rfl (by repeat (first | exact List.mem_cons_self | apply List.mem_cons_of_mem)) ty_86) .nil, (by repeat constructor), g, c, by rw [hend]; rfl, by rw [hend]⟩
theorem hop_Go_s {b : List (List Lsa)} {fr td hops : Int} (hbl : b.length < 9223372036854775807) (hb : ∀ x ∈ b, x.length < 9223372036854775807) : Triple Try.prog 76 [.sl 1 (b.map basC), .int fr, .int td, .int hops] [] (Is (.agg [.sl 1 ((goW b fr td hops).1.map intA), .int (goW b fr td hops).2]) []) :=
  (hop_GoO (b := b) (fr := fr) (td := td) (hops := hops) hbl hb).deep fun q h' ⟨g, c, hq, hh⟩ => ⟨_, [.sl g c 3 1 ((goW b fr td hops).1.map intA)], [], by subst hh; exact .cons .hd .nil, by subst hq; exact .agg (.sl List.mem_cons_self (by rw [List.length_map]) Deep.refl (.same (.row .nil))) (.row .nil), rfl, rfl⟩
def okW (b : List (List Lsa)) (fr td hops : Int) : Bool := decide ((goW b fr td hops).2 = 1)
def sumW (b : List (List Lsa)) (fr td hops : Int) : Int := if okW b fr td hops then sumI b (goW b fr td hops).1 ((goW b fr td hops).1.length - 1) else 0
def cosW (b : List (List Lsa)) (fr td hops : Int) : Int := if okW b fr td hops then (findG (rtsDb (baseM b fr) fr) td).c else 0
theorem okW_yes {b : List (List Lsa)} {fr td hops : Int} (h : (goW b fr td hops).2 = 1) : okW b fr td hops = true ∧ sumW b fr td hops = sumI b (goW b fr td hops).1 ((goW b fr td hops).1.length - 1) ∧ cosW b fr td hops = (findG (rtsDb (baseM b fr) fr) td).c := by
  have : okW b fr td hops = true := decide_eq_true h
  unfold sumW cosW
  rw [this]
  exact ⟨rfl, rfl, rfl⟩
theorem okW_no {b : List (List Lsa)} {fr td hops : Int} (h : (goW b fr td hops).2 ≠ 1) : okW b fr td hops = false ∧ sumW b fr td hops = 0 ∧ cosW b fr td hops = 0 := by
  have : okW b fr td hops = false := decide_eq_false h
  unfold sumW cosW
  rw [this]
  exact ⟨rfl, rfl, rfl⟩
/- hop.Stretch -/
def hop_Stretch_r9_T : Bool × List (List Nat × List Nat) := (true, [([], []), ([], []), ([], []), ([2], [2]), ([], []), ([4], [4]), ([3, 5], [3, 5]), ([6], [6]), ([1, 7], [1, 7]), ([8], [8]), ([0, 9, 8], [0, 9]), ([10, 10, 0, 1, 2, 3, 4, 5, 6, 7, 8, 9, 10], [0, 10])])
def hop_Stretch_r9_B : List Nat := [0, 0, 0, 4, 0, 16, 60, 124, 254, 510, 1023, 2047]
theorem hop_Stretch_r9_t : Go.Proofs.YtmcannmjielalaaW.PrintLast.rtab .any (Go.Proofs.YtmcannmjielalaaW.PrintLast.opsOf Try.f77 9) = hop_Stretch_r9_T := by kernel_rfl
theorem hop_Stretch_r9_b : Go.Proofs.YtmcannmjielalaaW.PrintLast.waitsOk hop_Stretch_r9_T.2 hop_Stretch_r9_B = true := by kernel_rfl
def hop_Stretch_r12_T : Bool × List (List Nat × List Nat) := (true, [([], []), ([], []), ([1], [1]), ([0, 0], [0]), ([2, 3, 0, 1, 2, 3], [2]), ([4, 0, 1, 2, 3, 4], [])])
def hop_Stretch_r12_B : List Nat := [0, 0, 2, 1, 15, 31]
theorem hop_Stretch_r12_t : Go.Proofs.YtmcannmjielalaaW.PrintLast.rtab .any (Go.Proofs.YtmcannmjielalaaW.PrintLast.opsOf Try.f77 12) = hop_Stretch_r12_T := by kernel_rfl
theorem hop_Stretch_r12_b : Go.Proofs.YtmcannmjielalaaW.PrintLast.waitsOk hop_Stretch_r12_T.2 hop_Stretch_r12_B = true := by kernel_rfl
set_option maxRecDepth 100000 in
set_option maxHeartbeats 2000000 in
theorem hop_Stretch {b : List (List Lsa)} {fr td hops : Int} (hbl : b.length < 9223372036854775807) (hb : ∀ x ∈ b, x.length < 9223372036854775807) : Triple Try.prog 77 [.sl 1 (b.map basC), .int fr, .int td, .int hops] [] (Is (.tup [.v (.int .u64 (sumW b fr td hops)), .v (.int .u64 (cosW b fr td hops)), .v (.bool (okW b fr td hops))]) []) := by
  have hWl := goW_len b fr td hops
  have hWr := goW_rng (b := b) (fr := fr) (td := td) (hops := hops)
  refine triple_of Try.func77 rfl (by kernel_rfl) rfl (by simp) ?_
  refine aSeq ?_
  refine aReg ?_
  refine sp pMa ?_
  refine sp pMa ?_
  refine sp pMa ?_
  refine oNil ?_
  refine aSeq ?_
  refine aReg ?_
  refine sp pM ?_
  refine sp pM ?_
  refine sp pM ?_
  refine sp pM ?_
  refine sq ?_
  refine ci rfl rfl rfl (hop_Go_s (b := b) (fr := fr) (td := td) (hops := hops) hbl hb) ?_
  refine sq ?_
  refine qAlloc rfl rfl (by decide) ze_86 rfl (fun b11 => ?_)
  refine sa ?_
  refine oStW rfl rfl rfl rfl (by repeat constructor) ty_86 ?_
  refine oNil ?_
  refine aSeq ?_
  refine aSeq ?_
  refine aReg ?_
  refine sp (pFb fd_86_1) ?_
  refine sr (rB1 ty_3) ?_
  refine sp pB ?_
  refine oNil ?_
  refine aCondNe rfl (fun c26 => ?_) (fun c26 => ?_)
  · skip
    refine aSeq ?_
    obtain ⟨ho1, ho2, ho3⟩ := okW_no (b := b) (fr := fr) (td := td) (hops := hops) (by assumption)
    refine aReg ?_
    refine sp pMa ?_
    refine sp pMa ?_
    refine sp pMa ?_
    refine oNil ?_
    refine aRet ?_
    refine finIs rfl ?_
    rw [ho1, ho2, ho3]
    rfl
  · skip
    refine aSkip ?_
    refine aSeq ?_
    have hone : (goW b fr td hops).2 = 1 := by simp_all
    obtain ⟨ho1, ho2, ho3⟩ := okW_yes hone
    have hW1 := goW_one hone
    refine aReg ?_
    refine sp pMa ?_
    refine oNil ?_
    refine aSeq ?_
    refine aSeq ?_
    refine aReg ?_
    refine sp (pFb fd_86_0) ?_
    refine sr (rB1 ty_25) ?_
    refine sp (pFb fd_86_0) ?_
    refine sr (rB1 ty_25) ?_
    refine sp (by first | exact pLm sl_25 | exact pLs sl_25 | exact pLv sl_25) ?_
    refine sp pSu ?_
    rw [show ((goW b fr td hops).1.length : Int) - 1 = (((goW b fr td hops).1.length - 1 : Nat) : Int) by omega]
    refine sp (pSlice rfl rfl es_25 (bdN rfl) (bdI rfl) (by first | omega | (simp only [List.length_map]; omega)) (by first | omega | (simp only [List.length_map]; omega))) ?_
    rw [show (((goW b fr td hops).1.map intA).drop 0).take ((goW b fr td hops).1.length - 1 - 0) = ((goW b fr td hops).1.take ((goW b fr td hops).1.length - 1)).map intA by rw [List.drop_zero, Nat.sub_zero, List.map_take]]
    refine sp (by first | exact pLm sl_25 | exact pLs sl_25 | exact pLv sl_25) ?_
    rw [show (List.take ((goW b fr td hops).1.length - 1) (goW b fr td hops).1).length = (goW b fr td hops).1.length - 1 by rw [List.length_take]; omega]
    refine sp pM ?_
    refine oNil ?_
    refine aBlock ?_
    refine loopF (α := Nat × Int) (kept := [(0, _), (1, _), (2, _), (11, _), (33, _), (34, _)]) (fun (i, s) => i ≤ (goW b fr td hops).1.length - 1 ∧ s = sumI b (goW b fr td hops).1 i) (fun (i, s) => [(35, .int i), (12, .v (.int .u64 s))]) (fun (i, s) => []) (fun (i, s) => (goW b fr td hops).1.length - i) (0, 0) ?_ ⟨gInt rfl (by first | rfl | omega | simp), rfl, rfl, rfl, rfl, rfl, rfl, rfl, trivial⟩ (by repeat constructor) ?_
    · skip
      exact ⟨by omega, rfl⟩
    · rintro ⟨i, s⟩ ⟨hi, hs⟩
      refine aSeq ?_
      refine aReg ?_
      refine sp pB ?_
      refine oNil ?_
      refine aSeq ?_
      refine aCondDec rfl (fun c36 => ?_) (fun c36 => ?_)
      · skip
        refine aSkip ?_
        refine aSeq ?_
        refine aBlock ?_
        refine aSeq ?_
        obtain ⟨x, hx⟩ : ∃ z, (goW b fr td hops).1[i]? = some z := ⟨_, List.getElem?_eq_getElem (by omega)⟩
        obtain ⟨y, hy⟩ : ∃ z, (goW b fr td hops).1[i + 1]? = some z := ⟨_, List.getElem?_eq_getElem (by omega)⟩
        have hxr := hWr x (List.mem_of_getElem? hx)
        have hst := sumI_step (b := b) hx hy
        have hs1 := sumI_range b (goW b fr td hops).1 i
        have hs2 : 0 ≤ costL (getL (baseM b x) x).ls y ∧ costL (getL (baseM b x) x).ls y ≤ 1073741824 := stepC_range b x y
        have hs3 : stepC b x y = costL (getL (baseM b x) x).ls y := rfl
        have hxt : ((goW b fr td hops).1.take ((goW b fr td hops).1.length - 1))[i]? = some x := by rw [List.getElem?_take, if_pos (by omega)]; exact hx
        refine aReg ?_
        refine sp pM ?_
        first | refine sp (pIx es_25) ?_ | (refine obtSN 33 35 rfl rfl (by omega) (fun x38 hx38 => ?_); refine sp (pIs es_25 hx38) ?_) | (refine obtS 33 35 rfl rfl (by omega) (by omega) (fun x38 hx38 => ?_); refine sp (pIs es_25 hx38) ?_) | refine sp (pIo es_25) ?_
        refine sr (by first | exact rS1 ty_3 | exact rB1 ty_3 | exact rAr ty_3 | exact rArL ty_3 | exact rArR2 ty_3) ?_
        refine sp pMa ?_
        refine sp pMa ?_
        refine oNil ?_
        refine aSeq ?_
        refine aReg ?_
        refine sp pM ?_
        refine sp pM ?_
        refine sq ?_
        refine ci rfl rfl rfl (hop_base (b := b) (n := x) (by omega) hbl hb) ?_
        refine sp pM ?_
        refine sq ?_
        refine ci rfl rfl rfl (lsdb_Get (db := baseM b x) (n := x) (base_ok b x)) ?_
        refine sp pM ?_
        refine sp pX ?_
        refine sp pX ?_
        refine sq ?_
        refine qAlloc rfl rfl (by decide) ze_141 rfl (fun b15 => ?_)
        refine sa ?_
        refine oStW rfl rfl rfl rfl (by repeat constructor) ty_141 ?_
        refine sp pMa ?_
        refine oNil ?_
        refine aDrawT hop_Stretch_r9_t hop_Stretch_r9_b [] 12 #[false, false, false, false, false, false, false, false, false, false, false, false] (by kernel_rfl) rfl rfl (fun HT => ?_)
        refine dp HT 0 rfl pM ?_
        refine dr HT 1 rfl (by first | exact rBWa ty_141 | exact rBW ty_141 | exact rBA ty_141) ?_
        refine dp HT 2 rfl (pFb fd_86_0) ?_
        refine dr HT 3 rfl (rB1 ty_25) ?_
        refine dp HT 4 rfl pM ?_
        refine dp HT 5 rfl pAd ?_
        first | refine dp HT 6 rfl (pIx es_25) ?_ | (refine obtDN 51 53 rfl rfl (by omega) (fun x54 hx54 => ?_); refine dp HT 6 rfl (pIs es_25 hx54) ?_) | (refine obtD 51 53 rfl rfl (by omega) (by omega) (fun x54 hx54 => ?_); refine dp HT 6 rfl (pIs es_25 hx54) ?_) | refine dp HT 6 rfl (pIo es_25) ?_
        refine dr HT 7 rfl (by first | exact rS1 ty_3 | exact rB1 ty_3 | exact rAr ty_3 | exact rArL ty_3 | exact rArR2 ty_3) ?_
        refine dGo ?_
        refine e1 HT 8 rfl ?_
        refine qCallV rfl rfl (by decide) rfl rfl (lents_refl _) (lsa_Cost (getL (baseM b x) x) y (by have := getL_len (base_ok b x) x; omega)) ?_
        refine ef HT 9 rfl (by first | exact pCvK ik_3 ik_37 | exact pConv rfl rfl ik_3 ik_37 rfl) ?_
        refine e1 HT 10 rfl ?_
        refine cv rfl rfl rfl (lents_refl _) (cost_Add (by omega) (by omega) (by omega) (by omega)) ?_
        rw [if_neg (by omega)]
        refine ePure (i := 11) #[true, true, true, true, true, true, true, true, true, true, true, true] rfl rfl rfl (HT.any (by kernel_rfl)) (by exact pMa) (by decide) ?_
        refine eE HT ?_
        clear HT
        refine aReg ?_
        refine sp pAd ?_
        refine sp pM ?_
        refine oNil ?_
        refine ⟨(i + 1, _), ?_, by (try dsimp only); omega, ⟨gInt rfl (by first | rfl | omega | simp), rfl, rfl, rfl, rfl, rfl, rfl, rfl, trivial⟩, _, (by repeat constructor)⟩
        refine ⟨by omega, ?_⟩
        omega
      · skip
        refine aExit rfl ?_
        refine aSeq ?_
        refine aReg ?_
        refine sp pM ?_
        refine sp pM ?_
        refine sp pM ?_
        refine sq ?_
        refine ci rfl rfl rfl (hop_via (b := b) (v := fr) (td := td) (by omega) hbl hb) ?_
        unfold findT2
        refine sp pM ?_
        refine sp pX ?_
        refine sp pX ?_
        refine sq ?_
        refine qAlloc rfl rfl (by decide) ze_49 rfl (fun b17 => ?_)
        refine sa ?_
        refine oStW rfl rfl rfl rfl (by repeat constructor) ty_49 ?_
        refine sp pMa ?_
        refine oNil ?_
        refine aSeq ?_
        refine aDrawT hop_Stretch_r12_t hop_Stretch_r12_b [] 6 #[false, false, false, false, false, false] (by kernel_rfl) rfl rfl (fun HT => ?_)
        refine dp HT 0 rfl pM ?_
        refine dp HT 1 rfl (pFb fd_49_2) ?_
        refine dr HT 2 rfl (rB1 ty_37) ?_
        refine dp HT 3 rfl pMa ?_
        refine dp HT 4 rfl pMa ?_
        refine dp HT 5 rfl pMa ?_
        refine dE HT ?_
        clear HT
        refine aRet ?_
        refine finIs rfl ?_
        obtain rfl : i = (goW b fr td hops).1.length - 1 := by omega
        rw [ho1, ho2, ho3, hs]
        rfl
theorem chk_yes {p : Bool} (h : (if p = true then (0 : Int) else 1) = 0) : p = true := by cases p; cases h; rfl
theorem chk_no {p : Bool} (h : (if p = true then (0 : Int) else 1) ≠ 0) : p = false := by cases p; rfl; exact absurd rfl h
theorem ag_bad1 {b : List (List Lsa)} {n0 n : Int} (h : nodeB n = false) : (nodeB n && agP b n0 n) = false := by rw [h]; rfl
theorem ag_bad2 {b : List (List Lsa)} {n0 n : Int} (h : (b.length : Int) < n) : agP b n0 n = false := by unfold agP; rw [decide_eq_false (p := n ≤ (b.length : Int)) (by omega)]; simp
theorem ag_bad5 {b : List (List Lsa)} {n0 n : Int} (h : n < 1) : agP b n0 n = false := by unfold agP; rw [decide_eq_false (p := 1 ≤ n) (by omega)]; simp
theorem ag_bad3 {b : List (List Lsa)} {n0 n : Int} {x : List Lsa} (hx : b[(n - 1).toNat]? = some x) (h : lsdbB 0 x = false) : agP b n0 n = false := by unfold agP; rw [atB_at hx, h]; simp
theorem ag_bad4 {b : List (List Lsa)} {n0 n : Int} {x : List Lsa} (hx : b[(n - 1).toNat]? = some x) (h : decide (x = baseM b n0) = false) : agP b n0 n = false := by unfold agP; rw [atB_at hx, h]; simp
theorem ag_good {b : List (List Lsa)} {n0 n : Int} {x : List Lsa} (h1 : 1 ≤ n) (h2 : n ≤ (b.length : Int)) (hx : b[(n - 1).toNat]? = some x) (h : lsdbB 0 x = true) (h4 : decide (x = baseM b n0) = true) : agP b n0 n = true := by unfold agP; rw [atB_at hx, h, h4, decide_eq_true h1, decide_eq_true h2]; rfl
theorem and_bad {p q : Bool} (h : q = false) : (p && q) = false := by rw [h]; simp
/- hop.Agree -/
def hop_Agree_r4_T : Bool × List (List Nat × List Nat) := (true, [([], []), ([0], [0]), ([1], [1]), ([2, 1], [2]), ([3], [3]), ([3], [3]), ([5, 3], [3, 5]), ([4, 6, 3], [3, 4, 6]), ([3, 7], [3, 7]), ([8, 3], [8]), ([9], [9]), ([9], [9]), ([11, 9], [9, 11]), ([10, 12, 9], [9, 10, 12]), ([13, 9], [9, 13]), ([14, 9, 9], [9, 14]), ([15, 9], [9, 15]), ([9, 16], [9, 16]), ([17, 15], [17]), ([18], [18]), ([18], [18]), ([20, 18], [18, 20]), ([19, 21, 18], [18, 19, 21]), ([22, 18], [18, 22]), ([18], [18]), ([18], [18]), ([25, 18], [18, 25]), ([26, 18], [18, 26]), ([24, 27, 18, 18], [18, 24, 27]), ([23, 28, 28, 18], [18, 23, 28]), ([29, 18], [18, 29]), ([18, 30], [18, 30])])
def hop_Agree_r4_B : List Nat := [0, 1, 3, 7, 15, 15, 47, 127, 255, 511, 1023, 1023, 3071, 8191, 16383, 32767, 65535, 131071, 262143, 524287, 524287, 1572863, 4194303, 8388607, 524287, 524287, 34078719, 101187583, 252182527, 536870911, 1073741823, 2147483647]
theorem hop_Agree_r4_t : Go.Proofs.YtmcannmjielalaaW.PrintLast.rtab .any (Go.Proofs.YtmcannmjielalaaW.PrintLast.opsOf Try.f81 4) = hop_Agree_r4_T := by kernel_rfl
theorem hop_Agree_r4_b : Go.Proofs.YtmcannmjielalaaW.PrintLast.waitsOk hop_Agree_r4_T.2 hop_Agree_r4_B = true := by kernel_rfl
set_option maxRecDepth 100000 in
set_option maxHeartbeats 2000000 in
theorem hop_Agree {b : List (List Lsa)} {l : List Int} (hl : l.length ≤ 1000000) (hbl : b.length < 9223372036854775807) (hb : ∀ x ∈ b, x.length < 9223372036854775807 ∧ ∀ y ∈ x, y.ls.length < 9223372036854775807) : Triple Try.prog 81 [.sl 1 (b.map basC), .sl 1 (l.map intA)] [] (Is (.v (.bool (agreeM b l))) []) := by
  refine triple_of Try.func81 rfl (by kernel_rfl) rfl (by simp) ?_
  refine aSeq ?_
  refine aReg ?_
  refine sp pMa ?_
  refine oNil ?_
  refine aSeq ?_
  refine aSeq ?_
  refine aReg ?_
  refine sp pM ?_
  refine sp (by first | exact pLm sl_25 | exact pLs sl_25) ?_
  refine sp pM ?_
  refine oNil ?_
  refine aBlock ?_
  refine loopF (α := Nat) (kept := [(0, _), (1, _), (7, _), (8, _)]) (fun i => i ≤ l.length ∧ ∀ y ∈ l.take i, (nodeB y && agP b (l.getD 0 0) y) = true) (fun i => [(9, .int i)]) (fun i => []) (fun i => l.length - i) 0 ?_ ⟨gInt rfl (by first | rfl | omega | simp), rfl, rfl, rfl, rfl, trivial⟩ (by repeat constructor) ?_
  · skip
    exact ⟨by omega, fun y hy => by simp at hy⟩
  · rintro i ⟨hi, hv⟩
    refine aSeq ?_
    refine aReg ?_
    refine sp pB ?_
    refine oNil ?_
    refine aSeq ?_
    refine aCondDec rfl (fun c10 => ?_) (fun c10 => ?_)
    · skip
      refine aSkip ?_
      refine aSeq ?_
      refine aBlock ?_
      refine aSeq ?_
      obtain ⟨x, hx⟩ : ∃ z, l[i]? = some z := ⟨_, List.getElem?_eq_getElem (by omega)⟩
      refine aReg ?_
      first | refine sp (pIx es_25) ?_ | (refine obtSN 7 9 rfl rfl (by omega) (fun x11 hx11 => ?_); refine sp (pIs es_25 hx11) ?_) | (refine obtS 7 9 rfl rfl (by omega) (by omega) (fun x11 hx11 => ?_); refine sp (pIs es_25 hx11) ?_) | refine sp (pIo es_25) ?_
      refine sr (rS1 ty_3) ?_
      refine sp pMa ?_
      refine oNil ?_
      refine aSeq ?_
      have hn0 : nodeB x = true → 1 ≤ l.getD 0 0 := fun hxn => by
        have h0 : ∃ z, l[0]? = some z := ⟨_, List.getElem?_eq_getElem (by omega)⟩
        obtain ⟨z, hz⟩ := h0
        rw [List.getD, hz]
        show 1 ≤ z
        by_cases e : i = 0
        · subst e; rw [hz] at hx; cases hx; exact (nodeB_iff.1 hxn).1
        · have := hv z (List.mem_of_getElem? (i := 0) (by rw [List.getElem?_take, if_pos (by omega)]; exact hz))
          rw [Bool.and_eq_true] at this
          exact (nodeB_iff.1 this.1).1
      have hl0 : l[(0 : Int).toNat]? = some (l.getD 0 0) := by rw [List.getD, show (0 : Int).toNat = 0 from rfl, List.getElem?_eq_getElem (by omega)]; rfl
      refine aDrawT hop_Agree_r4_t hop_Agree_r4_b [] 32 #[false, false, false, false, false, false, false, false, false, false, false, false, false, false, false, false, false, false, false, false, false, false, false, false, false, false, false, false, false, false, false, false] (by kernel_rfl) rfl rfl (fun HT => ?_)
      refine dp HT 0 rfl pM ?_
      refine dGo ?_
      refine e1 HT 1 rfl ?_
      refine cv rfl rfl rfl (lents_refl _) hop_node ?_
      refine ef HT 2 rfl pNo ?_
      refine ef HT 3 rfl pM ?_
      refine eSplitNot 16 rfl (fun c16 => ?_) (fun c16 => ?_)
      · skip
        refine eS HT 4 rfl ?_
        refine eS HT 5 rfl ?_
        refine eS HT 6 rfl ?_
        refine eS HT 7 rfl ?_
        refine ef HT 8 rfl pK ?_
        refine ef HT 9 rfl pM ?_
        refine eS HT 10 rfl ?_
        refine eS HT 11 rfl ?_
        refine eS HT 12 rfl ?_
        refine eS HT 13 rfl ?_
        refine eS HT 14 rfl ?_
        refine eS HT 15 rfl ?_
        refine eS HT 16 rfl ?_
        refine ef HT 17 rfl pK ?_
        refine ef HT 18 rfl pM ?_
        refine eS HT 19 rfl ?_
        refine eS HT 20 rfl ?_
        refine eS HT 21 rfl ?_
        refine eS HT 22 rfl ?_
        refine eS HT 23 rfl ?_
        refine eS HT 24 rfl ?_
        refine eS HT 25 rfl ?_
        refine eS HT 26 rfl ?_
        refine eS HT 27 rfl ?_
        refine eS HT 28 rfl ?_
        refine eS HT 29 rfl ?_
        refine eS HT 30 rfl ?_
        refine ef HT 31 rfl pK ?_
        refine eE HT ?_
        clear HT
        refine aCondT rfl ?_
        refine aSeq ?_
        refine aReg ?_
        refine sp pMa ?_
        refine oNil ?_
        refine aRet ?_
        refine finIs rfl ?_
        have hbad : (nodeB x && agP b (l.getD 0 0) x) = false := by
          first
            | exact ag_bad1 (by assumption)
            | exact and_bad (ag_bad2 (by omega))
            | exact and_bad (ag_bad3 hx26 (chk_no (by assumption)))
            | exact and_bad (ag_bad4 hx26 (by assumption))
        rw [show agreeM b l = false from all_bad hx hbad]
        rfl
      · skip
        have hxr := nodeB_iff.1 (show nodeB x = true by assumption)
        refine epG HT 4 rfl pM ?_
        refine epG HT 5 rfl pM ?_
        refine epG HT 6 rfl (by first | exact pLm sl_81 | exact pLs sl_81) ?_
        refine epG HT 7 rfl pB ?_
        refine ef HT 8 rfl pK ?_
        refine ef HT 9 rfl pM ?_
        refine eSplitDec 22 rfl (fun c22 => ?_) (fun c22 => ?_)
        · skip
          refine eS HT 10 rfl ?_
          refine eS HT 11 rfl ?_
          refine eS HT 12 rfl ?_
          refine eS HT 13 rfl ?_
          refine eS HT 14 rfl ?_
          refine eS HT 15 rfl ?_
          refine eS HT 16 rfl ?_
          refine ef HT 17 rfl pK ?_
          refine ef HT 18 rfl pM ?_
          refine eS HT 19 rfl ?_
          refine eS HT 20 rfl ?_
          refine eS HT 21 rfl ?_
          refine eS HT 22 rfl ?_
          refine eS HT 23 rfl ?_
          refine eS HT 24 rfl ?_
          refine eS HT 25 rfl ?_
          refine eS HT 26 rfl ?_
          refine eS HT 27 rfl ?_
          refine eS HT 28 rfl ?_
          refine eS HT 29 rfl ?_
          refine eS HT 30 rfl ?_
          refine ef HT 31 rfl pK ?_
          refine eE HT ?_
          clear HT
          refine aCondT rfl ?_
          refine aSeq ?_
          refine aReg ?_
          refine sp pMa ?_
          refine oNil ?_
          refine aRet ?_
          refine finIs rfl ?_
          have hbad : (nodeB x && agP b (l.getD 0 0) x) = false := by
            first
              | exact ag_bad1 (by assumption)
              | exact and_bad (ag_bad2 (by omega))
              | exact and_bad (ag_bad3 hx26 (chk_no (by assumption)))
              | exact and_bad (ag_bad4 hx26 (by assumption))
          rw [show agreeM b l = false from all_bad hx hbad]
          rfl
        · skip
          refine epG HT 10 rfl pM ?_
          refine epG HT 11 rfl pM ?_
          refine epG HT 12 rfl pSu ?_
          first | refine epG HT 13 rfl (pIx es_81) ?_ | (refine obtEN 23 25 rfl rfl (by omega) (fun x26 hx26 => ?_); refine epG HT 13 rfl (pIs es_81 hx26) ?_) | (refine obtE 23 25 rfl rfl (by omega) (by omega) (fun x26 hx26 => ?_); refine epG HT 13 rfl (pIs es_81 hx26) ?_) | refine epG HT 13 rfl (pIo es_81) ?_
          refine erG HT 14 rfl (rS1 ty_55) ?_
          refine e1G HT 15 rfl ?_
          refine cv rfl rfl rfl (lents_refl _) (lsdb_Check_v (db := x26) (hb _ (List.mem_of_getElem? hx26)).1) ?_
          refine efG HT 16 rfl pB ?_
          refine ef HT 17 rfl pK ?_
          refine ef HT 18 rfl pM ?_
          refine eSplitNe 31 rfl (fun c31 => ?_) (fun c31 => ?_)
          · skip
            refine eS HT 19 rfl ?_
            refine eS HT 20 rfl ?_
            refine eS HT 21 rfl ?_
            refine eS HT 22 rfl ?_
            refine eS HT 23 rfl ?_
            refine eS HT 24 rfl ?_
            refine eS HT 25 rfl ?_
            refine eS HT 26 rfl ?_
            refine eS HT 27 rfl ?_
            refine eS HT 28 rfl ?_
            refine eS HT 29 rfl ?_
            refine eS HT 30 rfl ?_
            refine ef HT 31 rfl pK ?_
            refine eE HT ?_
            clear HT
            refine aCondT rfl ?_
            refine aSeq ?_
            refine aReg ?_
            refine sp pMa ?_
            refine oNil ?_
            refine aRet ?_
            refine finIs rfl ?_
            have hbad : (nodeB x && agP b (l.getD 0 0) x) = false := by
              first
                | exact ag_bad1 (by assumption)
                | exact and_bad (ag_bad2 (by omega))
                | exact and_bad (ag_bad3 hx26 (chk_no (by assumption)))
                | exact and_bad (ag_bad4 hx26 (by assumption))
            rw [show agreeM b l = false from all_bad hx hbad]
            rfl
          · skip
            refine epG HT 19 rfl pM ?_
            refine epG HT 20 rfl pM ?_
            refine epG HT 21 rfl pSu ?_
            first | refine epG HT 22 rfl (pIx es_81) ?_ | (refine obtEN 32 34 rfl rfl (by omega) (fun x35 hx35 => ?_); refine epG HT 22 rfl (pIs es_81 hx35) ?_) | (refine obtE 32 34 rfl rfl (by omega) (by omega) (fun x35 hx35 => ?_); refine epG HT 22 rfl (pIs es_81 hx35) ?_) | refine epG HT 22 rfl (pIo es_81) ?_
            refine erG HT 23 rfl (rS1 ty_55) ?_
            refine epG HT 24 rfl pM ?_
            refine epG HT 25 rfl pM ?_
            first | refine epG HT 26 rfl (pIx es_25) ?_ | refine epG HT 26 rfl (pIo es_25) ?_
            refine erG HT 27 rfl (rS1 ty_3) ?_
            refine e1G HT 28 rfl ?_
            refine ci rfl rfl rfl (hop_base (b := b) (n := l.getD 0 0) (hn0 (by assumption)) hbl (fun x hx => (hb x hx).1)) ?_
            refine e1G HT 29 rfl ?_
            refine cv rfl rfl rfl (lents_refl _) (equalF_Lsa (a := x26) (b := baseM b (l.getD 0 0)) (hb _ (List.mem_of_getElem? hx26)).1 (by have := base_len b (l.getD 0 0); omega) (hb _ (List.mem_of_getElem? hx26)).2 (fun z hz => by have := lsa_links (lsdb_mem (base_ok b (l.getD 0 0)) z hz); omega)) ?_
            refine efG HT 30 rfl pNo ?_
            refine ef HT 31 rfl pK ?_
            refine eE HT ?_
            clear HT
            refine aCondNot rfl (fun c44 => ?_) (fun c44 => ?_)
            · skip
              refine aSeq ?_
              refine aReg ?_
              refine sp pMa ?_
              refine oNil ?_
              refine aRet ?_
              refine finIs rfl ?_
              have hbad : (nodeB x && agP b (l.getD 0 0) x) = false := by
                first
                  | exact ag_bad1 (by assumption)
                  | exact and_bad (ag_bad2 (by omega))
                  | exact and_bad (ag_bad3 hx26 (chk_no (by assumption)))
                  | exact and_bad (ag_bad4 hx26 (by assumption))
              rw [show agreeM b l = false from all_bad hx hbad]
              rfl
            · skip
              refine aSkip ?_
              refine aReg ?_
              refine sp pAd ?_
              refine sp pM ?_
              refine oNil ?_
              refine ⟨i + 1, ?_, by (try dsimp only); omega, ⟨gInt rfl (by first | rfl | omega | simp), rfl, rfl, rfl, rfl, trivial⟩, _, (by repeat constructor)⟩
              refine ⟨by omega, all_step hx (p := fun y => nodeB y && agP b (l.getD 0 0) y) hv ?_⟩
              rw [show nodeB x = true by assumption, Bool.true_and]
              exact ag_good (by omega) (by omega) hx26 (chk_yes (by assumption)) (by assumption)
    · skip
      refine aExit rfl ?_
      refine aSeq ?_
      refine aReg ?_
      refine sp pMa ?_
      refine oNil ?_
      refine aRet ?_
      refine finIs rfl ?_
      rw [take_all (by omega)] at hv
      rw [show agreeM b l = true from List.all_eq_true.2 hv]
      rfl
end A
end Go.Proofs.Ytmcannmjielalaa
set_option linter.unusedVariables false
set_option linter.unusedSimpArgs false
namespace Go.Proofs.Ytmcannmjielalaa
namespace A
def lightM (b : List (List Lsa)) : Bool := decide (b.length ≤ 6) && b.all fewB
theorem light_yes {b : List (List Lsa)} (h : lightM b = true) : b.length ≤ 6 ∧ ∀ x ∈ b, x.length ≤ 8 ∧ ∀ y ∈ x, y.ls.length ≤ 40 := by
  unfold lightM at h
  rw [Bool.and_eq_true, decide_eq_true_eq, List.all_eq_true] at h
  exact ⟨h.1, fun x hx => few_len (h.2 x hx)⟩
theorem light_bad {b : List (List Lsa)} {x : List Lsa} (hx : x ∈ b) (h : fewB x = false) : lightM b = false := by
  unfold lightM
  have : b.all fewB = false := by
    rw [Bool.eq_false_iff]
    intro h2
    have := List.all_eq_true.1 h2 x hx
    rw [h] at this
    cases this
  rw [this]
  simp
theorem light_end {b : List (List Lsa)} {i : Nat} (hi : i ≤ b.length) (hv : ∀ y ∈ b.take i, fewB y = true) (h : b.length ≤ i ∨ 6 < i) : lightM b = decide (b.length ≤ 6) := by
  unfold lightM
  by_cases h6 : b.length ≤ 6
  · rw [take_all (by omega)] at hv
    rw [List.all_eq_true.2 hv]
    simp
  · rw [decide_eq_false h6]
    rfl
theorem few_bad1 {x : List Lsa} (h : 8 < x.length) : fewB x = false := by unfold fewB; rw [decide_eq_false (by omega)]; rfl
theorem few_bad2 {x : List Lsa} (h : lightB x = false) : fewB x = false := by unfold fewB; rw [h]; simp
theorem few_good {x : List Lsa} (h1 : x.length ≤ 8) (h : lightB x = true) : fewB x = true := by unfold fewB; rw [h, decide_eq_true h1]; rfl
theorem agree_yes {b : List (List Lsa)} {l : List Int} (h6 : b.length ≤ 64) (hv : ∀ y ∈ l, agP b (l.getD 0 0) y = true) : agreeM b l = true := by
  unfold agreeM
  refine List.all_eq_true.2 (fun y hy => ?_)
  have h1 := hv y hy
  rw [h1, Bool.and_true]
  unfold agP at h1
  simp only [Bool.and_eq_true, decide_eq_true_eq] at h1
  exact nodeB_iff.2 ⟨h1.1.1.1, by omega⟩
theorem agree_no {b : List (List Lsa)} {l : List Int} {i : Nat} {x : Int} (hx : l[i]? = some x) (h : agP b (l.getD 0 0) x = false) : agreeM b l = false := all_bad hx (by rw [h]; simp)
end A
end Go.Proofs.Ytmcannmjielalaa
set_option linter.unusedVariables false
set_option linter.unusedSimpArgs false
namespace Go.Proofs.Ytmcannmjielalaa
namespace A
theorem bo_4 : isBoolT Try.prog 4 = true := by kernel_rfl
theorem st_138 : structPlaces Try.prog 138 = some [(0, 1), (1, 1)] := by kernel_rfl
theorem us_55 : Try.prog.underlying 55 = some (.slice 141) := by kernel_rfl
theorem us_81 : Try.prog.underlying 81 = some (.slice 55) := by kernel_rfl
theorem ze_55 : zeroOf Try.prog 55 = some (.slice none 0 0) := by kernel_rfl
def pairD : List Lsa := [⟨1, 1, [⟨2, 3⟩]⟩, ⟨2, 1, [⟨1, 5⟩]⟩]
def pairB : List (List Lsa) := [pairD, pairD]
theorem pair_go : goW pairB 1 2 9 = ([1, 2], 1) := by decide +kernel
theorem pair_sum : sumW pairB 1 2 9 = 3 := by decide +kernel
theorem pair_cos : cosW pairB 1 2 9 = 3 := by decide +kernel
theorem pair_ok : okW pairB 1 2 9 = true := by decide +kernel
theorem pair_agree : agreeM pairB [1, 2] = true := by decide +kernel
theorem pair_len : ∀ x ∈ pairB, x.length < 9223372036854775807 := by decide
theorem pair_len2 : ∀ x ∈ pairB, x.length < 9223372036854775807 ∧ ∀ y ∈ x, y.ls.length < 9223372036854775807 := by decide
/- waymarklaw44.pair -/
set_option maxRecDepth 100000 in
set_option maxHeartbeats 400000 in
theorem law44_pair  : Triple Try.prog 155 [] [] (Is (.sl 3 (pairD.map lsaC)) []) := by
  refine triple_of Try.func155 rfl (by kernel_rfl) rfl (by simp) ?_
  refine aSeq ?_
  refine aReg ?_
  refine sp pMa ?_
  refine oNil ?_
  refine aSeq ?_
  refine aReg ?_
  refine sp (pBuild rfl st_138 ze_138 rfl rfl rfl rfl) ?_
  refine sq ?_
  refine qLit (l := [_]) rfl rfl (by decide) us_139 ty_138 ze_138 rfl (by decide) (by decide) rfl rfl rfl (fun b2 => ?_)
  refine sp (pBuild rfl st_141 ze_141 rfl rfl rfl rfl) ?_
  refine sp (pBuild rfl st_138 ze_138 rfl rfl rfl rfl) ?_
  refine sq ?_
  refine qLit (l := [_]) rfl rfl (by decide) us_139 ty_138 ze_138 rfl (by decide) (by decide) rfl rfl rfl (fun b5 => ?_)
  refine sp (pBuild rfl st_141 ze_141 rfl rfl rfl rfl) ?_
  refine sq ?_
  refine qLit (l := [_, _]) rfl rfl (by decide) us_55 ty_141 ze_141 rfl (by decide) (by decide) rfl rfl rfl (fun b7 => ?_)
  refine sp pMa ?_
  refine oNil ?_
  refine aWeak (weak_deep (k := 0) (b := .sl 3 (pairD.map lsaC)) rfl (.cons .hd (.cons .hd (.cons .hd .nil))) (by repeat constructor)) ?_
  refine aRet ?_
  refine finIs rfl rfl
/- waymarklaw44.awake -/
set_option maxRecDepth 100000 in
set_option maxHeartbeats 400000 in
theorem law44_awake  : Triple Try.prog 75 [] [] (Is (.v (.bool true)) []) := by
  refine triple_of Try.func75 rfl (by kernel_rfl) rfl (by simp) ?_
  refine aSeq ?_
  refine aReg ?_
  refine sp pMa ?_
  refine oNil ?_
  refine aSeq ?_
  refine aReg ?_
  refine sq ?_
  refine ci rfl rfl rfl law44_pair ?_
  refine sq ?_
  refine ci rfl rfl rfl law44_pair ?_
  refine sq ?_
  refine qLit (l := [_, _]) rfl rfl (by decide) us_81 ty_55 ze_55 rfl (by decide) (by decide) rfl rfl rfl (fun b8 => ?_)
  refine sp pMa ?_
  refine oNil ?_
  refine aSeq ?_
  refine aWeak (weak_settle (k := 1) rfl (by repeat constructor) (by first | rfl | (simp; done) | (simp; omega) | (simp_all; done))) ?_
  refine aReg ?_
  refine sp pM ?_
  refine sq ?_
  refine ci rfl rfl rfl (hop_Go_s (b := pairB) (fr := 1) (td := 2) (hops := 9) (by decide) pair_len) ?_
  rw [pair_go]
  refine sq ?_
  refine qAlloc rfl rfl (by decide) ze_86 rfl (fun b2 => ?_)
  refine sa ?_
  refine oStW rfl rfl rfl rfl (by repeat constructor) ty_86 ?_
  refine oNil ?_
  refine aSeq ?_
  refine aReg ?_
  refine sp pM ?_
  refine sq ?_
  refine ci rfl rfl rfl (hop_Stretch (b := pairB) (fr := 1) (td := 2) (hops := 9) (by decide) pair_len) ?_
  rw [pair_sum, pair_cos, pair_ok]
  refine sp pM ?_
  refine sp pX ?_
  refine sp pX ?_
  refine sp pX ?_
  refine sp pMa ?_
  refine sp pMa ?_
  refine sp pMa ?_
  refine oNil ?_
  refine aSeq ?_
  refine aReg ?_
  refine sp (pFb fd_86_1) ?_
  refine sr (rB1 ty_3) ?_
  refine sp pB ?_
  refine sp pM ?_
  refine gp (pFb fd_86_0) ?_
  refine gr (rB1 ty_25) ?_
  refine gp (by first | exact pLm sl_25 | exact pLs sl_25 | exact pLv sl_25) ?_
  refine gp pB ?_
  refine sp pK ?_
  refine sp pM ?_
  refine gp pM ?_
  refine sp pK ?_
  refine sp pM ?_
  refine gp pM ?_
  refine gp pB ?_
  refine sp pK ?_
  refine sp pM ?_
  refine gp pM ?_
  refine gp pB ?_
  refine sp pK ?_
  refine sp pM ?_
  refine gp pM ?_
  refine ga ?_
  refine (qLit (l := [_, _]) rfl rfl (by decide) us_25 ty_3 ze_3 rfl (by decide) (by decide) rfl rfl rfl (fun b39 => ?_)).op
  refine ga ?_
  refine (cv rfl rfl rfl (by repeat (first | exact .nil | refine .cons (.sl (by repeat (first | exact List.mem_cons_self | apply List.mem_cons_of_mem)) (by first | rfl | simp)) ?_ | refine .cons (.same _) ?_)) (hop_Agree (b := pairB) (l := [1, 2]) (by decide) (by decide) pair_len2) ?_).op
  rw [pair_agree]
  refine sp pK ?_
  refine sp pMa ?_
  refine oNil ?_
  refine aRet ?_
  refine finIs rfl ?_
  rfl
/- waymarklaw44.light -/
set_option maxRecDepth 100000 in
set_option maxHeartbeats 400000 in
theorem law44_light {b : List (List Lsa)} (hbl : b.length ≤ 9223372036854775807) : Triple Try.prog 74 [.sl 1 (b.map basC)] [] (Is (.v (.bool (lightM b))) []) := by
  refine triple_of Try.func74 rfl (by kernel_rfl) rfl (by simp) ?_
  refine aSeq ?_
  refine aReg ?_
  refine sp pMa ?_
  refine oNil ?_
  refine aSeq ?_
  refine aSeq ?_
  refine aReg ?_
  refine sp pMa ?_
  refine oNil ?_
  refine aBlock ?_
  refine loopF (α := Nat) (kept := [(0, _)]) (fun i => i ≤ b.length ∧ i ≤ 7 ∧ ∀ y ∈ b.take i, fewB y = true) (fun i => [(3, .int i)]) (fun i => []) (fun i => b.length - i) 0 ?_ ⟨gInt rfl (by first | rfl | omega | simp), rfl, trivial⟩ (by repeat constructor) ?_
  · skip
    exact ⟨by omega, by omega, fun y hy => by simp at hy⟩
  · rintro i ⟨hi, hi7, hv⟩
    refine aSeq ?_
    refine aSeq ?_
    refine aReg ?_
    refine sp pM ?_
    refine sp pM ?_
    refine sp (by first | exact pLm sl_81 | exact pLs sl_81) ?_
    refine sp pB ?_
    refine sp pM ?_
    refine oSplitDec 8 rfl (fun c8 => ?_) (fun c8 => ?_)
    · skip
      refine gp pM ?_
      refine gp pB ?_
      refine sp pK ?_
      refine oNil ?_
      refine aCondDec rfl (fun c11 => ?_) (fun c11 => ?_)
      · skip
        refine aSkip ?_
        refine aSeq ?_
        refine aBlock ?_
        refine aSeq ?_
        obtain ⟨x, hx⟩ : ∃ z, b[i]? = some z := ⟨_, List.getElem?_eq_getElem (by omega)⟩
        refine aReg ?_
        refine sp pM ?_
        refine sp pM ?_
        first | refine sp (pIx es_81) ?_ | (refine obtSN 14 15 rfl rfl (by omega) (fun x16 hx16 => ?_); refine sp (pIs es_81 hx16) ?_) | (refine obtS 14 15 rfl rfl (by omega) (by omega) (fun x16 hx16 => ?_); refine sp (pIs es_81 hx16) ?_) | refine sp (pIo es_81) ?_
        refine sr (rS1 ty_55) ?_
        refine sp (by first | exact pLm sl_55 | exact pLs sl_55 | exact pLv sl_55) ?_
        refine sp pB ?_
        refine sp pM ?_
        refine oSplitDec 20 rfl (fun c20 => ?_) (fun c20 => ?_)
        · skip
          refine gf ?_
          refine gf ?_
          refine gf ?_
          refine gf ?_
          refine gf ?_
          refine gf ?_
          refine sp pK ?_
          refine oNil ?_
          refine aCondT rfl ?_
          refine aSeq ?_
          refine aReg ?_
          refine sp pMa ?_
          refine oNil ?_
          refine aRet ?_
          refine finIs rfl ?_
          have hbad : lightM b = false := by
            refine light_bad (List.mem_of_getElem? hx) ?_
            first
              | exact few_bad1 (by omega)
              | exact few_bad2 (by assumption)
          rw [hbad]
          rfl
        · skip
          refine gp pM ?_
          refine gp pM ?_
          first | refine gp (pIx es_81) ?_ | (refine obtSN 21 22 rfl rfl (by omega) (fun x23 hx23 => ?_); refine gp (pIs es_81 hx23) ?_) | (refine obtS 21 22 rfl rfl (by omega) (by omega) (fun x23 hx23 => ?_); refine gp (pIs es_81 hx23) ?_) | refine gp (pIo es_81) ?_
          refine gr (rS1 ty_55) ?_
          refine ga ?_
          refine (cv rfl rfl rfl (lents_refl _) (law19_Light_v (db := x)) ?_).op
          refine gp pNo ?_
          refine sp pK ?_
          refine oNil ?_
          refine aCondNot rfl (fun c27 => ?_) (fun c27 => ?_)
          · skip
            refine aSeq ?_
            refine aReg ?_
            refine sp pMa ?_
            refine oNil ?_
            refine aRet ?_
            refine finIs rfl ?_
            have hbad : lightM b = false := by
              refine light_bad (List.mem_of_getElem? hx) ?_
              first
                | exact few_bad1 (by omega)
                | exact few_bad2 (by assumption)
            rw [hbad]
            rfl
          · skip
            refine aSkip ?_
            refine aReg ?_
            refine sp pM ?_
            refine sp pAd ?_
            refine sp pMa ?_
            refine oNil ?_
            refine ⟨i + 1, ?_, by (try dsimp only); omega, ⟨gInt rfl (by first | rfl | omega | simp), rfl, trivial⟩, _, (by repeat constructor)⟩
            refine ⟨by omega, by omega, fun y hy => ?_⟩
            rw [take_step hx] at hy
            rcases List.mem_append.1 hy with hy | hy
            · exact hv y hy
            · rw [List.mem_singleton.1 hy]; exact few_good (by omega) (by assumption)
      · skip
        refine aExit rfl ?_
        refine aSeq ?_
        refine aReg ?_
        refine sp pM ?_
        refine sp (by first | exact pLm sl_81 | exact pLs sl_81) ?_
        refine sp pB ?_
        refine sp pMa ?_
        refine oNil ?_
        refine aRet ?_
        refine finIs rfl ?_
        rw [light_end hi hv (by omega)]
        simp [retOf]
        omega
    · skip
      refine gf ?_
      refine gf ?_
      refine sp pK ?_
      refine oNil ?_
      refine aCondF rfl ?_
      refine aExit rfl ?_
      refine aSeq ?_
      refine aReg ?_
      refine sp pM ?_
      refine sp (by first | exact pLm sl_81 | exact pLs sl_81) ?_
      refine sp pB ?_
      refine sp pMa ?_
      refine oNil ?_
      refine aRet ?_
      refine finIs rfl ?_
      rw [light_end hi hv (by omega)]
      simp [retOf]
      omega
/- waymarkref09.Same -/
def ref09_Same_r6_T : Bool × List (List Nat × List Nat) := (true, [([], []), ([0], [0]), ([], []), ([1, 2], [1, 2]), ([3], [3]), ([], []), ([5], [5]), ([], []), ([6, 7], [6, 7]), ([8], [8]), ([4, 9], [4, 9])])
def ref09_Same_r6_B : List Nat := [0, 1, 0, 7, 15, 0, 32, 0, 224, 480, 1023]
theorem ref09_Same_r6_t : Go.Proofs.YtmcannmjielalaaW.PrintLast.rtab .any (Go.Proofs.YtmcannmjielalaaW.PrintLast.opsOf Try.f150 6) = ref09_Same_r6_T := by kernel_rfl
theorem ref09_Same_r6_b : Go.Proofs.YtmcannmjielalaaW.PrintLast.waitsOk ref09_Same_r6_T.2 ref09_Same_r6_B = true := by kernel_rfl
set_option maxRecDepth 100000 in
set_option maxHeartbeats 400000 in
theorem ref09_Same {a b : Lsa} (ha : a.ls.length < 9223372036854775807 := by omega) (hb : b.ls.length < 9223372036854775807 := by omega) : Triple Try.prog 150 [.agg (lsaC a), .agg (lsaC b)] [] (Is (.v (.bool (decide (a = b)))) []) := by
  refine triple_of Try.func150 rfl (by kernel_rfl) rfl (by simp) ?_
  refine aSeq ?_
  refine aReg ?_
  refine sq ?_
  refine qBox rfl rfl (by decide) rfl rfl (fun b2 => ?_)
  refine sq ?_
  refine qBox rfl rfl (by decide) rfl rfl (fun b3 => ?_)
  refine sp pMa ?_
  refine oNil ?_
  refine aSeq ?_
  refine aSeq ?_
  refine aReg ?_
  refine sp (pFb fd_141_0) ?_
  refine sr (rB1 ty_3) ?_
  refine sp (pFb fd_141_0) ?_
  refine sr (rB1 ty_3) ?_
  refine sp pB ?_
  refine sp pM ?_
  refine oSplitNe 11 rfl (fun c11 => ?_) (fun c11 => ?_)
  · skip
    refine gf ?_
    refine gf ?_
    refine gf ?_
    refine gf ?_
    refine gf ?_
    refine sp pK ?_
    refine sp pM ?_
    refine gf ?_
    refine gf ?_
    refine gf ?_
    refine gf ?_
    refine gf ?_
    refine gf ?_
    refine gf ?_
    refine sp pK ?_
    refine oNil ?_
    refine aCondT rfl ?_
    refine aSeq ?_
    refine aReg ?_
    refine sp pMa ?_
    refine oNil ?_
    refine aRet ?_
    refine finIs rfl ?_
    rw [decide_eq_false (fun e => by subst e; simp_all)]
    rfl
  · skip
    refine gp (pFb fd_141_1) ?_
    refine gr (rB1 ty_3) ?_
    refine gp (pFb fd_141_1) ?_
    refine gr (rB1 ty_3) ?_
    refine gp pB ?_
    refine sp pK ?_
    refine sp pM ?_
    refine oSplitNe 18 rfl (fun c18 => ?_) (fun c18 => ?_)
    · skip
      refine gf ?_
      refine gf ?_
      refine gf ?_
      refine gf ?_
      refine gf ?_
      refine gf ?_
      refine gf ?_
      refine sp pK ?_
      refine oNil ?_
      refine aCondT rfl ?_
      refine aSeq ?_
      refine aReg ?_
      refine sp pMa ?_
      refine oNil ?_
      refine aRet ?_
      refine finIs rfl ?_
      rw [decide_eq_false (fun e => by subst e; simp_all)]
      rfl
    · skip
      refine gp (pFb fd_141_2) ?_
      refine gr (rB1 ty_139) ?_
      refine gp (by first | exact pLm sl_139 | exact pLs sl_139 | exact pLv sl_139) ?_
      refine gp (pFb fd_141_2) ?_
      refine gr (rB1 ty_139) ?_
      refine gp (by first | exact pLm sl_139 | exact pLs sl_139 | exact pLv sl_139) ?_
      refine gp pB ?_
      refine sp pK ?_
      refine oNil ?_
      refine aCondNe rfl (fun c26 => ?_) (fun c26 => ?_)
      · skip
        refine aSeq ?_
        refine aReg ?_
        refine sp pMa ?_
        refine oNil ?_
        refine aRet ?_
        refine finIs rfl ?_
        rw [decide_eq_false (fun e => by subst e; simp_all)]
        rfl
      · skip
        refine aSkip ?_
        refine aSeq ?_
        refine aSeq ?_
        refine aReg ?_
        refine sp pMa ?_
        refine oNil ?_
        refine aBlock ?_
        refine loopF (α := Nat) (kept := [(2, _), (3, _)]) (fun i => i ≤ a.ls.length ∧ a.o = b.o ∧ a.s = b.s ∧ a.ls.length = b.ls.length ∧ a.ls.take i = b.ls.take i) (fun i => [(5, .int i)]) (fun i => []) (fun i => a.ls.length - i) 0 ?_ ⟨gInt rfl (by first | rfl | omega | simp), rfl, rfl, trivial⟩ (by repeat constructor) ?_
        · skip
          refine ⟨by omega, ?_, ?_, ?_, rfl⟩ <;> first | (simp_all; done) | omega | (simp_all; omega)
        · rintro i ⟨hi, h1, h2, hl, hv⟩
          refine aSeq ?_
          refine aSeq ?_
          refine aReg ?_
          refine sp pM ?_
          refine sp (pFb fd_141_2) ?_
          refine sr (rB1 ty_139) ?_
          refine sp (by first | exact pLm sl_139 | exact pLs sl_139 | exact pLv sl_139) ?_
          refine sp pB ?_
          refine oNil ?_
          refine aCondDec rfl (fun c31 => ?_) (fun c31 => ?_)
          · skip
            refine aSkip ?_
            refine aSeq ?_
            refine aBlock ?_
            refine aSeq ?_
            refine aDrawT ref09_Same_r6_t ref09_Same_r6_b [] 11 #[false, false, false, false, false, false, false, false, false, false, false] (by kernel_rfl) rfl rfl (fun HT => ?_)
            refine dp HT 0 rfl (pFb fd_141_2) ?_
            refine dr HT 1 rfl (rB1 ty_139) ?_
            refine dp HT 2 rfl pM ?_
            first | refine dp HT 3 rfl (pIx es_139) ?_ | (refine obtDN 35 36 rfl rfl (by omega) (fun x37 hx37 => ?_); refine dp HT 3 rfl (pIs es_139 hx37) ?_) | (refine obtD 35 36 rfl rfl (by omega) (by omega) (fun x37 hx37 => ?_); refine dp HT 3 rfl (pIs es_139 hx37) ?_) | refine dp HT 3 rfl (pIo es_139) ?_
            refine dr HT 4 rfl (by first | exact rSW ty_138 rfl | exact rSA ty_138 | exact rBWa ty_138 | exact rBW ty_138 | exact rBA ty_138 | exact rArA ty_138 (fun _ => rfl)) ?_
            refine dp HT 5 rfl (pFb fd_141_2) ?_
            refine dr HT 6 rfl (rB1 ty_139) ?_
            refine dp HT 7 rfl pM ?_
            first | refine dp HT 8 rfl (pIx es_139) ?_ | (refine obtDN 40 41 rfl rfl (by omega) (fun x42 hx42 => ?_); refine dp HT 8 rfl (pIs es_139 hx42) ?_) | (refine obtD 40 41 rfl rfl (by omega) (by omega) (fun x42 hx42 => ?_); refine dp HT 8 rfl (pIs es_139 hx42) ?_) | refine dp HT 8 rfl (pIo es_139) ?_
            refine dr HT 9 rfl (by first | exact rSW ty_138 rfl | exact rSA ty_138 | exact rBWa ty_138 | exact rBW ty_138 | exact rBA ty_138 | exact rArA ty_138 (fun _ => rfl)) ?_
            refine dp HT 10 rfl (pEqAn eq_138) ?_
            refine dE HT ?_
            clear HT
            refine aCond rfl (fun c44 => ?_) (fun c44 => ?_)
            · skip
              refine aSeq ?_
              refine aReg ?_
              refine sp pMa ?_
              refine oNil ?_
              refine aRet ?_
              refine finIs rfl ?_
              rw [decide_eq_false (fun e => by subst e; obtain rfl := Option.some.inj (hx37.symm.trans hx42); simp_all)]
              rfl
            · skip
              refine aSkip ?_
              refine aReg ?_
              refine sp pM ?_
              refine sp pAd ?_
              refine sp pMa ?_
              refine oNil ?_
              refine ⟨i + 1, ?_, by (try dsimp only); omega, ⟨gInt rfl (by first | rfl | omega | simp), rfl, rfl, trivial⟩, _, (by repeat constructor)⟩
              have hxy : x37 = x42 := by
                cases x37
                cases x42
                simp_all
              exact ⟨by omega, h1, h2, hl, by rw [take_step hx37, take_step hx42, hv, hxy]⟩
          · skip
            refine aExit rfl ?_
            refine aSeq ?_
            refine aReg ?_
            refine sp pMa ?_
            refine oNil ?_
            refine aRet ?_
            refine finIs rfl ?_
            rw [take_all (by omega), take_all (by omega)] at hv
            rw [decide_eq_true (by cases a; cases b; simp_all)]
            rfl
/- waymarkref09.All -/
def ref09_All_r6_T : Bool × List (List Nat × List Nat) := (true, [([], []), ([], []), ([0, 1], [0, 1]), ([2], [2]), ([], []), ([], []), ([4, 5], [4, 5]), ([6], [6]), ([3, 7], [3, 7]), ([8], [8])])
def ref09_All_r6_B : List Nat := [0, 0, 3, 7, 0, 0, 48, 112, 255, 511]
theorem ref09_All_r6_t : Go.Proofs.YtmcannmjielalaaW.PrintLast.rtab .any (Go.Proofs.YtmcannmjielalaaW.PrintLast.opsOf Try.f68 6) = ref09_All_r6_T := by kernel_rfl
theorem ref09_All_r6_b : Go.Proofs.YtmcannmjielalaaW.PrintLast.waitsOk ref09_All_r6_T.2 ref09_All_r6_B = true := by kernel_rfl
set_option maxRecDepth 100000 in
set_option maxHeartbeats 400000 in
theorem ref09_All {a b : List Lsa} (ha : a.length < 9223372036854775807 := by omega) (hb : b.length < 9223372036854775807 := by omega) (hma : ∀ x ∈ a, x.ls.length < 9223372036854775807) (hmb : ∀ x ∈ b, x.ls.length < 9223372036854775807) : Triple Try.prog 68 [.sl 3 (a.map lsaC), .sl 3 (b.map lsaC)] [] (Is (.v (.bool (decide (a = b)))) []) := by
  refine triple_of Try.func68 rfl (by kernel_rfl) rfl (by simp) ?_
  refine aSeq ?_
  refine aReg ?_
  refine sp pMa ?_
  refine oNil ?_
  refine aSeq ?_
  refine aSeq ?_
  refine aReg ?_
  refine sp pM ?_
  refine sp (by first | exact pLm sl_55 | exact pLs sl_55) ?_
  refine sp pM ?_
  refine sp (by first | exact pLm sl_55 | exact pLs sl_55) ?_
  refine sp pB ?_
  refine oNil ?_
  refine aCondNe rfl (fun c10 => ?_) (fun c10 => ?_)
  · skip
    refine aSeq ?_
    refine aReg ?_
    refine sp pMa ?_
    refine oNil ?_
    refine aRet ?_
    refine finIs rfl ?_
    rw [decide_eq_false (fun e => by subst e; simp at c10)]
    rfl
  · skip
    refine aSkip ?_
    refine aSeq ?_
    refine aSeq ?_
    refine aReg ?_
    refine sp pMa ?_
    refine oNil ?_
    refine aBlock ?_
    refine loopF (α := Nat) (kept := [(0, _), (1, _)]) (fun i => i ≤ a.length ∧ a.length = b.length ∧ a.take i = b.take i) (fun i => [(5, .int i)]) (fun i => []) (fun i => a.length - i) 0 ?_ ⟨gInt rfl (by first | rfl | omega | simp), rfl, rfl, trivial⟩ (by repeat constructor) ?_
    · skip
      exact ⟨by omega, by omega, rfl⟩
    · rintro i ⟨hi, hl, hv⟩
      refine aSeq ?_
      refine aSeq ?_
      refine aReg ?_
      refine sp pM ?_
      refine sp pM ?_
      refine sp (by first | exact pLm sl_55 | exact pLs sl_55) ?_
      refine sp pB ?_
      refine oNil ?_
      refine aCondDec rfl (fun c14 => ?_) (fun c14 => ?_)
      · skip
        refine aSkip ?_
        refine aSeq ?_
        refine aBlock ?_
        refine aSeq ?_
        refine aDrawT ref09_All_r6_t ref09_All_r6_b [] 10 #[false, false, false, false, false, false, false, false, false, false] (by kernel_rfl) rfl rfl (fun HT => ?_)
        refine dp HT 0 rfl pM ?_
        refine dp HT 1 rfl pM ?_
        first | refine dp HT 2 rfl (pIx es_55) ?_ | (refine obtDN 17 18 rfl rfl (by omega) (fun x19 hx19 => ?_); refine dp HT 2 rfl (pIs es_55 hx19) ?_) | (refine obtD 17 18 rfl rfl (by omega) (by omega) (fun x19 hx19 => ?_); refine dp HT 2 rfl (pIs es_55 hx19) ?_) | refine dp HT 2 rfl (pIo es_55) ?_
        refine dr HT 3 rfl (by first | exact rSW ty_141 rfl | exact rSA ty_141) ?_
        refine dp HT 4 rfl pM ?_
        refine dp HT 5 rfl pM ?_
        first | refine dp HT 6 rfl (pIx es_55) ?_ | (refine obtDN 21 22 rfl rfl (by omega) (fun x23 hx23 => ?_); refine dp HT 6 rfl (pIs es_55 hx23) ?_) | (refine obtD 21 22 rfl rfl (by omega) (by omega) (fun x23 hx23 => ?_); refine dp HT 6 rfl (pIs es_55 hx23) ?_) | refine dp HT 6 rfl (pIo es_55) ?_
        refine dr HT 7 rfl (by first | exact rSW ty_141 rfl | exact rSA ty_141) ?_
        refine dGo ?_
        refine e1 HT 8 rfl ?_
        refine cv rfl rfl rfl (lents_refl _) (ref09_Same (a := x19) (b := x23) (hma _ (List.mem_of_getElem? hx19)) (hmb _ (List.mem_of_getElem? hx23))) ?_
        refine ef HT 9 rfl pNo ?_
        refine eE HT ?_
        clear HT
        refine aCondNot rfl (fun c26 => ?_) (fun c26 => ?_)
        · skip
          refine aSeq ?_
          refine aReg ?_
          refine sp pMa ?_
          refine oNil ?_
          refine aRet ?_
          refine finIs rfl ?_
          rw [decide_eq_false (fun e => by subst e; obtain rfl := Option.some.inj (hx19.symm.trans hx23); simp_all)]
          rfl
        · skip
          refine aSkip ?_
          refine aReg ?_
          refine sp pM ?_
          refine sp pAd ?_
          refine sp pMa ?_
          refine oNil ?_
          refine ⟨i + 1, ?_, by (try dsimp only); omega, ⟨gInt rfl (by first | rfl | omega | simp), rfl, rfl, trivial⟩, _, (by repeat constructor)⟩
          have hxy : x19 = x23 := by simp_all
          exact ⟨by omega, hl, by rw [take_step hx19, take_step hx23, hv, hxy]⟩
      · skip
        refine aExit rfl ?_
        refine aSeq ?_
        refine aReg ?_
        refine sp pMa ?_
        refine oNil ?_
        refine aRet ?_
        refine finIs rfl ?_
        rw [take_all (by omega), take_all (by omega)] at hv
        rw [decide_eq_true hv]
        rfl
/- waymarklaw44.HopAgree -/
def law44_HopAgree_r8_T : Bool × List (List Nat × List Nat) := (true, [([], []), ([0], [0]), ([1], [1]), ([2], [2]), ([2], [2]), ([4, 2], [2, 4]), ([3, 5, 2], [2, 3, 5]), ([2, 6], [2, 6]), ([7, 2], [7]), ([8], [8]), ([8], [8]), ([10, 8], [8, 10]), ([9, 11, 8], [8, 9, 11]), ([12, 8], [8, 12]), ([13, 8, 8], [8, 13]), ([14, 8], [8, 14]), ([8, 15], [8, 15]), ([16, 14], [16]), ([17], [17]), ([17], [17]), ([19, 17], [17, 19]), ([18, 20, 17], [17, 18, 20]), ([21, 17], [17, 21]), ([17], [17]), ([17], [17]), ([24, 17], [17, 24]), ([25, 17], [17, 25]), ([23, 26, 17, 17], [17, 23, 26]), ([22, 27, 27, 17], [17, 22, 27]), ([28, 17], [17, 28]), ([17, 29], [17, 29])])
def law44_HopAgree_r8_B : List Nat := [0, 1, 3, 7, 7, 23, 63, 127, 255, 511, 511, 1535, 4095, 8191, 16383, 32767, 65535, 131071, 262143, 262143, 786431, 2097151, 4194303, 262143, 262143, 17039359, 50593791, 126091263, 268435455, 536870911, 1073741823]
theorem law44_HopAgree_r8_t : Go.Proofs.YtmcannmjielalaaW.PrintLast.rtab .any (Go.Proofs.YtmcannmjielalaaW.PrintLast.opsOf Try.f16 8) = law44_HopAgree_r8_T := by kernel_rfl
theorem law44_HopAgree_r8_b : Go.Proofs.YtmcannmjielalaaW.PrintLast.waitsOk law44_HopAgree_r8_T.2 law44_HopAgree_r8_B = true := by kernel_rfl
set_option maxRecDepth 100000 in
set_option maxHeartbeats 4000000 in
theorem law44_HopAgree {b : List (List Lsa)} {l : List Int} (hbl : b.length ≤ 9223372036854775807) (hll : l.length ≤ 9223372036854775807) : Triple Try.prog 16 [.sl 1 (b.map basC), .sl 1 (l.map intA)] [] (Is (.v (.bool true)) []) := by
  refine triple_of Try.func16 rfl (by kernel_rfl) rfl (by simp) ?_
  refine aSeq ?_
  refine aReg ?_
  refine sp pMa ?_
  refine oNil ?_
  refine aSeq ?_
  refine aSeq ?_
  refine aReg ?_
  refine sp pM ?_
  refine sq ?_
  refine cv rfl rfl rfl (lents_refl _) (law44_light (b := b) hbl) ?_
  refine sp pNo ?_
  refine sp pM ?_
  refine oSplitNot 11 rfl (fun c11 => ?_) (fun c11 => ?_)
  · skip
    refine gf ?_
    refine gf ?_
    refine gf ?_
    refine sp pK ?_
    refine oNil ?_
    refine aCondT rfl ?_
    refine aSeq ?_
    refine aReg ?_
    refine sq ?_
    refine cv rfl rfl rfl (lents_refl _) law44_awake ?_
    refine sp pMa ?_
    refine oNil ?_
    refine aRet ?_
    refine finIs rfl ?_
    rfl
  · skip
    refine gp pM ?_
    refine gp (by first | exact pLm sl_25 | exact pLs sl_25) ?_
    refine gp pB ?_
    refine sp pK ?_
    refine oNil ?_
    refine aCondDec rfl (fun c15 => ?_) (fun c15 => ?_)
    · skip
      refine aSeq ?_
      refine aReg ?_
      refine sq ?_
      refine cv rfl rfl rfl (lents_refl _) law44_awake ?_
      refine sp pMa ?_
      refine oNil ?_
      refine aRet ?_
      refine finIs rfl ?_
      rfl
    · skip
      refine aSkip ?_
      refine aSeq ?_
      have hlt := light_yes (b := b) (by first | assumption | simp_all)
      have hb4 : ∀ x ∈ b, x.length ≤ 4000 ∧ ∀ y ∈ x, y.ls.length ≤ 4000 := fun x hx => ⟨by have := (hlt.2 x hx).1; omega, fun y hy => by have := (hlt.2 x hx).2 y hy; omega⟩
      have hbs : ∀ x ∈ b, x.length < 9223372036854775807 := fun x hx => by have := (hlt.2 x hx).1; omega
      have hbs2 : ∀ x ∈ b, x.length < 9223372036854775807 ∧ ∀ y ∈ x, y.ls.length < 9223372036854775807 := fun x hx => ⟨hbs x hx, fun y hy => by have := (hb4 x hx).2 y hy; omega⟩
      refine aReg ?_
      refine sp pMa ?_
      refine oNil ?_
      refine aSeq ?_
      refine aSeq ?_
      refine aReg ?_
      refine sp pMa ?_
      refine oNil ?_
      refine aBlock ?_
      refine loopF (α := Nat) (kept := [(0, _), (1, _)]) (fun i => i ≤ l.length ∧ ∀ y ∈ l.take i, agP b (l.getD 0 0) y = true) (fun i => [(6, .int i), (5, .v (.bool true))]) (fun i => []) (fun i => l.length - i) 0 ?_ ⟨gInt rfl (by first | rfl | omega | simp), rfl, rfl, rfl, trivial⟩ (by repeat constructor) ?_
      · skip
        exact ⟨by omega, fun y hy => by simp at hy⟩
      · rintro i ⟨hi, hv⟩
        refine aSeq ?_
        refine aSeq ?_
        refine aReg ?_
        refine sp pM ?_
        refine sp pM ?_
        refine sp (by first | exact pLm sl_25 | exact pLs sl_25) ?_
        refine sp pB ?_
        refine oNil ?_
        refine aCondDec rfl (fun c20 => ?_) (fun c20 => ?_)
        · skip
          refine aSkip ?_
          refine aSeq ?_
          refine aBlock ?_
          refine aSeq ?_
          obtain ⟨x, hx⟩ : ∃ z, l[i]? = some z := ⟨_, List.getElem?_eq_getElem (by omega)⟩
          refine aReg ?_
          refine sp pM ?_
          refine sp pM ?_
          first | refine sp (pIx es_25) ?_ | (refine obtSN 23 24 rfl rfl (by omega) (fun x25 hx25 => ?_); refine sp (pIs es_25 hx25) ?_) | (refine obtS 23 24 rfl rfl (by omega) (by omega) (fun x25 hx25 => ?_); refine sp (pIs es_25 hx25) ?_) | refine sp (pIo es_25) ?_
          refine sr (rS1 ty_3) ?_
          refine sp pMa ?_
          refine oNil ?_
          refine aSeq ?_
          have hn0 : 1 ≤ x → 1 ≤ l.getD 0 0 := fun hxn => by
            have h0 : ∃ z, l[0]? = some z := ⟨_, List.getElem?_eq_getElem (by omega)⟩
            obtain ⟨z, hz⟩ := h0
            rw [List.getD, hz]
            show 1 ≤ z
            by_cases e : i = 0
            · subst e; rw [hz] at hx; cases hx; exact hxn
            · have := hv z (List.mem_of_getElem? (i := 0) (by rw [List.getElem?_take, if_pos (by omega)]; exact hz))
              unfold agP at this
              simp only [Bool.and_eq_true, decide_eq_true_eq] at this
              exact this.1.1.1
          have hl0 : l[(0 : Int).toNat]? = some (l.getD 0 0) := by rw [List.getD, show (0 : Int).toNat = 0 from rfl, List.getElem?_eq_getElem (by omega)]; rfl
          refine aDrawT law44_HopAgree_r8_t law44_HopAgree_r8_b [] 31 #[false, false, false, false, false, false, false, false, false, false, false, false, false, false, false, false, false, false, false, false, false, false, false, false, false, false, false, false, false, false, false] (by kernel_rfl) rfl rfl (fun HT => ?_)
          refine dp HT 0 rfl pM ?_
          refine dp HT 1 rfl pB ?_
          refine dp HT 2 rfl pM ?_
          refine dSplitDec 29 rfl (fun c29 => ?_) (fun c29 => ?_)
          · skip
            refine dS HT 3 rfl ?_
            refine dS HT 4 rfl ?_
            refine dS HT 5 rfl ?_
            refine dS HT 6 rfl ?_
            refine dp HT 7 rfl pK ?_
            refine dp HT 8 rfl pM ?_
            refine dS HT 9 rfl ?_
            refine dS HT 10 rfl ?_
            refine dS HT 11 rfl ?_
            refine dS HT 12 rfl ?_
            refine dS HT 13 rfl ?_
            refine dGo ?_
            refine eS HT 14 rfl ?_
            refine eS HT 15 rfl ?_
            refine ef HT 16 rfl pK ?_
            refine ef HT 17 rfl pM ?_
            refine eS HT 18 rfl ?_
            refine eS HT 19 rfl ?_
            refine eS HT 20 rfl ?_
            refine eS HT 21 rfl ?_
            refine eS HT 22 rfl ?_
            refine eS HT 23 rfl ?_
            refine eS HT 24 rfl ?_
            refine eS HT 25 rfl ?_
            refine eS HT 26 rfl ?_
            refine eS HT 27 rfl ?_
            refine eS HT 28 rfl ?_
            refine eS HT 29 rfl ?_
            refine ef HT 30 rfl pK ?_
            refine eE HT ?_
            clear HT
            refine aCondT rfl ?_
            refine aSeq ?_
            have hbad : agreeM b l = false := by
              refine agree_no hx ?_
              first
                | exact ag_bad5 (by omega)
                | exact ag_bad2 (by omega)
                | exact ag_bad3 hz (by assumption)
                | exact ag_bad4 hz (by assumption)
            refine aReg ?_
            refine sp pMa ?_
            refine oNil ?_
            refine aExit rfl ?_
            refine aSeq ?_
            refine aReg ?_
            refine sp pM ?_
            refine sp pM ?_
            refine sq ?_
            refine cv rfl rfl rfl (lents_refl _) (hop_Agree (b := b) (l := l) (by omega) (by omega) hbs2) ?_
            first
              | rw [hbad]
              | (rw [take_all (by omega)] at hv; rw [agree_yes (by omega) hv])
            refine sp pM ?_
            refine sp (pEqB rfl (.inl rfl) rfl rfl bo_4 rfl) ?_
            refine sp pM ?_
            refine ga ?_
            refine (cv rfl rfl rfl (lents_refl _) law44_awake ?_).op
            refine sp pK ?_
            refine sp pMa ?_
            refine oNil ?_
            refine aRet ?_
            refine finIs rfl ?_
            rfl
          · skip
            refine dpG HT 3 rfl pM ?_
            refine dpG HT 4 rfl pM ?_
            refine dpG HT 5 rfl (by first | exact pLm sl_81 | exact pLs sl_81) ?_
            refine dpG HT 6 rfl pB ?_
            refine dp HT 7 rfl pK ?_
            refine dp HT 8 rfl pM ?_
            refine dSplitDec 35 rfl (fun c35 => ?_) (fun c35 => ?_)
            · skip
              refine dS HT 9 rfl ?_
              refine dS HT 10 rfl ?_
              refine dS HT 11 rfl ?_
              refine dS HT 12 rfl ?_
              refine dS HT 13 rfl ?_
              refine dGo ?_
              refine eS HT 14 rfl ?_
              refine eS HT 15 rfl ?_
              refine ef HT 16 rfl pK ?_
              refine ef HT 17 rfl pM ?_
              refine eS HT 18 rfl ?_
              refine eS HT 19 rfl ?_
              refine eS HT 20 rfl ?_
              refine eS HT 21 rfl ?_
              refine eS HT 22 rfl ?_
              refine eS HT 23 rfl ?_
              refine eS HT 24 rfl ?_
              refine eS HT 25 rfl ?_
              refine eS HT 26 rfl ?_
              refine eS HT 27 rfl ?_
              refine eS HT 28 rfl ?_
              refine eS HT 29 rfl ?_
              refine ef HT 30 rfl pK ?_
              refine eE HT ?_
              clear HT
              refine aCondT rfl ?_
              refine aSeq ?_
              have hbad : agreeM b l = false := by
                refine agree_no hx ?_
                first
                  | exact ag_bad5 (by omega)
                  | exact ag_bad2 (by omega)
                  | exact ag_bad3 hz (by assumption)
                  | exact ag_bad4 hz (by assumption)
              refine aReg ?_
              refine sp pMa ?_
              refine oNil ?_
              refine aExit rfl ?_
              refine aSeq ?_
              refine aReg ?_
              refine sp pM ?_
              refine sp pM ?_
              refine sq ?_
              refine cv rfl rfl rfl (lents_refl _) (hop_Agree (b := b) (l := l) (by omega) (by omega) hbs2) ?_
              first
                | rw [hbad]
                | (rw [take_all (by omega)] at hv; rw [agree_yes (by omega) hv])
              refine sp pM ?_
              refine sp (pEqB rfl (.inl rfl) rfl rfl bo_4 rfl) ?_
              refine sp pM ?_
              refine ga ?_
              refine (cv rfl rfl rfl (lents_refl _) law44_awake ?_).op
              refine sp pK ?_
              refine sp pMa ?_
              refine oNil ?_
              refine aRet ?_
              refine finIs rfl ?_
              rfl
            · skip
              refine dpG HT 9 rfl pM ?_
              obtain ⟨z, hz⟩ : ∃ z, b[(x - 1).toNat]? = some z := ⟨_, List.getElem?_eq_getElem (by omega)⟩
              refine dpG HT 10 rfl pM ?_
              refine dpG HT 11 rfl pSu ?_
              first | refine dpG HT 12 rfl (pIx es_81) ?_ | (refine obtDN 36 38 rfl rfl (by omega) (fun x39 hx39 => ?_); refine dpG HT 12 rfl (pIs es_81 hx39) ?_) | (refine obtD 36 38 rfl rfl (by omega) (by omega) (fun x39 hx39 => ?_); refine dpG HT 12 rfl (pIs es_81 hx39) ?_) | refine dpG HT 12 rfl (pIo es_81) ?_
              refine drG HT 13 rfl (rS1 ty_55) ?_
              refine dGo ?_
              refine e1G HT 14 rfl ?_
              refine cv rfl rfl rfl (lents_refl _) (ref19_May_v (db := z) (hb4 z (List.mem_of_getElem? hz)).1 (hb4 z (List.mem_of_getElem? hz)).2) ?_
              refine efG HT 15 rfl pNo ?_
              refine ef HT 16 rfl pK ?_
              refine ef HT 17 rfl pM ?_
              refine eSplitNot 44 rfl (fun c44 => ?_) (fun c44 => ?_)
              · skip
                refine eS HT 18 rfl ?_
                refine eS HT 19 rfl ?_
                refine eS HT 20 rfl ?_
                refine eS HT 21 rfl ?_
                refine eS HT 22 rfl ?_
                refine eS HT 23 rfl ?_
                refine eS HT 24 rfl ?_
                refine eS HT 25 rfl ?_
                refine eS HT 26 rfl ?_
                refine eS HT 27 rfl ?_
                refine eS HT 28 rfl ?_
                refine eS HT 29 rfl ?_
                refine ef HT 30 rfl pK ?_
                refine eE HT ?_
                clear HT
                refine aCondT rfl ?_
                refine aSeq ?_
                have hbad : agreeM b l = false := by
                  refine agree_no hx ?_
                  first
                    | exact ag_bad5 (by omega)
                    | exact ag_bad2 (by omega)
                    | exact ag_bad3 hz (by assumption)
                    | exact ag_bad4 hz (by assumption)
                refine aReg ?_
                refine sp pMa ?_
                refine oNil ?_
                refine aExit rfl ?_
                refine aSeq ?_
                refine aReg ?_
                refine sp pM ?_
                refine sp pM ?_
                refine sq ?_
                refine cv rfl rfl rfl (lents_refl _) (hop_Agree (b := b) (l := l) (by omega) (by omega) hbs2) ?_
                first
                  | rw [hbad]
                  | (rw [take_all (by omega)] at hv; rw [agree_yes (by omega) hv])
                refine sp pM ?_
                refine sp (pEqB rfl (.inl rfl) rfl rfl bo_4 rfl) ?_
                refine sp pM ?_
                refine ga ?_
                refine (cv rfl rfl rfl (lents_refl _) law44_awake ?_).op
                refine sp pK ?_
                refine sp pMa ?_
                refine oNil ?_
                refine aRet ?_
                refine finIs rfl ?_
                rfl
              · skip
                refine epG HT 18 rfl pM ?_
                refine epG HT 19 rfl pM ?_
                refine epG HT 20 rfl pSu ?_
                first | refine epG HT 21 rfl (pIx es_81) ?_ | (refine obtEN 45 47 rfl rfl (by omega) (fun x48 hx48 => ?_); refine epG HT 21 rfl (pIs es_81 hx48) ?_) | (refine obtE 45 47 rfl rfl (by omega) (by omega) (fun x48 hx48 => ?_); refine epG HT 21 rfl (pIs es_81 hx48) ?_) | refine epG HT 21 rfl (pIo es_81) ?_
                refine erG HT 22 rfl (rS1 ty_55) ?_
                refine epG HT 23 rfl pM ?_
                refine epG HT 24 rfl pM ?_
                first | refine epG HT 25 rfl (pIx es_25) ?_ | refine epG HT 25 rfl (pIo es_25) ?_
                refine erG HT 26 rfl (rS1 ty_3) ?_
                refine e1G HT 27 rfl ?_
                refine ci rfl rfl rfl (ref44_Base (b := b) (n := l.getD 0 0) (hn0 (by omega)) (by omega) hb4) ?_
                refine e1G HT 28 rfl ?_
                refine cv rfl rfl rfl (lents_refl _) (ref09_All (a := z) (b := baseM b (l.getD 0 0)) (hbs2 z (List.mem_of_getElem? hz)).1 (by have := base_len b (l.getD 0 0); omega) (hbs2 z (List.mem_of_getElem? hz)).2 (fun z hz => by have := lsa_links (lsdb_mem (base_ok b (l.getD 0 0)) z hz); omega)) ?_
                refine efG HT 29 rfl pNo ?_
                refine ef HT 30 rfl pK ?_
                refine eE HT ?_
                clear HT
                refine aCondNot rfl (fun c57 => ?_) (fun c57 => ?_)
                · skip
                  refine aSeq ?_
                  have hbad : agreeM b l = false := by
                    refine agree_no hx ?_
                    first
                      | exact ag_bad5 (by omega)
                      | exact ag_bad2 (by omega)
                      | exact ag_bad3 hz (by assumption)
                      | exact ag_bad4 hz (by assumption)
                  refine aReg ?_
                  refine sp pMa ?_
                  refine oNil ?_
                  refine aExit rfl ?_
                  refine aSeq ?_
                  refine aReg ?_
                  refine sp pM ?_
                  refine sp pM ?_
                  refine sq ?_
                  refine cv rfl rfl rfl (lents_refl _) (hop_Agree (b := b) (l := l) (by omega) (by omega) hbs2) ?_
                  first
                    | rw [hbad]
                    | (rw [take_all (by omega)] at hv; rw [agree_yes (by omega) hv])
                  refine sp pM ?_
                  refine sp (pEqB rfl (.inl rfl) rfl rfl bo_4 rfl) ?_
                  refine sp pM ?_
                  refine ga ?_
                  refine (cv rfl rfl rfl (lents_refl _) law44_awake ?_).op
                  refine sp pK ?_
                  refine sp pMa ?_
                  refine oNil ?_
                  refine aRet ?_
                  refine finIs rfl ?_
                  rfl
                · skip
                  refine aSkip ?_
                  refine aReg ?_
                  refine sp pM ?_
                  refine sp pAd ?_
                  refine sp pMa ?_
                  refine oNil ?_
                  refine ⟨i + 1, ?_, by (try dsimp only); omega, ⟨gInt rfl (by first | rfl | omega | simp), rfl, rfl, rfl, trivial⟩, _, (by repeat constructor)⟩
                  exact ⟨by omega, all_step hx (p := fun y => agP b (l.getD 0 0) y) hv (ag_good (by omega) (by omega) hz (by assumption) (by assumption))⟩
        · skip
          refine aExit rfl ?_
          refine aSeq ?_
          refine aReg ?_
          refine sp pM ?_
          refine sp pM ?_
          refine sq ?_
          refine cv rfl rfl rfl (lents_refl _) (hop_Agree (b := b) (l := l) (by omega) (by omega) hbs2) ?_
          first
            | rw [hbad]
            | (rw [take_all (by omega)] at hv; rw [agree_yes (by omega) hv])
          refine sp pM ?_
          refine sp (pEqB rfl (.inl rfl) rfl rfl bo_4 rfl) ?_
          refine sp pM ?_
          refine ga ?_
          refine (cv rfl rfl rfl (lents_refl _) law44_awake ?_).op
          refine sp pK ?_
          refine sp pMa ?_
          refine oNil ?_
          refine aRet ?_
          refine finIs rfl ?_
          rfl
end A
end Go.Proofs.Ytmcannmjielalaa
namespace Go.Proofs.Ytmcannmjielalaa.hopAgree
open Go.ChangeShapes Go.WideShapes Go.ChangeAt Go.RowKit Go.Proofs.Ytmcannmjielalaa.A
open Go.ChangeMaps (open_string shut_string)
set_option linter.unusedVariables false
theorem own : ownKnob Try.prog.godebug = none := by kernel_rfl
theorem laidOut : laidOutB Try.prog = true := A.laidAll
theorem fInPlace : (Rows.hopAgreeRow.inPlace == Try.prog.inPlace 16) = true := by kernel_rfl
theorem fUnfollowed : (Rows.hopAgreeRow.unfollowed == Try.prog.unfollowed 16) = true := by kernel_rfl
theorem fRecurses : (Rows.hopAgreeRow.recurses == Try.prog.recurses 16) = true := by kernel_rfl
theorem fNamed : (Rows.hopAgreeRow.named == Try.prog.varsNamed 16) = true := by kernel_rfl
theorem closed : joinedFacts Try.prog 16 Try.f16 Rows.hopAgreeSpec Rows.hopAgreeRow = true := by
  unfold joinedFacts
  simp only [Bool.and_eq_true]
  refine ⟨⟨⟨⟨⟨⟨⟨⟨⟨⟨⟨⟨⟨⟨⟨⟨⟨⟨⟨⟨⟨⟨⟨⟨⟨⟨⟨⟨⟨⟨⟨?_, A.laidAll⟩, A.mapsAll⟩, ?_⟩, ?_⟩, ?_⟩, ?_⟩, ?_⟩, ?_⟩, fInPlace⟩, fUnfollowed⟩, fRecurses⟩, fNamed⟩, ?_⟩, ?_⟩, ?_⟩, ?_⟩, ?_⟩, ?_⟩, ?_⟩, ?_⟩, ?_⟩, ?_⟩, ?_⟩, A.stopsAll⟩, A.mayE⟩, by rw [A.lifF]; kernel_rfl⟩, by rw [A.mkC]; kernel_rfl⟩, ?_⟩, ?_⟩, ?_⟩, ?_⟩
  all_goals kernel_rfl
set_option maxRecDepth 100000 in
theorem lifted (os : Os) (started : os.Started) (H : Type) (enc : TypeId × Value → H) :
    ReturnsInHanded {} Try.checked os 16 .any (Rows.hopAgreeSpec.pre6 enc Try.prog Try.f16 Rows.hopAgreeRow.domain false) (Rows.hopAgreeSpec.post enc Try.prog Try.f16 false true false false) := by
  refine returnsInHanded_of_change_sized (C := Try.checked) own started (by kernel_rfl) Try.func16
    (ChangeSpec.witness6 (enc := enc) (C := Try.checked) false ⟨#[], #[.slice none 0 0, .slice none 0 0], []⟩ 8 (by kernel_rfl) (by kernel_rfl) (by kernel_rfl) (by kernel_rfl)) ?_
  intro W base args ds gs before hval0 hW hcnd hsz0 _
  have hval : ∀ (j : Nat) t v, Try.f16.params[j]? = some t → args[j]? = some v → Value.okWide Try.prog W .any base t v := hval0
  have hW' := hW
  obtain ⟨p, q, hA0, hV, rfl, hfz, hnd⟩ := hW
  have hA : DataW.TrodAll enc Try.prog W 0 (fun _ => true) true Try.f16.params.toList args.toList ds p := hA0
  rw [Try.params16] at hA hval
  obtain ⟨v0, vs0, d0, ds0, p0, q0, hargs, rfl, rfl, h0, r0⟩ := trodAll_cons hA
  obtain ⟨v1, vs1, d1, ds1, p1, q1, rfl, rfl, rfl, h1, r1⟩ := trodAll_cons r0
  obtain ⟨rfl, rfl, rfl⟩ := trodAll_nil r1
  obtain rfl : args = #[v0, v1] := by cases args; simp_all
  obtain ⟨rfl, rfl⟩ := trodVars_none hV
  have k0 := h0
  have lt0 : ∀ x ∈ p0, x.block < W.heap.size := by obtain ⟨m, hm⟩ := k0; exact DataW.trod_lt m _ _ _ hm
  have one0 : v0.oneCell' = true := by obtain ⟨_, _, _, rfl⟩ := okWide_slice Try.underlying81 (hval 0 81 v0 rfl rfl); rfl
  obtain ⟨a0, w0, rep0⟩ := argOne op_Bases one0 h0
  have k1 := h1
  have lt1 : ∀ x ∈ p1, x.block < W.heap.size := by obtain ⟨m, hm⟩ := k1; exact DataW.trod_lt m _ _ _ hm
  have one1 : v1.oneCell' = true := by obtain ⟨_, _, _, rfl⟩ := okWide_slice Try.underlying25 (hval 1 25 v1 rfl rfl); rfl
  obtain ⟨a1, w1, rep1⟩ := argOne (opSlice Try.underlying25 (by kernel_rfl) (by decide) (opInt Try.underlying3)) one1 h1
  refine (law_calls (law44_HopAgree (b := a0) (l := a1) w0 w1.2) (reps_cons rep0 (reps_cons rep1 reps_nil))).mono fun e W' ⟨he, bel⟩ => ?_
  subst he
  exact ⟨_, rfl, _, _, _, [], _, [], hW', trodAll_mk1 (shut_bool Try.underlying4 _), (trodAll_cons_mk (Below.trod laidOut (by kernel_rfl) (of_decide_eq_true (by kernel_rfl)) k0 bel lt0) (trodAll_cons_mk (Below.trod laidOut (by kernel_rfl) (of_decide_eq_true (by kernel_rfl)) k1 bel lt1) trodAll_mk0)), rfl, bel.frame _, fun h => by cases h⟩
theorem over : Rows.hopAgreeRow.holds Try.pinned (OpenSpec.ofChange Rows.hopAgreeSpec) :=
  OpenClaim.holds_of_wide 16 Try.f16 rfl rfl rfl rfl rfl rfl rfl ⟨rfl, rfl, rfl, rfl, rfl⟩ rfl rfl rfl rfl rfl (by kernel_rfl) Try.func16 closed
    (of_decide_eq_true (by kernel_rfl)) (by unfold Func.isWrapper; first | (rw [if_pos (by decide +kernel)]; kernel_rfl) | (rw [if_neg (by decide +kernel)]; exact ⟨rfl, rfl⟩))
    (fun os started H enc _ => lifted os started H enc)
theorem proved : Rows.HopAgreeSaid := over
#print axioms proved
end Go.Proofs.Ytmcannmjielalaa.hopAgree
