/- What functions of the program compute: spf25c -/
import Derived.Test.YtmcannmjielalaaBspf25b
import Derived.Test.YtmcannmjielalaaProg
import Derived.KernelRfl
set_option linter.unusedVariables false
set_option linter.unusedSimpArgs false
namespace Go.Proofs.Ytmcannmjielalaa
namespace A

theorem el_41 : elemOf Try.prog 41 = some (49, 3, 24) := by kernel_rfl
theorem mo_156 : mapOf Try.prog 156 = some (3, 22) := by kernel_rfl
theorem sl_41 : isSl Try.prog 41 = true := by kernel_rfl
theorem st_164 : structPlaces Try.prog 164 = some [(0, 1), (1, 1), (2, 1), (3, 1)] := by kernel_rfl
theorem us_41 : Try.prog.underlying 41 = some (.slice 49) := by kernel_rfl
theorem ze_164 : zeroOf Try.prog 164 = some (.agg #[.int .i64 0, .map none, .map none, .pointer none]) := by kernel_rfl
theorem ze_22 : zeroOf Try.prog 22 = some (.slice none 0 0) := by kernel_rfl
theorem DInv.perm {l : List Arc} {r : Int} {known : Int → Option (Int × Int)} {done : Int → Bool} {hp hp' : List (Int × Int)} {pend : Arc → Prop} (I : DInv l r known done hp pend) (h : hp.Perm hp') : DInv l r known done hp' pend :=
  ⟨I.k1, I.d1, I.d2, fun v p a b => h.mem_iff.1 (I.h1 v p a b), fun a => h.mem_iff.1 (I.hr a), fun c v a => I.h2 c v (h.mem_iff.2 a)⟩
def cntA (l : List Arc) (D : Int → Bool) : Nat := (l.filter fun a => !D a.f).length
theorem cntA_done : ∀ {l : List Arc} {D : Int → Bool} {n : Int}, D n = false → cntA l D = cntA l (updF D n true) + (l.filter fun a => a.f == n).length
  | [], _, _, _ => rfl
  | a :: l, D, n, h => by
    have ih := cntA_done (l := l) h
    unfold cntA at *
    simp only [List.filter_cons]
    by_cases e : a.f = n
    · have h1 : updF D n true a.f = true := by rw [e, updF_same]
      rw [e, h] at *
      simp [h1, updF_same]
      omega
    · have h1 : updF D n true a.f = D a.f := updF_ne _ _ e
      have h2 : (a.f == n) = false := by simpa using e
      rw [h1, h2]
      cases D a.f <;> simp <;> omega
def rKeys (l : List Arc) (r : Int) : List Int := ((List.range 65).map fun (i : Nat) => (i : Int)).filter fun v => decide (v ≠ r) && isF l r v
theorem rKeys_sorted (l : List Arc) (r : Int) : (rKeys l r).Pairwise (· < ·) := by
  refine List.Pairwise.sublist List.filter_sublist ?_
  rw [List.pairwise_map]
  exact List.pairwise_lt_range.imp (fun h => by omega)
theorem rKeys_mem {l : List Arc} (hl : ∀ a ∈ l, AOk a) {r v : Int} : v ∈ rKeys l r ↔ v ≠ r ∧ isF l r v = true := by
  unfold rKeys
  rw [List.mem_filter]
  simp only [Bool.and_eq_true, decide_eq_true_eq, List.mem_map, List.mem_range]
  refine ⟨fun h => h.2, fun h => ⟨?_, h⟩⟩
  rcases (isF_wk hl h.2).rng hl with e | e
  · exact absurd e h.1
  · exact ⟨v.toNat, by omega, by omega⟩
theorem rKeys_len (l : List Arc) (r : Int) : (rKeys l r).length ≤ 65 := by
  unfold rKeys
  refine Nat.le_trans (List.length_filter_le _ _) ?_
  simp
/-- What is known when all is done. -/
structure KEnd (l : List Arc) (r : Int) (km : List (Int × Rt)) : Prop where
  s : sortI (mKeys km) = rKeys l r
  g : ∀ n ∈ rKeys l r, (mGet km n).getD ⟨0, 0, 0⟩ = ⟨n, viaM l r n, dF l r n⟩
  n : km.length ≤ 65
theorem kend_of {l : List Arc} (hl : ∀ a ∈ l, AOk a) {r : Int} {km : List (Int × Rt)} {D : Int → Bool} (K : KI km) (I : DInv l r (kF km) D [] (fun _ => False)) : KEnd l r km := by
  have hk : ∀ v, v ∈ mKeys km ↔ v ∈ rKeys l r := fun v => by
    rw [rKeys_mem hl, ← mGet_mem]
    have h := I.done hl v
    unfold kF at h
    split at h
    · rename_i hc
      rw [Option.map_eq_some_iff] at h
      obtain ⟨x, hx, _⟩ := h
      simp [hx, hc]
    · rename_i hc
      rw [Option.map_eq_none_iff] at h
      rw [h]
      simp only [Option.isSome_none, Bool.false_eq_true, false_iff]
      exact hc
  refine ⟨sortI_eq K.1 (rKeys_sorted l r) (fun x => hk x), fun n hn => ?_, mLen K.1 (n := 65) (fun x hx => ?_)⟩
  · have h := I.done hl n
    rw [if_pos ((rKeys_mem hl).1 hn)] at h
    unfold kF at h
    rw [Option.map_eq_some_iff] at h
    obtain ⟨x, hx, he⟩ := h
    rw [hx, Option.getD_some]
    have h1 := K.2 n x hx
    obtain ⟨x1, x2, x3⟩ := x
    simp only [Prod.mk.injEq] at he h1
    rw [h1, he.1, he.2]
  · have h := (rKeys_mem hl).1 ((hk x).1 hx)
    rcases (isF_wk hl h.2).rng hl with e | e
    · exact absurd e h.1
    · omega
/-- The next one is taken. -/
theorem loop_next {l : List Arc} {r : Int} {K : Int → Option (Int × Int)} {D : Int → Bool} {h h3 : List (Int × Int)} {x2 : Int × Int} {q2 : Bool} (J : DInv l r K D h (fun _ => False)) (hq0 : q2 = false → h = [] ∧ h3 = []) (hq1 : q2 = true → h.Perm (x2 :: h3) ∧ ∀ e ∈ h, x2.1 ≤ e.1) :
    (q2 = true → DInv l r K D (x2 :: h3) (fun _ => False) ∧ ∀ e ∈ x2 :: h3, x2.1 ≤ e.1) ∧ (q2 = false → DInv l r K D [] (fun _ => False)) :=
  ⟨fun e => ⟨J.perm (hq1 e).1, fun y hy => (hq1 e).2 y ((hq1 e).1.mem_iff.2 hy)⟩, fun e => by have := hq0 e; rw [this.1] at J; exact J⟩
def bI (q : Bool) : Nat := if q then 1 else 0
theorem take_len {h h3 : List (Int × Int)} {x2 : Int × Int} {q2 : Bool} (hq0 : q2 = false → h = [] ∧ h3 = []) (hq1 : q2 = true → h.Perm (x2 :: h3) ∧ ∀ e ∈ h, x2.1 ≤ e.1) : h3.length + bI q2 = h.length := by
  cases q2 with
  | false => rw [(hq0 rfl).1, (hq0 rfl).2]; rfl
  | true => rw [(hq1 rfl).1.length_eq]; simp [bI]

/- spf.Routes -/
def spf_Routes_r7_T : Bool × List (List Nat × List Nat) := (true, [([], []), ([], []), ([1], [1]), ([], []), ([], []), ([4], [4]), ([3, 5], [3, 5]), ([], []), ([7], [7]), ([6, 8], [6, 8]), ([0, 2, 9, 9, 0, 1, 2, 3, 4, 5, 6, 7, 8, 9], [0, 2, 9])])
def spf_Routes_r7_B : List Nat := [0, 0, 2, 0, 0, 16, 56, 0, 128, 504, 1023]
theorem spf_Routes_r7_t : Go.Proofs.YtmcannmjielalaaW.PrintLast.rtab .any (Go.Proofs.YtmcannmjielalaaW.PrintLast.opsOf Try.f43 7) = spf_Routes_r7_T := by kernel_rfl
theorem spf_Routes_r7_b : Go.Proofs.YtmcannmjielalaaW.PrintLast.waitsOk spf_Routes_r7_T.2 spf_Routes_r7_B = true := by kernel_rfl
def spf_Routes_r13_T : Bool × List (List Nat × List Nat) := (true, [([], []), ([0], [0]), ([1], [1]), ([2], [2]), ([], []), ([4], [4]), ([3, 5], [3, 5]), ([6], [6])])
def spf_Routes_r13_B : List Nat := [0, 1, 3, 7, 0, 16, 63, 127]
theorem spf_Routes_r13_t : Go.Proofs.YtmcannmjielalaaW.PrintLast.rtab .any (Go.Proofs.YtmcannmjielalaaW.PrintLast.opsOf Try.f43 13) = spf_Routes_r13_T := by kernel_rfl
theorem spf_Routes_r13_b : Go.Proofs.YtmcannmjielalaaW.PrintLast.waitsOk spf_Routes_r13_T.2 spf_Routes_r13_B = true := by kernel_rfl
def spf_Routes_r14_T : Bool × List (List Nat × List Nat) := (true, [([], []), ([0], [0]), ([1], [1]), ([2], [2]), ([], []), ([4], [4]), ([3, 5, 0, 1, 2, 3, 4, 5], [3, 5])])
def spf_Routes_r14_B : List Nat := [0, 1, 3, 7, 0, 16, 63]
theorem spf_Routes_r14_t : Go.Proofs.YtmcannmjielalaaW.PrintLast.rtab .any (Go.Proofs.YtmcannmjielalaaW.PrintLast.opsOf Try.f43 14) = spf_Routes_r14_T := by kernel_rfl
theorem spf_Routes_r14_b : Go.Proofs.YtmcannmjielalaaW.PrintLast.waitsOk spf_Routes_r14_T.2 spf_Routes_r14_B = true := by kernel_rfl
set_option maxRecDepth 100000 in
set_option maxHeartbeats 8000000 in
theorem spf_Routes {l : List Arc} {r : Int} (hll : l.length ≤ 400000 := by omega) : Triple Try.prog 43 [.sl 3 (l.map arcC), .int r] [] (Own 49 3 ((if arcsB none l then routesM l r else []).map rtC) []) := by
  refine triple_of Try.func43 rfl (by kernel_rfl) rfl (by simp) ?_
  refine aSeq ?_
  refine aReg ?_
  refine sp pMa ?_
  refine oNil ?_
  refine aSeq ?_
  refine aSeq ?_
  refine aReg ?_
  refine sp pM ?_
  refine sq ?_
  refine cv rfl rfl rfl (lents_refl _) graph_Check ?_
  refine sp pB ?_
  refine oNil ?_
  refine aCondNe rfl (fun c16 => ?_) (fun c16 => ?_)
  · skip
    refine aSeq ?_
    refine aWeak (weak_nil 49 3) ?_
    refine aReg ?_
    refine sp pMa ?_
    refine oNil ?_
    refine aRet ?_
    refine finOwn rfl ?_
    have hno : arcsB none l = false := by cases h : arcsB none l <;> simp_all
    rw [hno]
    rfl
  · skip
    refine aSkip ?_
    refine aSeq ?_
    have hyes : arcsB none l = true := by cases h : arcsB none l <;> simp_all
    have hlA := arcs_ok hyes
    have hsA := arcsB_sorted hyes
    refine aReg ?_
    refine sq ?_
    refine qMakeMap rfl rfl (by decide) (fun b17 => ?_)
    refine sp pMa ?_
    refine oNil ?_
    refine aSeq ?_
    refine aSeq ?_
    refine aReg ?_
    refine sp pM ?_
    refine sp (by first | exact pLm sl_22 | exact pLs sl_22) ?_
    refine sp pM ?_
    refine oNil ?_
    refine aBlock ?_
    refine aLoopI (α := Nat × List (Int × SlE Arc)) (fun (i, m) => i ≤ l.length ∧ ∀ k, (slAt m k).l = (l.take i).filter fun a => a.f == k) (fun (i, m) => ([(1, .int r), (5, .v (.map (some b17))), (18, .sl 3 (l.map arcC)), (19, .int l.length), (20, .int i)], .map b17 (kvM slE m) :: msH 36 3 arcC m)) (fun (i, m) => l.length - i) (0, []) ?_ ?_ ?_
    · skip
      exact ⟨by omega, fun k => by simp [slAt, mGet, sl0]⟩
    · skip
      exact weak_env ⟨rfl, rfl, rfl, gInt rfl (by simp), rfl, trivial⟩
    · rintro ⟨i, m⟩ ⟨hi, hM⟩
      skip
      refine aSeq ?_
      refine aReg ?_
      refine sp pB ?_
      refine oNil ?_
      refine aSeq ?_
      refine aCondDec rfl (fun c21 => ?_) (fun c21 => ?_)
      · skip
        refine aSkip ?_
        refine aSeq ?_
        refine aBlock ?_
        refine aSeq ?_
        obtain ⟨a, ha⟩ : ∃ a, l[i]? = some a := ⟨_, List.getElem?_eq_getElem (by omega)⟩
        refine aReg ?_
        first | refine sp (pIx es_22) ?_ | (refine obtSN 18 20 rfl rfl (by omega) (fun x22 hx22 => ?_); refine sp (pIs es_22 hx22) ?_) | (refine obtS 18 20 rfl rfl (by omega) (by omega) (fun x22 hx22 => ?_); refine sp (pIs es_22 hx22) ?_) | refine sp (pIo es_22) ?_
        refine sr (by first | exact rSW ty_36 rfl | exact rSA ty_36 | exact rBWa ty_36 | exact rBW ty_36 | exact rBA ty_36 | exact rArA ty_36 (fun _ => rfl)) ?_
        refine sq ?_
        refine qAlloc rfl rfl (by decide) ze_36 rfl (fun b7 => ?_)
        refine sa ?_
        refine oStW rfl rfl rfl rfl (by repeat constructor) ty_36 ?_
        refine oNil ?_
        have hsl : (slAt m a.f).l.length ≤ 1000000 := by rw [hM]; have := filter_len (p := fun b : Arc => b.f == a.f) (l := l) (i := i); omega
        refine aWeak (weak_takeS (h0 := [_, _]) a.f) ?_
        dsimp only [List.cons_append, List.nil_append]
        refine aDrawS (h1 := [.box b7 _, .map b17 _]) spf_Routes_r7_t spf_Routes_r7_b [10] 11 #[false, false, false, false, false, false, false, false, false, false, false] (by kernel_rfl) rfl rfl (.cons (by repeat constructor) (.cons (by repeat constructor) .nil)) (fun HT => ?_)
        refine ep HT 0 rfl pM ?_
        refine ep HT 1 rfl (pFb fd_36_0) ?_
        refine er HT 2 rfl (rB1 ty_3) ?_
        refine ep HT 3 rfl pM ?_
        refine ep HT 4 rfl (pFb fd_36_0) ?_
        refine er HT 5 rfl (rB1 ty_3) ?_
        refine er HT 6 rfl (rMG mo_156 ze_22 (sl0 : SlE Arc) .refl) ?_
        refine er HT 7 rfl (by first | exact rBWa ty_36 | exact rBW ty_36 | exact rBA ty_36) ?_
        refine e1 HT 8 rfl ?_
        refine qLit (l := [_]) rfl rfl (by decide) us_22 ty_36 ze_36 rfl (by decide) (by decide) rfl rfl rfl (fun b32 => ?_)
        refine eOneS (i := 9) #[true, true, true, true, true, true, true, true, true, true, false] rfl (HT.one (by kernel_rfl)) (by decide) ?_
        · skip
          refine stA (hx := [.sl (slAt m a.f).g _ _ _ _, .sl (some b32) _ _ _ _]) (wantN rfl) (fun t ht => by cases ht <;> decide) (.cons (by repeat constructor) (.cons (by repeat constructor) .nil)) (by repeat constructor) ?_
          refine oAppT ([a] : List Arc) rfl rfl (by repeat constructor) (srcOwn rfl (by repeat constructor) rfl) el_22 sl_22 (fun g33 k33 => ?_)
          refine undel (d := 33) rfl ?_
          dsimp only [List.cons_append, List.nil_append]
          refine eLast ?_
          refine f1 HT 10 rfl ?_
          refine oMP (c := slE) (v := ⟨g33, k33, (slAt m a.f).l ++ [a]⟩) rfl rfl rfl rfl mo_156 ?_
          refine fE HT ?_
          clear HT
          refine aReg ?_
          refine sp pAd ?_
          refine sp pM ?_
          refine oNil ?_
          refine ⟨(i + 1, mPut m a.f ⟨g33, k33, (slAt m a.f).l ++ [a]⟩), ⟨by omega, fun k => ?_⟩, by show l.length - (i + 1) < l.length - i; omega, ?_⟩
          rotate_left
          · refine Weak.trans ?_ (weak_putS (h0 := [_]))
            exact weak_sub ⟨rfl, rfl, rfl, rfl, gInt rfl (by simp), trivial⟩ (.cons (by repeat constructor) (.cons (by repeat constructor) (tk_after (l := [_, _]))))
          rw [slAt_put, filter_take ha]
          by_cases e : k = a.f
          · subst e; simp [hM]
          · rw [if_neg e, hM, if_neg (by simpa using fun e' => e e'.symm), List.append_nil]
      · skip
        refine aExit rfl ?_
        refine aSeq ?_
        rw [take_all (by omega)] at hM
        refine aWeak weak_settleMS ?_
        refine aReg ?_
        refine sp pM ?_
        refine sq ?_
        refine qMakeMap rfl rfl (by decide) (fun b36 => ?_)
        refine sq ?_
        refine qMM boA rfl (fun b37 => ?_)
        refine sp pM ?_
        refine sp (pBuild rfl st_162 ze_162 rfl rfl rfl rfl) ?_
        refine sq ?_
        refine qLit (l := [_]) rfl rfl (by decide) us_261 ty_162 ze_162 rfl (by decide) (by decide) rfl rfl rfl (fun b40 => ?_)
        refine oWeak (weak_settle (k := 40) (es := [(0, r)].map spC) rfl .hd rfl) ?_
        refine sa ?_
        refine ca rfl rfl rfl (heap_New [(0, r)] (by simp)) ?_
        rintro _ _ ⟨hb, g, c, h, rfl, rfl, hk, hpm⟩
        refine sp (pBuild rfl st_164 ze_164 rfl rfl rfl rfl) ?_
        refine sq ?_
        refine qBox rfl rfl (by decide) rfl rfl (fun b43 => ?_)
        refine sp pMa ?_
        refine oNil ?_
        refine aSeq ?_
        refine aSeq ?_
        refine aReg ?_
        refine sp pM ?_
        refine sp pNv ?_
        refine sp (pFb fd_164_3) ?_
        refine sr (rB1 ty_159) ?_
        refine sa ?_
        refine ca rfl rfl rfl (heap_Take hb g c h hk (by have := hpm.length_eq; simp at this; omega)) ?_
        rintro _ _ ⟨x, q, h1, g1, c1, rfl, rfl, hk1, hq0, hq1⟩
        refine sp pM ?_
        refine sp pX ?_
        refine sp pX ?_
        refine sq ?_
        refine qAlloc rfl rfl (by decide) ze_162 rfl (fun b9 => ?_)
        refine sa ?_
        refine oStW rfl rfl rfl rfl (by repeat constructor) ty_162 ?_
        refine sp pMa ?_
        refine oNil ?_
        refine aBlock ?_
        refine loopF (α := List (Int × Rt) × List (Int × Bool) × (Int × Int) × Bool × Option Nat × Nat × List (Int × Int) × Nat) (kept := [(5, _), (8, _)]) (fun (km, dm, x, q, g, c, h, b) => HeapOk h ∧ KI km ∧ (q = true → DInv l r (kF km) (DF dm) (x :: h) (fun _ => False) ∧ ∀ e ∈ x :: h, x.1 ≤ e.1) ∧ (q = false → DInv l r (kF km) (DF dm) [] (fun _ => False)) ∧ h.length + bI q + cntA l (DF dm) ≤ l.length + 1) (fun (km, dm, x, q, g, c, h, b) => [(9, .v (.pointer (some ⟨b, 0, none⟩))), (10, .v (.bool q))]) (fun (km, dm, x, q, g, c, h, b) => [.box b43 [.int r, .v (.map (some b36)), .v (.map (some b37)), .v (.pointer (some ⟨hb, 0, none⟩))], .map b36 (kvM rtA (km)), .map b37 (kvM boA (dm)), .box hb [.v (slV g (h).length c)], .sl g c 162 2 ((h).map spC), .box b (spC x)]) (fun (km, dm, x, q, g, c, h, b) => h.length + bI q + cntA l (DF dm)) ([], [], x, q, g1, c1, h1, b9) ?_ ⟨rfl, rfl, rfl, rfl, trivial⟩ (by repeat constructor) ?_
        · skip
          have hN : DInv l r (kF []) (DF []) h (fun _ => False) := (dinv_new l r).perm hpm.symm
          have hnx := loop_next hN hq0 hq1
          have htl := take_len hq0 hq1
          have hpl := hpm.length_eq
          simp at hpl
          exact ⟨hk1, ⟨by simp [mKeys], fun v x hx => by simp [mGet] at hx⟩, hnx.1, hnx.2, by have : cntA l (DF []) ≤ l.length := List.length_filter_le _ _; omega⟩
        · rintro ⟨km, dm, x, q, g, c, h, b⟩ ⟨hk, K, hQ1, hQ0, hB⟩
          refine aSeq ?_
          refine aSeq ?_
          refine aReg ?_
          refine sp pM ?_
          refine oNil ?_
          refine aCond rfl (fun c52 => ?_) (fun c52 => ?_)
          · skip
            refine aSkip ?_
            refine aSeq ?_
            refine aBlock ?_
            refine aSeq ?_
            obtain ⟨I, hmin⟩ := hQ1 (by assumption)
            refine aDrawT spf_Routes_r13_t spf_Routes_r13_b [] 8 #[false, false, false, false, false, false, false, false] (by kernel_rfl) rfl rfl (fun HT => ?_)
            refine dp HT 0 rfl pM ?_
            refine dp HT 1 rfl pNv ?_
            refine dp HT 2 rfl (pFb fd_164_2) ?_
            refine dr HT 3 rfl (rB1 ty_144) ?_
            refine dp HT 4 rfl (by first | exact pFb fd_162_1 | exact pFs fd_162_1) ?_
            refine dr HT 5 rfl (by first | exact rS1 ty_3 | exact rB1 ty_3 | exact rAr ty_3 | exact rArL ty_3 | exact rArR2 ty_3) ?_
            refine dr HT 6 rfl (rMGb mo_144 ze_4) ?_
            refine dp HT 7 rfl pNo ?_
            refine dE HT ?_
            clear HT
            refine aCondNot rfl (fun c68 => ?_) (fun c68 => ?_)
            · skip
              refine aSeq ?_
              refine aDrawT spf_Routes_r14_t spf_Routes_r14_b [6] 7 #[false, false, false, false, false, false, false] (by kernel_rfl) rfl rfl (fun HT => ?_)
              refine dp HT 0 rfl pM ?_
              refine dp HT 1 rfl pNv ?_
              refine dp HT 2 rfl (pFb fd_164_2) ?_
              refine dr HT 3 rfl (rB1 ty_144) ?_
              refine dp HT 4 rfl (by first | exact pFb fd_162_1 | exact pFs fd_162_1) ?_
              refine dr HT 5 rfl (by first | exact rS1 ty_3 | exact rB1 ty_3 | exact rAr ty_3 | exact rArL ty_3 | exact rArR2 ty_3) ?_
              refine dGo ?_
              refine eLast ?_
              refine f1 HT 6 rfl ?_
              first | refine oMP rfl rfl rfl rfl mo_144 ?_ | refine oMapSet rfl rfl rfl rfl rfl (by repeat constructor) mo_144 ?_
              refine fE HT ?_
              clear HT
              refine aReg ?_
              refine sp pM ?_
              refine sp pM ?_
              refine sp (by first | exact pFb fd_162_1 | exact pFs fd_162_1) ?_
              refine sr (by first | exact rS1 ty_3 | exact rB1 ty_3 | exact rAr ty_3 | exact rArL ty_3 | exact rArR2 ty_3) ?_
              refine sr (rMG (c := slS 3 arcC) mo_156 ze_22 ([] : List Arc) cast_nil) ?_
              rw [show slS 3 arcC ((mGet (msL m) x.2).getD []) = .sl 3 ((l.filter fun a => a.f == x.2).map arcC) by rw [← hM x.2, msL_get, slAt]; cases mGet m x.2 <;> rfl]
              refine sp (by first | exact pFb fd_162_1 | exact pFs fd_162_1) ?_
              refine sr (by first | exact rS1 ty_3 | exact rB1 ty_3 | exact rAr ty_3 | exact rArL ty_3 | exact rArR2 ty_3) ?_
              have hnd : DF dm x.2 = false := by assumption
              have Itk : DInv l r (kF km) (DF (mPut dm x.2 true)) h (fun a => a.f = x.2) := by rw [DF_put]; exact I.take hlA hsA (.refl _) hmin hnd
              have hcnt := cntA_done (l := l) hnd
              rw [← DF_put (b := true)] at hcnt
              refine sa ?_
              refine ca rfl rfl rfl (spf_spread hlA hsA (by omega) b43 b36 b37 hb km (mPut dm x.2 true) g c h x.2 (l.filter fun a => a.f == x.2) rfl hk (by omega) Itk (by rw [DF_put, updF_same]) K) ?_
              rintro _ _ ⟨km', g', c', h', rfl, rfl, hk', I', K', hl'⟩
              refine oNil ?_
              refine aSeq ?_
              refine aSeq ?_
              refine aReg ?_
              refine sr (by first | exact rSW ty_162 rfl | exact rSA ty_162 | exact rBWa ty_162 | exact rBW ty_162 | exact rBA ty_162 | exact rArA ty_162 (fun _ => rfl)) ?_
              refine oNil ?_
              refine aReg ?_
              refine sq ?_
              refine qAlloc rfl rfl (by decide) ze_162 rfl (fun b9 => ?_)
              refine sa ?_
              refine oStW rfl rfl rfl rfl (by repeat constructor) ty_162 ?_
              refine oNil ?_
              refine aReg ?_
              refine sp pM ?_
              refine sp pNv ?_
              refine sp (pFb fd_164_3) ?_
              refine sr (rB1 ty_159) ?_
              refine sa ?_
              first | refine ca rfl rfl rfl (heap_Take hb g' c' h' hk' (by omega)) ?_ | refine ca rfl rfl rfl (heap_Take hb g c h hk (by omega)) ?_
              rintro _ _ ⟨x2, q2, h3, g3, c3, rfl, rfl, hk3, hq0', hq1'⟩
              have hlt := take_len hq0' hq1'
              refine sp pM ?_
              refine sp pX ?_
              refine sp pX ?_
              refine sa ?_
              refine oStW rfl rfl rfl rfl (by repeat constructor) ty_162 ?_
              refine sp pMa ?_
              refine oNil ?_
              have hbq : bI q = 1 := by rw [show q = true by assumption]; rfl
              first
                | (refine ⟨(km', mPut dm x.2 true, x2, q2, g3, c3, h3, _), ?_, by (try dsimp only); omega, ⟨rfl, rfl, rfl, rfl, trivial⟩, _, (by repeat constructor)⟩
                   have hnx := loop_next I' hq0' hq1'
                   exact ⟨hk3, K', hnx.1, hnx.2, by omega⟩)
                | (refine ⟨(km, dm, x2, q2, g3, c3, h3, _), ?_, by (try dsimp only); omega, ⟨rfl, rfl, rfl, rfl, trivial⟩, _, (by repeat constructor)⟩
                   have hdn : DF dm x.2 = true := by assumption
                   have hnx := loop_next (I.old (.refl _) hdn) hq0' hq1'
                   exact ⟨hk3, K, hnx.1, hnx.2, by omega⟩)
            · skip
              refine aSkip ?_
              refine aSeq ?_
              refine aSeq ?_
              refine aReg ?_
              refine sr (by first | exact rSW ty_162 rfl | exact rSA ty_162 | exact rBWa ty_162 | exact rBW ty_162 | exact rBA ty_162 | exact rArA ty_162 (fun _ => rfl)) ?_
              refine oNil ?_
              refine aReg ?_
              refine sq ?_
              refine qAlloc rfl rfl (by decide) ze_162 rfl (fun b9 => ?_)
              refine sa ?_
              refine oStW rfl rfl rfl rfl (by repeat constructor) ty_162 ?_
              refine oNil ?_
              refine aReg ?_
              refine sp pM ?_
              refine sp pNv ?_
              refine sp (pFb fd_164_3) ?_
              refine sr (rB1 ty_159) ?_
              refine sa ?_
              first | refine ca rfl rfl rfl (heap_Take hb g' c' h' hk' (by omega)) ?_ | refine ca rfl rfl rfl (heap_Take hb g c h hk (by omega)) ?_
              rintro _ _ ⟨x2, q2, h3, g3, c3, rfl, rfl, hk3, hq0', hq1'⟩
              have hlt := take_len hq0' hq1'
              refine sp pM ?_
              refine sp pX ?_
              refine sp pX ?_
              refine sa ?_
              refine oStW rfl rfl rfl rfl (by repeat constructor) ty_162 ?_
              refine sp pMa ?_
              refine oNil ?_
              have hbq : bI q = 1 := by rw [show q = true by assumption]; rfl
              first
                | (refine ⟨(km', mPut dm x.2 true, x2, q2, g3, c3, h3, _), ?_, by (try dsimp only); omega, ⟨rfl, rfl, rfl, rfl, trivial⟩, _, (by repeat constructor)⟩
                   have hnx := loop_next I' hq0' hq1'
                   exact ⟨hk3, K', hnx.1, hnx.2, by omega⟩)
                | (refine ⟨(km, dm, x2, q2, g3, c3, h3, _), ?_, by (try dsimp only); omega, ⟨rfl, rfl, rfl, rfl, trivial⟩, _, (by repeat constructor)⟩
                   have hdn : DF dm x.2 = true := by assumption
                   have hnx := loop_next (I.old (.refl _) hdn) hq0' hq1'
                   exact ⟨hk3, K, hnx.1, hnx.2, by omega⟩)
          · skip
            refine aExit rfl ?_
            refine aSeq ?_
            refine aReg ?_
            refine sp pMa ?_
            refine oNil ?_
            refine aSeq ?_
            refine aSeq ?_
            refine aWeak (weak_nil 49 3) ?_
            have hE := kend_of hlA K (hQ0 (by assumption))
            refine aReg ?_
            refine sp pM ?_
            refine sp pNv ?_
            refine sp (pFb fd_164_1) ?_
            refine sr (rB1 ty_158) ?_
            refine sa ?_
            refine ca rfl rfl rfl (keys_mir b36) ?_
            rintro _ _ ⟨pb, rfl, rfl⟩
            refine sa ?_
            refine cai rfl rfl rfl (sorted_int_s _ _ (kvM rtA km) _ (keys1_mir_iter b36 pb (kvM rtA km)) (by rw [kvM_len]; have := hE.n; omega)) ?_
            rw [kvM_keys, hE.s]
            have hkl := rKeys_len l r
            refine sp (by first | exact pLm sl_25 | exact pLs sl_25 | exact pLv sl_25) ?_
            refine sp pM ?_
            refine oNil ?_
            refine aBlock ?_
            refine loopF (α := Nat × List Rt × Option Nat × Nat) (kept := [(8, _), (89, _), (90, _)]) (fun (i, out, g, c) => i ≤ (rKeys l r).length ∧ out = ((rKeys l r).take i).map fun v => ⟨v, viaM l r v, dF l r v⟩) (fun (i, out, g, c) => [(91, .int i), (11, .v (slV g out.length c))]) (fun (i, out, g, c) => [.sl g c 49 3 (out.map rtC)]) (fun (i, out, g, c) => (rKeys l r).length - i) (0, [], _, _) ?_ ⟨gInt rfl (by first | rfl | omega | simp), gLen rfl (by first | rfl | simp | (simp; omega)), rfl, rfl, rfl, trivial⟩ (by repeat constructor) ?_
            · skip
              exact ⟨by omega, rfl⟩
            · rintro ⟨i, out, g, c⟩ ⟨hi, ho⟩
              refine aSeq ?_
              refine aReg ?_
              refine sp pB ?_
              refine oNil ?_
              refine aSeq ?_
              refine aCondDec rfl (fun c92 => ?_) (fun c92 => ?_)
              · skip
                refine aSkip ?_
                refine aSeq ?_
                refine aBlock ?_
                refine aSeq ?_
                obtain ⟨nn, hnn⟩ : ∃ n, (rKeys l r)[i]? = some n := ⟨_, List.getElem?_eq_getElem (by omega)⟩
                have hget := hE.g nn (List.mem_of_getElem? hnn)
                refine aReg ?_
                first | refine sp (pIx es_25) ?_ | (refine obtSN 89 91 rfl rfl (by omega) (fun x93 hx93 => ?_); refine sp (pIs es_25 hx93) ?_) | (refine obtS 89 91 rfl rfl (by omega) (by omega) (fun x93 hx93 => ?_); refine sp (pIs es_25 hx93) ?_) | refine sp (pIo es_25) ?_
                refine sr (by first | exact rS1 ty_3 | exact rB1 ty_3 | exact rAr ty_3 | exact rArL ty_3 | exact rArR2 ty_3) ?_
                refine sp pMa ?_
                refine oNil ?_
                have hol : out.length ≤ 65 := by rw [ho, List.length_map, List.length_take]; omega
                refine aReg ?_
                refine sp pM ?_
                refine sp pM ?_
                refine sp pNv ?_
                refine sp (pFb fd_164_1) ?_
                refine sr (rB1 ty_158) ?_
                refine sp pM ?_
                refine sr (rMG mo_158 ze_49 (⟨0, 0, 0⟩ : Rt) cast_rt) ?_
                rw [hget]
                refine sq ?_
                refine qLit (l := [_]) rfl rfl (by decide) us_41 ty_49 ze_49 rfl (by decide) (by decide) rfl rfl rfl (fun b102 => ?_)
                refine sa ?_
                refine oAppT ([⟨nn, viaM l r nn, dF l r nn⟩] : List Rt) rfl rfl (by repeat constructor) (srcOwn rfl (by repeat constructor) rfl) el_41 sl_41 (fun g103 k103 => ?_)
                refine sp pMa ?_
                refine oNil ?_
                refine aReg ?_
                refine sp pAd ?_
                refine sp pM ?_
                refine oNil ?_
                refine ⟨(i + 1, _, _, _), ?_, by (try dsimp only); omega, ⟨gInt rfl (by first | rfl | omega | simp), gLen rfl (by first | rfl | simp | (simp; omega)), rfl, rfl, rfl, trivial⟩, _, (by repeat constructor)⟩
                refine ⟨by omega, ?_⟩
                rw [take_step hnn, List.map_append, ← ho]
                rfl
              · skip
                refine aExit rfl ?_
                refine aSeq ?_
                refine aReg ?_
                refine sp pM ?_
                refine sp pMa ?_
                refine oNil ?_
                refine aRet ?_
                refine finOwn rfl ?_
                rw [hyes, ho, take_all (by omega)]
                rfl

end A
end Go.Proofs.Ytmcannmjielalaa
