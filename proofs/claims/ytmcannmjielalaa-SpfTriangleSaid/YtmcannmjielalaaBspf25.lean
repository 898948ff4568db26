/- What functions of the program compute: spf25 -/
import Derived.Test.YtmcannmjielalaaBspf25r
import Derived.Test.YtmcannmjielalaaProg
import Derived.KernelRfl
set_option linter.unusedVariables false
set_option linter.unusedSimpArgs false
namespace Go.Proofs.Ytmcannmjielalaa
namespace A

theorem fd_164_1 : fieldOf Try.prog 164 1 = some (1, 1, false) := by kernel_rfl
theorem fd_164_3 : fieldOf Try.prog 164 3 = some (3, 1, false) := by kernel_rfl
theorem fd_49_0 : fieldOf Try.prog 49 0 = some (0, 1, false) := by kernel_rfl
theorem fd_49_1 : fieldOf Try.prog 49 1 = some (1, 1, false) := by kernel_rfl
theorem fd_49_2 : fieldOf Try.prog 49 2 = some (2, 1, false) := by kernel_rfl
theorem mo_158 : mapOf Try.prog 158 = some (3, 49) := by kernel_rfl
theorem ty_159 : tyOf Try.prog 159 = some (1, false) := by kernel_rfl
theorem ty_49 : tyOf Try.prog 49 = some (3, true) := by kernel_rfl
theorem ze_49 : zeroOf Try.prog 49 = some (.agg #[.int .i64 0, .int .i64 0, .int .u64 0]) := by kernel_rfl
def rtV (r : Rt) : List Value := [.int .i64 r.nd, .int .i64 r.via, .int .u64 r.c]
theorem cast_rt : Cast (.v (.agg #[.int .i64 0, .int .i64 0, .int .u64 0])) (rtA ⟨0, 0, 0⟩) := cast_key (kf := rtV) (a := ⟨0, 0, 0⟩) rfl
def DF (dm : List (Int × Bool)) : Int → Bool := fun v => (mGet dm v).getD false
theorem DF_put {dm : List (Int × Bool)} {n : Int} {b : Bool} : DF (mPut dm n b) = updF (DF dm) n b := by
  funext v
  simp only [DF, mGet_put, updF]
  split <;> rfl
def kF (km : List (Int × Rt)) : Int → Option (Int × Int) := fun v => (mGet km v).map fun x => (x.via, x.c)
theorem kF_put {km : List (Int × Rt)} {x : Rt} : kF (mPut km x.nd x) = updF (kF km) x.nd (some (x.via, x.c)) := by
  funext v
  simp only [kF, mGet_put, updF]
  split <;> rfl
def KI (km : List (Int × Rt)) : Prop := (mKeys km).Nodup ∧ ∀ v x, mGet km v = some x → x.nd = v
theorem KI.put {km : List (Int × Rt)} {x : Rt} (h : KI km) : KI (mPut km x.nd x) := by
  refine ⟨mPut_nodup h.1, fun v y hy => ?_⟩
  rw [mGet_put] at hy
  split at hy
  · rename_i e; cases hy; exact e.symm
  · exact h.2 v y hy
def BetterR (km : List (Int × Rt)) (h : List (Int × Int)) (x : Rt) (km' : List (Int × Rt)) (h2 : List (Int × Int)) : Prop :=
  ((∀ w, mGet km x.nd = some w → x.c < w.c) ∧ km' = mPut km x.nd x ∧ h2.Perm (h ++ [(x.c, x.nd)])) ∨
  (∃ w, mGet km x.nd = some w ∧ x.c = w.c ∧ x.via < w.via ∧ km' = mPut km x.nd x ∧ h2 = h) ∨
  (∃ w, mGet km x.nd = some w ∧ (w.c < x.c ∨ w.c = x.c ∧ w.via ≤ x.via) ∧ km' = km ∧ h2 = h)
theorem better_step {l : List Arc} {r : Int} {km km' : List (Int × Rt)} {D : Int → Bool} {h h2 : List (Int × Int)} {pend pend' : Arc → Prop} {a : Arc} {x : Rt} (I : DInv l r (kF km) D h pend) (ha : a ∈ l) (hd : D a.f = true) (hpe : ∀ b, pend b → pend' b ∨ b = a) (hr : a.t ≠ r) (hnd : D a.t = false)
    (hx : x = ⟨a.t, hopV r (kF km) a, hopC r (kF km) a⟩) (K : KI km) (B : BetterR km h x km' h2) : DInv l r (kF km') D h2 pend' ∧ KI km' ∧ h2.length ≤ h.length + 1 ∧ ∀ v, v ≠ a.t → mGet km' v = mGet km v := by
  subst hx
  rcases B with ⟨h1, rfl, h3⟩ | ⟨w, h1, h2', h3, rfl, rfl⟩ | ⟨w, h1, h2', rfl, rfl⟩
  · refine ⟨?_, K.put, by have := h3.length_eq; simp at this; omega, fun v hv => by rw [mGet_put, if_neg hv]⟩
    rw [kF_put]
    refine I.put ha hd hpe hr hnd (fun p hp => ?_) (fun e he => h3.mem_iff.2 (by simp [he])) (h3.mem_iff.2 (by simp)) (fun e he => ?_)
    · simp only [kF, Option.map_eq_some_iff] at hp
      obtain ⟨w, hw, rfl⟩ := hp
      exact .inl (h1 w hw)
    · rcases List.mem_append.1 (h3.mem_iff.1 he) with h | h
      · exact .inl h
      · exact .inr (List.mem_singleton.1 h)
  · have hk : kF km a.t = some (w.via, w.c) := by simp only [kF, h1, Option.map_some]
    refine ⟨?_, K.put, by omega, fun v hv => by rw [mGet_put, if_neg hv]⟩
    rw [kF_put]
    refine I.put ha hd hpe hr hnd (fun p hp => ?_) (fun e he => he) ?_ (fun e he => .inl he)
    · rw [hk] at hp
      cases hp
      exact .inr ⟨h2', by simp only at h3 ⊢; omega⟩
    · have := I.h1 a.t _ hk hnd
      simp only at h2' this
      rw [h2']
      exact this
  · have hk : kF km' a.t = some (w.via, w.c) := by simp only [kF, h1, Option.map_some]
    refine ⟨I.keep hpe hk ?_, K, by omega, fun v _ => rfl⟩
    simp only at h2' ⊢
    unfold leV
    omega

/- spf.walk).better -/
def spf_better_r1_T : Bool × List (List Nat × List Nat) := (true, [([], []), ([0], [0]), ([1], [1]), ([2], [2]), ([], []), ([4], [4]), ([3, 5], [3, 5]), ([6], [6]), ([7], [7]), ([7], [7]), ([], []), ([10, 8, 0, 1, 2, 3, 4, 5, 6, 7, 8, 10], [8, 10]), ([9, 11, 0, 1, 2, 3, 4, 5, 6, 7, 8, 9, 10, 11], [9])])
def spf_better_r1_B : List Nat := [0, 1, 3, 7, 0, 16, 63, 127, 255, 255, 0, 1535, 4095]
theorem spf_better_r1_t : Go.Proofs.YtmcannmjielalaaW.PrintLast.rtab .any (Go.Proofs.YtmcannmjielalaaW.PrintLast.opsOf Try.f222 1) = spf_better_r1_T := by kernel_rfl
theorem spf_better_r1_b : Go.Proofs.YtmcannmjielalaaW.PrintLast.waitsOk spf_better_r1_T.2 spf_better_r1_B = true := by kernel_rfl
def spf_better_r3_T : Bool × List (List Nat × List Nat) := (true, [([], []), ([0], [0]), ([1], [1]), ([2], [2]), ([], []), ([4], [4]), ([], []), ([6], [6]), ([5, 7], [5, 7]), ([3, 8], [3, 8])])
def spf_better_r3_B : List Nat := [0, 1, 3, 7, 0, 16, 0, 64, 240, 511]
theorem spf_better_r3_t : Go.Proofs.YtmcannmjielalaaW.PrintLast.rtab .any (Go.Proofs.YtmcannmjielalaaW.PrintLast.opsOf Try.f222 3) = spf_better_r3_T := by kernel_rfl
theorem spf_better_r3_b : Go.Proofs.YtmcannmjielalaaW.PrintLast.waitsOk spf_better_r3_T.2 spf_better_r3_B = true := by kernel_rfl
def spf_better_r5_T : Bool × List (List Nat × List Nat) := (true, [([], []), ([0], [0]), ([1], [1]), ([2], [2]), ([], []), ([4], [4]), ([], []), ([3, 5, 6, 0, 1, 2, 3, 4, 5, 6], [3, 5, 6])])
def spf_better_r5_B : List Nat := [0, 1, 3, 7, 0, 16, 0, 127]
theorem spf_better_r5_t : Go.Proofs.YtmcannmjielalaaW.PrintLast.rtab .any (Go.Proofs.YtmcannmjielalaaW.PrintLast.opsOf Try.f222 5) = spf_better_r5_T := by kernel_rfl
theorem spf_better_r5_b : Go.Proofs.YtmcannmjielalaaW.PrintLast.waitsOk spf_better_r5_T.2 spf_better_r5_B = true := by kernel_rfl
set_option maxRecDepth 100000 in
set_option maxHeartbeats 2000000 in
theorem spf_better (wb kb db hb : Nat) (root : Int) (km : List (Int × Rt)) (dm : List (Int × Bool)) (g : Option Nat) (c : Nat) (h : List (Int × Int)) (x : Rt) (hk : HeapOk h) (hhl : h.length ≤ 1000000) : Triple Try.prog 222 [(.v (.pointer (some ⟨wb, 0, none⟩))), .agg (rtC x)] [.box wb [.int root, .v (.map (some kb)), .v (.map (some db)), .v (.pointer (some ⟨hb, 0, none⟩))], .map kb (kvM rtA (km)), .map db (kvM boA dm), .box hb [.v (slV g (h).length c)], .sl g c 162 2 ((h).map spC)] (fun r h' => ∃ km' g' c' h2, r = .tup [] ∧ h' = [.box wb [.int root, .v (.map (some kb)), .v (.map (some db)), .v (.pointer (some ⟨hb, 0, none⟩))], .map kb (kvM rtA (km')), .map db (kvM boA dm), .box hb [.v (slV g' (h2).length c')], .sl g' c' 162 2 ((h2).map spC)] ∧ HeapOk h2 ∧ BetterR km h x km' h2) := by
  refine triple_of Try.func222 rfl (by kernel_rfl) rfl (by simp) ?_
  refine aSeq ?_
  refine aReg ?_
  refine sq ?_
  refine qBox rfl rfl (by decide) rfl rfl (fun b3 => ?_)
  refine oNil ?_
  refine aSeq ?_
  refine aDrawT spf_better_r1_t spf_better_r1_b [11] 13 #[false, false, false, false, false, false, false, false, false, false, false, false, false] (by kernel_rfl) rfl rfl (fun HT => ?_)
  refine dp HT 0 rfl pM ?_
  refine dp HT 1 rfl pNv ?_
  refine dp HT 2 rfl (pFb fd_164_1) ?_
  refine dr HT 3 rfl (rB1 ty_158) ?_
  refine dp HT 4 rfl (pFb fd_49_0) ?_
  refine dr HT 5 rfl (rB1 ty_3) ?_
  refine dr HT 6 rfl (rMGo mo_158 ze_49 (⟨0, 0, 0⟩ : Rt) cast_rt) ?_
  refine dp HT 7 rfl pM ?_
  refine dp HT 8 rfl pX ?_
  refine dp HT 9 rfl pX ?_
  refine dGo ?_
  refine e1 HT 10 rfl ?_
  refine qAlloc rfl rfl (by decide) ze_49 rfl (fun b4 => ?_)
  refine eLast ?_
  refine f1 HT 11 rfl ?_
  refine oStW rfl rfl rfl rfl (by repeat constructor) ty_49 ?_
  refine fp HT 12 rfl pMa ?_
  refine fE HT ?_
  clear HT
  refine aSeq ?_
  refine aBlock ?_
  refine aSeq ?_
  refine aReg ?_
  refine sp pM ?_
  refine sp pNo ?_
  refine sp pM ?_
  refine oSplitNot 19 rfl (fun c19 => ?_) (fun c19 => ?_)
  · skip
    refine gf ?_
    refine gf ?_
    refine gf ?_
    refine gf ?_
    refine gf ?_
    refine sp pK ?_
    refine sp pMa ?_
    refine oNil ?_
    refine aCondT rfl ?_
    refine aDrawT spf_better_r3_t spf_better_r3_b [9] 10 #[false, false, false, false, false, false, false, false, false, false] (by kernel_rfl) rfl rfl (fun HT => ?_)
    refine dp HT 0 rfl pM ?_
    refine dp HT 1 rfl pNv ?_
    refine dp HT 2 rfl (pFb fd_164_3) ?_
    refine dr HT 3 rfl (rB1 ty_159) ?_
    refine dp HT 4 rfl (pFb fd_49_2) ?_
    refine dr HT 5 rfl (rB1 ty_37) ?_
    refine dp HT 6 rfl (pFb fd_49_0) ?_
    refine dr HT 7 rfl (rB1 ty_3) ?_
    refine dp HT 8 rfl (pBuild rfl st_162 ze_162 rfl rfl rfl rfl) ?_
    refine dGo ?_
    refine eLast ?_
    refine f1 HT 9 rfl ?_
    refine ca rfl rfl rfl (heap_Put hb g c h (x.c, x.nd) hk (by omega)) ?_
    rintro _ _ ⟨g', c', h2, rfl, rfl, hk2, hpm⟩
    refine fE HT ?_
    clear HT
    refine aDrawT spf_better_r5_t spf_better_r5_b [7] 8 #[false, false, false, false, false, false, false, false] (by kernel_rfl) rfl rfl (fun HT => ?_)
    refine dp HT 0 rfl pM ?_
    refine dp HT 1 rfl pNv ?_
    refine dp HT 2 rfl (pFb fd_164_1) ?_
    refine dr HT 3 rfl (rB1 ty_158) ?_
    refine dp HT 4 rfl (pFb fd_49_0) ?_
    refine dr HT 5 rfl (rB1 ty_3) ?_
    refine dr HT 6 rfl (by first | exact rBWa ty_49 | exact rBW ty_49 | exact rBA ty_49) ?_
    refine dGo ?_
    refine eLast ?_
    refine f1 HT 7 rfl ?_
    first | refine oMP rfl rfl rfl rfl mo_158 ?_ | refine oMapSet rfl rfl rfl rfl rfl (by repeat constructor) mo_158 ?_
    refine fE HT ?_
    clear HT
    first
      | (refine ⟨_, [.box wb [.int root, .v (.map (some kb)), .v (.map (some db)), .v (.pointer (some ⟨hb, 0, none⟩))], .map kb (kvM rtA (mPut km x.nd x)), .map db (kvM boA dm), .box hb [.v (slV g' (h2).length c')], .sl g' c' 162 2 ((h2).map spC)], _, rfl, (.cons (by repeat constructor) (.cons (by repeat constructor) (.cons (by repeat constructor) (.cons (by repeat constructor) (.cons (by repeat constructor) .nil))))), mPut km x.nd x, g', c', h2, rfl, rfl, hk2, .inl ⟨fun w hw => ?_, rfl, hpm⟩⟩; simp_all; done)
      | (refine ⟨_, [.box wb [.int root, .v (.map (some kb)), .v (.map (some db)), .v (.pointer (some ⟨hb, 0, none⟩))], .map kb (kvM rtA (mPut km x.nd x)), .map db (kvM boA dm), .box hb [.v (slV g (h).length c)], .sl g c 162 2 ((h).map spC)], _, rfl, (.cons (by repeat constructor) (.cons (by repeat constructor) (.cons (by repeat constructor) (.cons (by repeat constructor) (.cons (by repeat constructor) .nil))))), mPut km x.nd x, g, c, h, rfl, rfl, hk, .inr (.inl ⟨((mGet km x.nd).getD ⟨0, 0, 0⟩), ?_, by omega, by omega, rfl, rfl⟩)⟩; cases hm : mGet km x.nd with | none => simp_all | some w => rfl)
  · skip
    refine gp (pFb fd_49_2) ?_
    refine gr (rB1 ty_37) ?_
    refine gp (pFb fd_49_2) ?_
    refine gr (rB1 ty_37) ?_
    refine gp pB ?_
    refine sp pK ?_
    refine sp pMa ?_
    refine oNil ?_
    refine aCondDec rfl (fun c16 => ?_) (fun c16 => ?_)
    · skip
      refine aDrawT spf_better_r3_t spf_better_r3_b [9] 10 #[false, false, false, false, false, false, false, false, false, false] (by kernel_rfl) rfl rfl (fun HT => ?_)
      refine dp HT 0 rfl pM ?_
      refine dp HT 1 rfl pNv ?_
      refine dp HT 2 rfl (pFb fd_164_3) ?_
      refine dr HT 3 rfl (rB1 ty_159) ?_
      refine dp HT 4 rfl (pFb fd_49_2) ?_
      refine dr HT 5 rfl (rB1 ty_37) ?_
      refine dp HT 6 rfl (pFb fd_49_0) ?_
      refine dr HT 7 rfl (rB1 ty_3) ?_
      refine dp HT 8 rfl (pBuild rfl st_162 ze_162 rfl rfl rfl rfl) ?_
      refine dGo ?_
      refine eLast ?_
      refine f1 HT 9 rfl ?_
      refine ca rfl rfl rfl (heap_Put hb g c h (x.c, x.nd) hk (by omega)) ?_
      rintro _ _ ⟨g', c', h2, rfl, rfl, hk2, hpm⟩
      refine fE HT ?_
      clear HT
      refine aDrawT spf_better_r5_t spf_better_r5_b [7] 8 #[false, false, false, false, false, false, false, false] (by kernel_rfl) rfl rfl (fun HT => ?_)
      refine dp HT 0 rfl pM ?_
      refine dp HT 1 rfl pNv ?_
      refine dp HT 2 rfl (pFb fd_164_1) ?_
      refine dr HT 3 rfl (rB1 ty_158) ?_
      refine dp HT 4 rfl (pFb fd_49_0) ?_
      refine dr HT 5 rfl (rB1 ty_3) ?_
      refine dr HT 6 rfl (by first | exact rBWa ty_49 | exact rBW ty_49 | exact rBA ty_49) ?_
      refine dGo ?_
      refine eLast ?_
      refine f1 HT 7 rfl ?_
      first | refine oMP rfl rfl rfl rfl mo_158 ?_ | refine oMapSet rfl rfl rfl rfl rfl (by repeat constructor) mo_158 ?_
      refine fE HT ?_
      clear HT
      first
        | (refine ⟨_, [.box wb [.int root, .v (.map (some kb)), .v (.map (some db)), .v (.pointer (some ⟨hb, 0, none⟩))], .map kb (kvM rtA (mPut km x.nd x)), .map db (kvM boA dm), .box hb [.v (slV g' (h2).length c')], .sl g' c' 162 2 ((h2).map spC)], _, rfl, (.cons (by repeat constructor) (.cons (by repeat constructor) (.cons (by repeat constructor) (.cons (by repeat constructor) (.cons (by repeat constructor) .nil))))), mPut km x.nd x, g', c', h2, rfl, rfl, hk2, .inl ⟨fun w hw => ?_, rfl, hpm⟩⟩; simp_all; done)
        | (refine ⟨_, [.box wb [.int root, .v (.map (some kb)), .v (.map (some db)), .v (.pointer (some ⟨hb, 0, none⟩))], .map kb (kvM rtA (mPut km x.nd x)), .map db (kvM boA dm), .box hb [.v (slV g (h).length c)], .sl g c 162 2 ((h).map spC)], _, rfl, (.cons (by repeat constructor) (.cons (by repeat constructor) (.cons (by repeat constructor) (.cons (by repeat constructor) (.cons (by repeat constructor) .nil))))), mPut km x.nd x, g, c, h, rfl, rfl, hk, .inr (.inl ⟨((mGet km x.nd).getD ⟨0, 0, 0⟩), ?_, by omega, by omega, rfl, rfl⟩)⟩; cases hm : mGet km x.nd with | none => simp_all | some w => rfl)
    · skip
      refine aSeq ?_
      refine aReg ?_
      refine sp (pFb fd_49_2) ?_
      refine sr (rB1 ty_37) ?_
      refine sp (pFb fd_49_2) ?_
      refine sr (rB1 ty_37) ?_
      refine sp pB ?_
      refine sp pM ?_
      refine oSplitDec 42 rfl (fun c42 => ?_) (fun c42 => ?_)
      · skip
        refine gf ?_
        refine gf ?_
        refine gf ?_
        refine gf ?_
        refine gf ?_
        refine sp pK ?_
        refine sp pMa ?_
        refine oNil ?_
        refine aCondT rfl ?_
        refine aRet ?_
        have hw : mGet km x.nd = some ((mGet km x.nd).getD ⟨0, 0, 0⟩) := by
          cases hm : mGet km x.nd with
          | none => simp_all
          | some w => rfl
        exact ⟨_, [.box wb [.int root, .v (.map (some kb)), .v (.map (some db)), .v (.pointer (some ⟨hb, 0, none⟩))], .map kb (kvM rtA (km)), .map db (kvM boA dm), .box hb [.v (slV g (h).length c)], .sl g c 162 2 ((h).map spC)], _, rfl, (.cons (by repeat constructor) (.cons (by repeat constructor) (.cons (by repeat constructor) (.cons (by repeat constructor) (.cons (by repeat constructor) .nil))))), km, g, c, h, rfl, rfl, hk, .inr (.inr ⟨_, hw, by omega, rfl, rfl⟩)⟩
      · skip
        refine gp (pFb fd_49_1) ?_
        refine gr (rB1 ty_3) ?_
        refine gp (pFb fd_49_1) ?_
        refine gr (rB1 ty_3) ?_
        refine gp pB ?_
        refine sp pK ?_
        refine sp pMa ?_
        refine oNil ?_
        refine aCondDec rfl (fun c36 => ?_) (fun c36 => ?_)
        · skip
          refine aRet ?_
          have hw : mGet km x.nd = some ((mGet km x.nd).getD ⟨0, 0, 0⟩) := by
            cases hm : mGet km x.nd with
            | none => simp_all
            | some w => rfl
          exact ⟨_, [.box wb [.int root, .v (.map (some kb)), .v (.map (some db)), .v (.pointer (some ⟨hb, 0, none⟩))], .map kb (kvM rtA (km)), .map db (kvM boA dm), .box hb [.v (slV g (h).length c)], .sl g c 162 2 ((h).map spC)], _, rfl, (.cons (by repeat constructor) (.cons (by repeat constructor) (.cons (by repeat constructor) (.cons (by repeat constructor) (.cons (by repeat constructor) .nil))))), km, g, c, h, rfl, rfl, hk, .inr (.inr ⟨_, hw, by omega, rfl, rfl⟩)⟩
        · skip
          refine aSkip ?_
          refine aDrawT spf_better_r5_t spf_better_r5_b [7] 8 #[false, false, false, false, false, false, false, false] (by kernel_rfl) rfl rfl (fun HT => ?_)
          refine dp HT 0 rfl pM ?_
          refine dp HT 1 rfl pNv ?_
          refine dp HT 2 rfl (pFb fd_164_1) ?_
          refine dr HT 3 rfl (rB1 ty_158) ?_
          refine dp HT 4 rfl (pFb fd_49_0) ?_
          refine dr HT 5 rfl (rB1 ty_3) ?_
          refine dr HT 6 rfl (by first | exact rBWa ty_49 | exact rBW ty_49 | exact rBA ty_49) ?_
          refine dGo ?_
          refine eLast ?_
          refine f1 HT 7 rfl ?_
          first | refine oMP rfl rfl rfl rfl mo_158 ?_ | refine oMapSet rfl rfl rfl rfl rfl (by repeat constructor) mo_158 ?_
          refine fE HT ?_
          clear HT
          first
            | (refine ⟨_, [.box wb [.int root, .v (.map (some kb)), .v (.map (some db)), .v (.pointer (some ⟨hb, 0, none⟩))], .map kb (kvM rtA (mPut km x.nd x)), .map db (kvM boA dm), .box hb [.v (slV g' (h2).length c')], .sl g' c' 162 2 ((h2).map spC)], _, rfl, (.cons (by repeat constructor) (.cons (by repeat constructor) (.cons (by repeat constructor) (.cons (by repeat constructor) (.cons (by repeat constructor) .nil))))), mPut km x.nd x, g', c', h2, rfl, rfl, hk2, .inl ⟨fun w hw => ?_, rfl, hpm⟩⟩; simp_all; done)
            | (refine ⟨_, [.box wb [.int root, .v (.map (some kb)), .v (.map (some db)), .v (.pointer (some ⟨hb, 0, none⟩))], .map kb (kvM rtA (mPut km x.nd x)), .map db (kvM boA dm), .box hb [.v (slV g (h).length c)], .sl g c 162 2 ((h).map spC)], _, rfl, (.cons (by repeat constructor) (.cons (by repeat constructor) (.cons (by repeat constructor) (.cons (by repeat constructor) (.cons (by repeat constructor) .nil))))), mPut km x.nd x, g, c, h, rfl, rfl, hk, .inr (.inl ⟨((mGet km x.nd).getD ⟨0, 0, 0⟩), ?_, by omega, by omega, rfl, rfl⟩)⟩; cases hm : mGet km x.nd with | none => simp_all | some w => rfl)

end A
end Go.Proofs.Ytmcannmjielalaa
