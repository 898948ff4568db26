/- Texts that LoadKeeps's proof rests on, part 14. -/
import Derived.KernelRfl
import Derived.Test.YtmcannmjielalaaProg
import Derived.Test.YtmcannmjielalaaS12LoadKeeps
set_option linter.unusedVariables false
set_option linter.unusedSimpArgs false
namespace Go.Proofs.Ytmcannmjielalaa
namespace A
theorem fd_164_1 : fieldOf Try.prog 164 1 = some (1, 1, false) := by kernel_rfl
theorem fd_164_3 : fieldOf Try.prog 164 3 = some (3, 1, false) := by kernel_rfl
theorem fd_49_0 : fieldOf Try.prog 49 0 = some (0, 1, false) := by kernel_rfl
theorem fd_49_1 : fieldOf Try.prog 49 1 = some (1, 1, false) := by kernel_rfl
theorem fd_49_2 : fieldOf Try.prog 49 2 = some (2, 1, false) := by kernel_rfl
theorem mo_158 : mapOf Try.prog 158 = some (3, 49) := by kernel_rfl
theorem ty_159 : tyOf Try.prog 159 = some (1, false) := by kernel_rfl
theorem ty_49 : tyOf Try.prog 49 = some (3, true) := by kernel_rfl
theorem ze_49 : zeroOf Try.prog 49 = some (.agg #[.int .i64 0, .int .i64 0, .int .u64 0]) := by kernel_rfl
def rtV (r : Rt) : List Value := [.int .i64 r.nd, .int .i64 r.via, .int .u64 r.c]
theorem cast_rt : Cast (.v (.agg #[.int .i64 0, .int .i64 0, .int .u64 0])) (rtA ⟨0, 0, 0⟩) := cast_key (kf := rtV) (a := ⟨0, 0, 0⟩) rfl
def DF (dm : List (Int × Bool)) : Int → Bool := fun v => (mGet dm v).getD false
theorem DF_put {dm : List (Int × Bool)} {n : Int} {b : Bool} : DF (mPut dm n b) = updF (DF dm) n b := by
  funext v
  simp only [DF, mGet_put, updF]
  split <;> rfl
def kF (km : List (Int × Rt)) : Int → Option (Int × Int) := fun v => (mGet km v).map fun x => (x.via, x.c)
theorem kF_put {km : List (Int × Rt)} {x : Rt} : kF (mPut km x.nd x) = updF (kF km) x.nd (some (x.via, x.c)) := by
  funext v
  simp only [kF, mGet_put, updF]
  split <;> rfl
def KI (km : List (Int × Rt)) : Prop := (mKeys km).Nodup ∧ ∀ v x, mGet km v = some x → x.nd = v
theorem KI.put {km : List (Int × Rt)} {x : Rt} (h : KI km) : KI (mPut km x.nd x) := by
  refine ⟨mPut_nodup h.1, fun v y hy => ?_⟩
  rw [mGet_put] at hy
  split at hy
  · rename_i e; cases hy; exact e.symm
  · exact h.2 v y hy
def BetterR (km : List (Int × Rt)) (h : List (Int × Int)) (x : Rt) (km' : List (Int × Rt)) (h2 : List (Int × Int)) : Prop :=
  ((∀ w, mGet km x.nd = some w → x.c < w.c) ∧ km' = mPut km x.nd x ∧ h2.Perm (h ++ [(x.c, x.nd)])) ∨
  (∃ w, mGet km x.nd = some w ∧ x.c = w.c ∧ x.via < w.via ∧ km' = mPut km x.nd x ∧ h2 = h) ∨
  (∃ w, mGet km x.nd = some w ∧ (w.c < x.c ∨ w.c = x.c ∧ w.via ≤ x.via) ∧ km' = km ∧ h2 = h)
theorem better_step {l : List Arc} {r : Int} {km km' : List (Int × Rt)} {D : Int → Bool} {h h2 : List (Int × Int)} {pend pend' : Arc → Prop} {a : Arc} {x : Rt} (I : DInv l r (kF km) D h pend) (ha : a ∈ l) (hd : D a.f = true) (hpe : ∀ b, pend b → pend' b ∨ b = a) (hr : a.t ≠ r) (hnd : D a.t = false)
    (hx : x = ⟨a.t, hopV r (kF km) a, hopC r (kF km) a⟩) (K : KI km) (B : BetterR km h x km' h2) : DInv l r (kF km') D h2 pend' ∧ KI km' ∧ h2.length ≤ h.length + 1 ∧ ∀ v, v ≠ a.t → mGet km' v = mGet km v := by
  subst hx
  rcases B with ⟨h1, rfl, h3⟩ | ⟨w, h1, h2', h3, rfl, rfl⟩ | ⟨w, h1, h2', rfl, rfl⟩
  · refine ⟨?_, K.put, by have := h3.length_eq; simp at this; omega, fun v hv => by rw [mGet_put, if_neg hv]⟩
    rw [kF_put]
    refine I.put ha hd hpe hr hnd (fun p hp => ?_) (fun e he => h3.mem_iff.2 (by simp [he])) (h3.mem_iff.2 (by simp)) (fun e he => ?_)
    · simp only [kF, Option.map_eq_some_iff] at hp
      obtain ⟨w, hw, rfl⟩ := hp
      exact .inl (h1 w hw)
    · rcases List.mem_append.1 (h3.mem_iff.1 he) with h | h
      · exact .inl h
      · exact .inr (List.mem_singleton.1 h)
  · have hk : kF km a.t = some (w.via, w.c) := by simp only [kF, h1, Option.map_some]
    refine ⟨?_, K.put, by omega, fun v hv => by rw [mGet_put, if_neg hv]⟩
    rw [kF_put]
    refine I.put ha hd hpe hr hnd (fun p hp => ?_) (fun e he => he) ?_ (fun e he => .inl he)
    · rw [hk] at hp
      cases hp
      exact .inr ⟨h2', by simp only at h3 ⊢; omega⟩
    · have := I.h1 a.t _ hk hnd
      simp only at h2' this
      rw [h2']
      exact this
  · have hk : kF km' a.t = some (w.via, w.c) := by simp only [kF, h1, Option.map_some]
    refine ⟨I.keep hpe hk ?_, K, by omega, fun v _ => rfl⟩
    simp only at h2' ⊢
    unfold leV
    omega
/- spf.walk).better -/
def spf_better_r1_T : Bool × List (List Nat × List Nat) := (true, [([], []), ([0], [0]), ([1], [1]), ([2], [2]), ([], []), ([4], [4]), ([3, 5], [3, 5]), ([6], [6]), ([7], [7]), ([7], [7]), ([], []), ([10, 8, 0, 1, 2, 3, 4, 5, 6, 7, 8, 10], [8, 10]), ([9, 11, 0, 1, 2, 3, 4, 5, 6, 7, 8, 9, 10, 11], [9])])
def spf_better_r1_B : List Nat := [0, 1, 3, 7, 0, 16, 63, 127, 255, 255, 0, 1535, 4095]
theorem spf_better_r1_t : Go.Proofs.YtmcannmjielalaaW.PrintLast.rtab .any (Go.Proofs.YtmcannmjielalaaW.PrintLast.opsOf Try.f222 1) = spf_better_r1_T := by kernel_rfl
theorem spf_better_r1_b : Go.Proofs.YtmcannmjielalaaW.PrintLast.waitsOk spf_better_r1_T.2 spf_better_r1_B = true := by kernel_rfl
def spf_better_r3_T : Bool × List (List Nat × List Nat) := (true, [([], []), ([0], [0]), ([1], [1]), ([2], [2]), ([], []), ([4], [4]), ([], []), ([6], [6]), ([5, 7], [5, 7]), ([3, 8], [3, 8])])
def spf_better_r3_B : List Nat := [0, 1, 3, 7, 0, 16, 0, 64, 240, 511]
theorem spf_better_r3_t : Go.Proofs.YtmcannmjielalaaW.PrintLast.rtab .any (Go.Proofs.YtmcannmjielalaaW.PrintLast.opsOf Try.f222 3) = spf_better_r3_T := by kernel_rfl
theorem spf_better_r3_b : Go.Proofs.YtmcannmjielalaaW.PrintLast.waitsOk spf_better_r3_T.2 spf_better_r3_B = true := by kernel_rfl
def spf_better_r5_T : Bool × List (List Nat × List Nat) := (true, [([], []), ([0], [0]), ([1], [1]), ([2], [2]), ([], []), ([4], [4]), ([], []), ([3, 5, 6, 0, 1, 2, 3, 4, 5, 6], [3, 5, 6])])
def spf_better_r5_B : List Nat := [0, 1, 3, 7, 0, 16, 0, 127]
theorem spf_better_r5_t : Go.Proofs.YtmcannmjielalaaW.PrintLast.rtab .any (Go.Proofs.YtmcannmjielalaaW.PrintLast.opsOf Try.f222 5) = spf_better_r5_T := by kernel_rfl
theorem spf_better_r5_b : Go.Proofs.YtmcannmjielalaaW.PrintLast.waitsOk spf_better_r5_T.2 spf_better_r5_B = true := by kernel_rfl
set_option maxRecDepth 100000 in
set_option maxHeartbeats 2000000 in
theorem spf_better (wb kb db hb : Nat) (root : Int) (km : List (Int × Rt)) (dm : List (Int × Bool)) (g : Option Nat) (c : Nat) (h : List (Int × Int)) (x : Rt) (hk : HeapOk h) (hhl : h.length ≤ 1000000) : Triple Try.prog 222 [(.v (.pointer (some ⟨wb, 0, none⟩))), .agg (rtC x)] [.box wb [.int root, .v (.map (some kb)), .v (.map (some db)), .v (.pointer (some ⟨hb, 0, none⟩))], .map kb (kvM rtA (km)), .map db (kvM boA dm), .box hb [.v (slV g (h).length c)], .sl g c 162 2 ((h).map spC)] (fun r h' => ∃ km' g' c' h2, r = .tup [] ∧ h' = [.box wb [.int root, .v (.map (some kb)), .v (.map (some db)), .v (.pointer (some ⟨hb, 0, none⟩))], .map kb (kvM rtA (km')), .map db (kvM boA dm), .box hb [.v (slV g' (h2).length c')], .sl g' c' 162 2 ((h2).map spC)] ∧ HeapOk h2 ∧ BetterR km h x km' h2) := by
  refine triple_of Try.func222 rfl (by kernel_rfl) rfl (by simp) ?_
  refine aSeq ?_
  refine aReg ?_
  refine sq ?_
  refine qBox rfl rfl (by decide) rfl rfl (fun b3 => ?_)
  refine oNil ?_
  refine aSeq ?_
  refine aDrawT spf_better_r1_t spf_better_r1_b [11] 13 #[false, false, false, false, false, false, false, false, false, false, false, false, false] (by kernel_rfl) rfl rfl (fun HT => ?_)
  refine dp HT 0 rfl pM ?_
  refine dp HT 1 rfl pNv ?_
  refine dp HT 2 rfl (pFb fd_164_1) ?_
  refine dr HT 3 rfl (rB1 ty_158) ?_
  refine dp HT 4 rfl (pFb fd_49_0) ?_
  refine dr HT 5 rfl (rB1 ty_3) ?_
  refine dr HT 6 rfl (rMGo mo_158 ze_49 (⟨0, 0, 0⟩ : Rt) cast_rt) ?_
  refine dp HT 7 rfl pM ?_
  refine dp HT 8 rfl pX ?_
  refine dp HT 9 rfl pX ?_
  refine dGo ?_
  refine e1 HT 10 rfl ?_
  refine qAlloc rfl rfl (by decide) ze_49 rfl (fun b4 => ?_)
  refine eLast ?_
  refine f1 HT 11 rfl ?_
  refine oStW rfl rfl rfl rfl (by repeat constructor) ty_49 ?_
  refine fp HT 12 rfl pMa ?_
  refine fE HT ?_
  clear HT
  refine aSeq ?_
  refine aBlock ?_
  refine aSeq ?_
  refine aReg ?_
  refine sp pM ?_
  refine sp pNo ?_
  refine sp pM ?_
  refine oSplitNot 19 rfl (fun c19 => ?_) (fun c19 => ?_)
  · skip
    refine gf ?_
    refine gf ?_
    refine gf ?_
    refine gf ?_
    refine gf ?_
    refine sp pK ?_
    refine sp pMa ?_
    refine oNil ?_
    refine aCondT rfl ?_
    refine aDrawT spf_better_r3_t spf_better_r3_b [9] 10 #[false, false, false, false, false, false, false, false, false, false] (by kernel_rfl) rfl rfl (fun HT => ?_)
    refine dp HT 0 rfl pM ?_
    refine dp HT 1 rfl pNv ?_
    refine dp HT 2 rfl (pFb fd_164_3) ?_
    refine dr HT 3 rfl (rB1 ty_159) ?_
    refine dp HT 4 rfl (pFb fd_49_2) ?_
    refine dr HT 5 rfl (rB1 ty_37) ?_
    refine dp HT 6 rfl (pFb fd_49_0) ?_
    refine dr HT 7 rfl (rB1 ty_3) ?_
    refine dp HT 8 rfl (pBuild rfl st_162 ze_162 rfl rfl rfl rfl) ?_
    refine dGo ?_
    refine eLast ?_
    refine f1 HT 9 rfl ?_
    refine ca rfl rfl rfl (heap_Put hb g c h (x.c, x.nd) hk (by omega)) ?_
    rintro _ _ ⟨g', c', h2, rfl, rfl, hk2, hpm⟩
    refine fE HT ?_
    clear HT
    refine aDrawT spf_better_r5_t spf_better_r5_b [7] 8 #[false, false, false, false, false, false, false, false] (by kernel_rfl) rfl rfl (fun HT => ?_)
    refine dp HT 0 rfl pM ?_
    refine dp HT 1 rfl pNv ?_
    refine dp HT 2 rfl (pFb fd_164_1) ?_
    refine dr HT 3 rfl (rB1 ty_158) ?_
    refine dp HT 4 rfl (pFb fd_49_0) ?_
    refine dr HT 5 rfl (rB1 ty_3) ?_
    refine dr HT 6 rfl (by first | exact rBWa ty_49 | exact rBW ty_49 | exact rBA ty_49) ?_
    refine dGo ?_
    refine eLast ?_
    refine f1 HT 7 rfl ?_
    first | refine oMP rfl rfl rfl rfl mo_158 ?_ | refine oMapSet rfl rfl rfl rfl rfl (by repeat constructor) mo_158 ?_
    refine fE HT ?_
    clear HT
    first
      | (refine ⟨_, [.box wb [.int root, .v (.map (some kb)), .v (.map (some db)), .v (.pointer (some ⟨hb, 0, none⟩))], .map kb (kvM rtA (mPut km x.nd x)), .map db (kvM boA dm), .box hb [.v (slV g' (h2).length c')], .sl g' c' 162 2 ((h2).map spC)], _, rfl, (.cons (by repeat constructor) (.cons (by repeat constructor) (.cons (by repeat constructor) (.cons (by repeat constructor) (.cons (by repeat constructor) .nil))))), mPut km x.nd x, g', c', h2, rfl, rfl, hk2, .inl ⟨fun w hw => ?_, rfl, hpm⟩⟩; simp_all; done)
      | (refine ⟨_, [.box wb [.int root, .v (.map (some kb)), .v (.map (some db)), .v (.pointer (some ⟨hb, 0, none⟩))], .map kb (kvM rtA (mPut km x.nd x)), .map db (kvM boA dm), .box hb [.v (slV g (h).length c)], .sl g c 162 2 ((h).map spC)], _, rfl, (.cons (by repeat constructor) (.cons (by repeat constructor) (.cons (by repeat constructor) (.cons (by repeat constructor) (.cons (by repeat constructor) .nil))))), mPut km x.nd x, g, c, h, rfl, rfl, hk, .inr (.inl ⟨((mGet km x.nd).getD ⟨0, 0, 0⟩), ?_, by omega, by omega, rfl, rfl⟩)⟩; cases hm : mGet km x.nd with | none => simp_all | some w => rfl)
  · skip
    refine gp (pFb fd_49_2) ?_
    refine gr (rB1 ty_37) ?_
    refine gp (pFb fd_49_2) ?_
    refine gr (rB1 ty_37) ?_
    refine gp pB ?_
    refine sp pK ?_
    refine sp pMa ?_
    refine oNil ?_
    refine aCondDec rfl (fun c16 => ?_) (fun c16 => ?_)
    · skip
      refine aDrawT spf_better_r3_t spf_better_r3_b [9] 10 #[false, false, false, false, false, false, false, false, false, false] (by kernel_rfl) rfl rfl (fun HT => ?_)
      refine dp HT 0 rfl pM ?_
      refine dp HT 1 rfl pNv ?_
      refine dp HT 2 rfl (pFb fd_164_3) ?_
      refine dr HT 3 rfl (rB1 ty_159) ?_
      refine dp HT 4 rfl (pFb fd_49_2) ?_
      refine dr HT 5 rfl (rB1 ty_37) ?_
      refine dp HT 6 rfl (pFb fd_49_0) ?_
      refine dr HT 7 rfl (rB1 ty_3) ?_
      refine dp HT 8 rfl (pBuild rfl st_162 ze_162 rfl rfl rfl rfl) ?_
      refine dGo ?_
      refine eLast ?_
      refine f1 HT 9 rfl ?_
      refine ca rfl rfl rfl (heap_Put hb g c h (x.c, x.nd) hk (by omega)) ?_
      rintro _ _ ⟨g', c', h2, rfl, rfl, hk2, hpm⟩
      refine fE HT ?_
      clear HT
      refine aDrawT spf_better_r5_t spf_better_r5_b [7] 8 #[false, false, false, false, false, false, false, false] (by kernel_rfl) rfl rfl (fun HT => ?_)
      refine dp HT 0 rfl pM ?_
      refine dp HT 1 rfl pNv ?_
      refine dp HT 2 rfl (pFb fd_164_1) ?_
      refine dr HT 3 rfl (rB1 ty_158) ?_
      refine dp HT 4 rfl (pFb fd_49_0) ?_
      refine dr HT 5 rfl (rB1 ty_3) ?_
      refine dr HT 6 rfl (by first | exact rBWa ty_49 | exact rBW ty_49 | exact rBA ty_49) ?_
      refine dGo ?_
      refine eLast ?_
      refine f1 HT 7 rfl ?_
      first | refine oMP rfl rfl rfl rfl mo_158 ?_ | refine oMapSet rfl rfl rfl rfl rfl (by repeat constructor) mo_158 ?_
      refine fE HT ?_
      clear HT
      first
        | (refine ⟨_, [.box wb [.int root, .v (.map (some kb)), .v (.map (some db)), .v (.pointer (some ⟨hb, 0, none⟩))], .map kb (kvM rtA (mPut km x.nd x)), .map db (kvM boA dm), .box hb [.v (slV g' (h2).length c')], .sl g' c' 162 2 ((h2).map spC)], _, rfl, (.cons (by repeat constructor) (.cons (by repeat constructor) (.cons (by repeat constructor) (.cons (by repeat constructor) (.cons (by repeat constructor) .nil))))), mPut km x.nd x, g', c', h2, rfl, rfl, hk2, .inl ⟨fun w hw => ?_, rfl, hpm⟩⟩; simp_all; done)
        | (refine ⟨_, [.box wb [.int root, .v (.map (some kb)), .v (.map (some db)), .v (.pointer (some ⟨hb, 0, none⟩))], .map kb (kvM rtA (mPut km x.nd x)), .map db (kvM boA dm), .box hb [.v (slV g (h).length c)], .sl g c 162 2 ((h).map spC)], _, rfl, (.cons (by repeat constructor) (.cons (by repeat constructor) (.cons (by repeat constructor) (.cons (by repeat constructor) (.cons (by repeat constructor) .nil))))), mPut km x.nd x, g, c, h, rfl, rfl, hk, .inr (.inl ⟨((mGet km x.nd).getD ⟨0, 0, 0⟩), ?_, by omega, by omega, rfl, rfl⟩)⟩; cases hm : mGet km x.nd with | none => simp_all | some w => rfl)
    · skip
      refine aSeq ?_
      refine aReg ?_
      refine sp (pFb fd_49_2) ?_
      refine sr (rB1 ty_37) ?_
      refine sp (pFb fd_49_2) ?_
      refine sr (rB1 ty_37) ?_
      refine sp pB ?_
      refine sp pM ?_
      refine oSplitDec 42 rfl (fun c42 => ?_) (fun c42 => ?_)
      · skip
        refine gf ?_
        refine gf ?_
        refine gf ?_
        refine gf ?_
        refine gf ?_
        refine sp pK ?_
        refine sp pMa ?_
        refine oNil ?_
        refine aCondT rfl ?_
        refine aRet ?_
        have hw : mGet km x.nd = some ((mGet km x.nd).getD ⟨0, 0, 0⟩) := by
          cases hm : mGet km x.nd with
          | none => simp_all
          | some w => rfl
        exact ⟨_, [.box wb [.int root, .v (.map (some kb)), .v (.map (some db)), .v (.pointer (some ⟨hb, 0, none⟩))], .map kb (kvM rtA (km)), .map db (kvM boA dm), .box hb [.v (slV g (h).length c)], .sl g c 162 2 ((h).map spC)], _, rfl, (.cons (by repeat constructor) (.cons (by repeat constructor) (.cons (by repeat constructor) (.cons (by repeat constructor) (.cons (by repeat constructor) .nil))))), km, g, c, h, rfl, rfl, hk, .inr (.inr ⟨_, hw, by omega, rfl, rfl⟩)⟩
      · skip
        refine gp (pFb fd_49_1) ?_
        refine gr (rB1 ty_3) ?_
        refine gp (pFb fd_49_1) ?_
        refine gr (rB1 ty_3) ?_
        refine gp pB ?_
        refine sp pK ?_
        refine sp pMa ?_
        refine oNil ?_
        refine aCondDec rfl (fun c36 => ?_) (fun c36 => ?_)
        · skip
          refine aRet ?_
          have hw : mGet km x.nd = some ((mGet km x.nd).getD ⟨0, 0, 0⟩) := by
            cases hm : mGet km x.nd with
            | none => simp_all
            | some w => rfl
          exact ⟨_, [.box wb [.int root, .v (.map (some kb)), .v (.map (some db)), .v (.pointer (some ⟨hb, 0, none⟩))], .map kb (kvM rtA (km)), .map db (kvM boA dm), .box hb [.v (slV g (h).length c)], .sl g c 162 2 ((h).map spC)], _, rfl, (.cons (by repeat constructor) (.cons (by repeat constructor) (.cons (by repeat constructor) (.cons (by repeat constructor) (.cons (by repeat constructor) .nil))))), km, g, c, h, rfl, rfl, hk, .inr (.inr ⟨_, hw, by omega, rfl, rfl⟩)⟩
        · skip
          refine aSkip ?_
          refine aDrawT spf_better_r5_t spf_better_r5_b [7] 8 #[false, false, false, false, false, false, false, false] (by kernel_rfl) rfl rfl (fun HT => ?_)
          refine dp HT 0 rfl pM ?_
          refine dp HT 1 rfl pNv ?_
          refine dp HT 2 rfl (pFb fd_164_1) ?_
          refine dr HT 3 rfl (rB1 ty_158) ?_
          refine dp HT 4 rfl (pFb fd_49_0) ?_
          refine dr HT 5 rfl (rB1 ty_3) ?_
          refine dr HT 6 rfl (by first | exact rBWa ty_49 | exact rBW ty_49 | exact rBA ty_49) ?_
          refine dGo ?_
          refine eLast ?_
          refine f1 HT 7 rfl ?_
          first | refine oMP rfl rfl rfl rfl mo_158 ?_ | refine oMapSet rfl rfl rfl rfl rfl (by repeat constructor) mo_158 ?_
          refine fE HT ?_
          clear HT
          first
            | (refine ⟨_, [.box wb [.int root, .v (.map (some kb)), .v (.map (some db)), .v (.pointer (some ⟨hb, 0, none⟩))], .map kb (kvM rtA (mPut km x.nd x)), .map db (kvM boA dm), .box hb [.v (slV g' (h2).length c')], .sl g' c' 162 2 ((h2).map spC)], _, rfl, (.cons (by repeat constructor) (.cons (by repeat constructor) (.cons (by repeat constructor) (.cons (by repeat constructor) (.cons (by repeat constructor) .nil))))), mPut km x.nd x, g', c', h2, rfl, rfl, hk2, .inl ⟨fun w hw => ?_, rfl, hpm⟩⟩; simp_all; done)
            | (refine ⟨_, [.box wb [.int root, .v (.map (some kb)), .v (.map (some db)), .v (.pointer (some ⟨hb, 0, none⟩))], .map kb (kvM rtA (mPut km x.nd x)), .map db (kvM boA dm), .box hb [.v (slV g (h).length c)], .sl g c 162 2 ((h).map spC)], _, rfl, (.cons (by repeat constructor) (.cons (by repeat constructor) (.cons (by repeat constructor) (.cons (by repeat constructor) (.cons (by repeat constructor) .nil))))), mPut km x.nd x, g, c, h, rfl, rfl, hk, .inr (.inl ⟨((mGet km x.nd).getD ⟨0, 0, 0⟩), ?_, by omega, by omega, rfl, rfl⟩)⟩; cases hm : mGet km x.nd with | none => simp_all | some w => rfl)
end A
end Go.Proofs.Ytmcannmjielalaa
set_option linter.unusedVariables false
set_option linter.unusedSimpArgs false
namespace Go.Proofs.Ytmcannmjielalaa
namespace A
theorem fd_164_0 : fieldOf Try.prog 164 0 = some (0, 1, false) := by kernel_rfl
theorem fd_164_2 : fieldOf Try.prog 164 2 = some (2, 1, false) := by kernel_rfl
theorem st_49 : structPlaces Try.prog 49 = some [(0, 1), (1, 1), (2, 1)] := by kernel_rfl
theorem ze_4 : zeroOf Try.prog 4 = some (.bool false) := by kernel_rfl
theorem DInv.pend {l : List Arc} {r : Int} {known : Int → Option (Int × Int)} {done : Int → Bool} {hp : List (Int × Int)} {pend pend' : Arc → Prop} (I : DInv l r known done hp pend) (h : ∀ a ∈ l, pend a → pend' a) : DInv l r known done hp pend' :=
  ⟨I.k1, I.d1, fun a ha hd ht hp => I.d2 a ha hd ht (fun hpa => hp (h a ha hpa)), I.h1, I.hr, I.h2⟩
theorem at_hop {l : List Arc} {r n : Int} {km km0 : List (Int × Rt)} {D : Int → Bool} {h : List (Int × Int)} {pend : Arc → Prop} {a : Arc} (I : DInv l r (kF km) D h pend) (hm : mGet km n = mGet km0 n) (hf : a.f = n) :
    hopC r (kF km) a = ((mGet km0 n).getD ⟨0, 0, 0⟩).c + a.c ∧ hopV r (kF km) a = if n = r then a.t else ((mGet km0 n).getD ⟨0, 0, 0⟩).via := by
  unfold hopC hopV
  rw [hf, ← hm]
  by_cases e : n = r
  · rw [if_pos e, if_pos e, if_pos e]
    refine ⟨?_, rfl⟩
    have hno : mGet km n = none := by
      cases hg : mGet km n with
      | none => rfl
      | some x =>
        have := (I.k1 n (x.via, x.c) (by simp only [kF, hg, Option.map_some])).1
        exact absurd e this
    rw [hno]
    show a.c = 0 + a.c
    omega
  · rw [if_neg e, if_neg e, if_neg e]
    unfold kF
    cases mGet km n <;> exact ⟨rfl, rfl⟩
theorem drop_pend {α : Type} {xs : List α} {i : Nat} {a : α} (h : xs[i]? = some a) : ∀ b, b ∈ xs.drop i → b ∈ xs.drop (i + 1) ∨ b = a := fun b hb => by
  rw [drop_step h] at hb
  rcases List.mem_cons.1 hb with e | e
  · exact .inr e
  · exact .inl e
/- spf.walk).spread -/
def spf_spread_r4_T : Bool × List (List Nat × List Nat) := (true, [([], []), ([0], [0]), ([], []), ([2], [2]), ([3], [3]), ([4], [4]), ([1, 5], [1, 5]), ([6], [6]), ([7], [7]), ([8, 7], [7, 8]), ([9, 7], [7, 9]), ([10, 7], [7, 10]), ([7], [7]), ([12, 7], [7, 12]), ([11, 13, 7], [7, 11, 13]), ([7, 14], [7, 14])])
def spf_spread_r4_B : List Nat := [0, 1, 0, 4, 12, 28, 63, 127, 255, 511, 1023, 2047, 255, 4351, 16383, 32767]
theorem spf_spread_r4_t : Go.Proofs.YtmcannmjielalaaW.PrintLast.rtab .any (Go.Proofs.YtmcannmjielalaaW.PrintLast.opsOf Try.f127 4) = spf_spread_r4_T := by kernel_rfl
theorem spf_spread_r4_b : Go.Proofs.YtmcannmjielalaaW.PrintLast.waitsOk spf_spread_r4_T.2 spf_spread_r4_B = true := by kernel_rfl
def spf_spread_r8_T : Bool × List (List Nat × List Nat) := (true, [([], []), ([], []), ([1], [1]), ([], []), ([], []), ([4], [4]), ([], []), ([6], [6]), ([7], [7]), ([5, 8], [5, 8]), ([2, 3, 9], [2, 3, 9]), ([0, 10, 9], [0, 10])])
def spf_spread_r8_B : List Nat := [0, 0, 2, 0, 0, 16, 0, 64, 192, 496, 1022, 2047]
theorem spf_spread_r8_t : Go.Proofs.YtmcannmjielalaaW.PrintLast.rtab .any (Go.Proofs.YtmcannmjielalaaW.PrintLast.opsOf Try.f127 8) = spf_spread_r8_T := by kernel_rfl
theorem spf_spread_r8_b : Go.Proofs.YtmcannmjielalaaW.PrintLast.waitsOk spf_spread_r8_T.2 spf_spread_r8_B = true := by kernel_rfl
set_option maxRecDepth 100000 in
set_option maxHeartbeats 4000000 in
theorem spf_spread {l : List Arc} {r : Int} (hlA : ∀ a ∈ l, AOk a) (hsA : l.Pairwise ltA) (hll : l.length ≤ 1000000) (wb kb db hb : Nat) (km0 : List (Int × Rt)) (dm : List (Int × Bool)) (g0 : Option Nat) (c0 : Nat) (h0 : List (Int × Int)) (n : Int) (xs : List Arc) (hxs : xs = l.filter fun a => a.f == n) (hk0 : HeapOk h0) (hhl : h0.length + xs.length ≤ 1000000) (I0 : DInv l r (kF km0) (DF dm) h0 (fun a => a.f = n)) (hn : DF dm n = true) (K0 : KI km0) : Triple Try.prog 127 [(.v (.pointer (some ⟨wb, 0, none⟩))), .sl 3 (xs.map arcC), .int n] [.box wb [.int r, .v (.map (some kb)), .v (.map (some db)), .v (.pointer (some ⟨hb, 0, none⟩))], .map kb (kvM rtA (km0)), .map db (kvM boA dm), .box hb [.v (slV g0 (h0).length c0)], .sl g0 c0 162 2 ((h0).map spC)] (fun q h' => ∃ km g c h, q = .tup [] ∧ h' = [.box wb [.int r, .v (.map (some kb)), .v (.map (some db)), .v (.pointer (some ⟨hb, 0, none⟩))], .map kb (kvM rtA (km)), .map db (kvM boA dm), .box hb [.v (slV g (h).length c)], .sl g c 162 2 ((h).map spC)] ∧ HeapOk h ∧ DInv l r (kF km) (DF dm) h (fun _ => False) ∧ KI km ∧ h.length ≤ h0.length + xs.length) := by
  refine triple_of Try.func127 rfl (by kernel_rfl) rfl (by simp) ?_
  refine aSeq ?_
  refine aReg ?_
  refine sp pM ?_
  refine sp pNv ?_
  refine sp (pFb fd_164_1) ?_
  refine sr (rB1 ty_158) ?_
  refine sp pM ?_
  refine sr (rMG mo_158 ze_49 (⟨0, 0, 0⟩ : Rt) cast_rt) ?_
  refine sq ?_
  refine qAlloc rfl rfl (by decide) ze_49 rfl (fun b6 => ?_)
  refine sa ?_
  refine oStW rfl rfl rfl rfl (by repeat constructor) ty_49 ?_
  refine oNil ?_
  refine aSeq ?_
  refine aReg ?_
  refine sp pM ?_
  refine sp (by first | exact pLm sl_22 | exact pLs sl_22) ?_
  refine sp pM ?_
  refine oNil ?_
  refine aBlock ?_
  refine loopF (α := Nat × List (Int × Rt) × Option Nat × Nat × List (Int × Int)) (kept := [(0, _), (2, _), (6, _), (16, _), (17, _)]) (fun (i, km, g, c, h) => i ≤ xs.length ∧ HeapOk h ∧ DInv l r (kF km) (DF dm) h (fun b => b ∈ xs.drop i) ∧ KI km ∧ h.length ≤ h0.length + i ∧ mGet km n = mGet km0 n) (fun (i, km, g, c, h) => [(18, .int i)]) (fun (i, km, g, c, h) => [.box wb [.int r, .v (.map (some kb)), .v (.map (some db)), .v (.pointer (some ⟨hb, 0, none⟩))], .map kb (kvM rtA (km)), .map db (kvM boA dm), .box hb [.v (slV g (h).length c)], .sl g c 162 2 ((h).map spC)]) (fun (i, km, g, c, h) => xs.length - i) (0, km0, g0, c0, h0) ?_ ⟨gInt rfl (by first | rfl | omega | simp), rfl, rfl, rfl, rfl, rfl, trivial⟩ (by repeat constructor) ?_
  · skip
    exact ⟨by omega, hk0, I0.pend (fun a ha e => by rw [List.drop_zero, hxs, List.mem_filter]; exact ⟨ha, by simpa using e⟩), K0, by omega, rfl⟩
  · rintro ⟨i, km, g, c, h⟩ ⟨hi, hk, I, K, hlen, hm⟩
    refine aSeq ?_
    refine aReg ?_
    refine sp pB ?_
    refine oNil ?_
    refine aSeq ?_
    refine aCondDec rfl (fun c19 => ?_) (fun c19 => ?_)
    · skip
      refine aSkip ?_
      refine aSeq ?_
      refine aBlock ?_
      refine aSeq ?_
      obtain ⟨a, ha⟩ : ∃ a, xs[i]? = some a := ⟨_, List.getElem?_eq_getElem (by omega)⟩
      have hal : a ∈ l ∧ a.f = n := by
        have := List.mem_of_getElem? ha
        rw [hxs, List.mem_filter] at this
        exact ⟨this.1, by simpa using this.2⟩
      have hak := hlA a hal.1
      unfold AOk at hak
      have hop := at_hop (a := a) I hm hal.2
      have hopI := I.hop hlA hal.1 (by rw [hal.2]; exact hn)
      have hdr := dF_range hlA hll r a.f
      have hpe := drop_pend ha
      refine aReg ?_
      first | refine sp (pIx es_22) ?_ | (refine obtSN 16 18 rfl rfl (by omega) (fun x20 hx20 => ?_); refine sp (pIs es_22 hx20) ?_) | (refine obtS 16 18 rfl rfl (by omega) (by omega) (fun x20 hx20 => ?_); refine sp (pIs es_22 hx20) ?_) | refine sp (pIo es_22) ?_
      refine sr (by first | exact rSW ty_36 rfl | exact rSA ty_36) ?_
      refine sq ?_
      refine qAlloc rfl rfl (by decide) ze_36 rfl (fun b8 => ?_)
      refine sa ?_
      refine oStW rfl rfl rfl rfl (by repeat constructor) ty_36 ?_
      refine oNil ?_
      refine aSeq ?_
      refine aSeq ?_
      refine aDrawT spf_spread_r4_t spf_spread_r4_b [] 16 #[false, false, false, false, false, false, false, false, false, false, false, false, false, false, false, false] (by kernel_rfl) rfl rfl (fun HT => ?_)
      refine dp HT 0 rfl (pFb fd_36_1) ?_
      refine dr HT 1 rfl (rB1 ty_3) ?_
      refine dp HT 2 rfl pM ?_
      refine dp HT 3 rfl pNv ?_
      refine dp HT 4 rfl (pFb fd_164_0) ?_
      refine dr HT 5 rfl (rB1 ty_3) ?_
      refine dp HT 6 rfl pB ?_
      refine dp HT 7 rfl pM ?_
      refine dSplitEq 29 rfl (fun c29 => ?_) (fun c29 => ?_)
      · skip
        refine dS HT 8 rfl ?_
        refine dS HT 9 rfl ?_
        refine dS HT 10 rfl ?_
        refine dS HT 11 rfl ?_
        refine dS HT 12 rfl ?_
        refine dS HT 13 rfl ?_
        refine dS HT 14 rfl ?_
        refine dp HT 15 rfl pK ?_
        refine dE HT ?_
        clear HT
        refine aCondT rfl ?_
        refine aExit rfl ?_
        refine aReg ?_
        refine sp pAd ?_
        refine sp pM ?_
        refine oNil ?_
        refine ⟨(i + 1, _, _, _, _), ?_, by (try dsimp only); omega, ⟨gInt rfl (by first | rfl | omega | simp), rfl, rfl, rfl, rfl, rfl, trivial⟩, _, (by repeat constructor)⟩
        first
          | exact ⟨by omega, hk, I.skip hlA hsA hpe (.inl (by assumption)), K, by omega, hm⟩
          | exact ⟨by omega, hk, I.skip hlA hsA hpe (.inr (by assumption)), K, by omega, hm⟩
          | (have hnd : DF dm a.t = false := by assumption
             obtain ⟨q1, q2, q3, q4⟩ := better_step I hal.1 (by rw [hal.2]; exact hn) hpe (by assumption) hnd (by rw [hop.1, hop.2]; first | rw [if_pos (by assumption)] | rw [if_neg (by assumption)]) K hB
             exact ⟨by omega, hk2, q1, q2, by omega, by rw [q4 n (fun e => by rw [e, hnd] at hn; cases hn)]; exact hm⟩)
      · skip
        refine dpG HT 8 rfl pM ?_
        refine dpG HT 9 rfl pNv ?_
        refine dpG HT 10 rfl (pFb fd_164_2) ?_
        refine drG HT 11 rfl (rB1 ty_144) ?_
        refine dpG HT 12 rfl (pFb fd_36_1) ?_
        refine drG HT 13 rfl (rB1 ty_3) ?_
        refine drG HT 14 rfl (rMGb mo_144 ze_4) ?_
        refine dp HT 15 rfl pK ?_
        refine dE HT ?_
        clear HT
        refine aCond rfl (fun c37 => ?_) (fun c37 => ?_)
        · skip
          refine aExit rfl ?_
          refine aReg ?_
          refine sp pAd ?_
          refine sp pM ?_
          refine oNil ?_
          refine ⟨(i + 1, _, _, _, _), ?_, by (try dsimp only); omega, ⟨gInt rfl (by first | rfl | omega | simp), rfl, rfl, rfl, rfl, rfl, trivial⟩, _, (by repeat constructor)⟩
          first
            | exact ⟨by omega, hk, I.skip hlA hsA hpe (.inl (by assumption)), K, by omega, hm⟩
            | exact ⟨by omega, hk, I.skip hlA hsA hpe (.inr (by assumption)), K, by omega, hm⟩
            | (have hnd : DF dm a.t = false := by assumption
               obtain ⟨q1, q2, q3, q4⟩ := better_step I hal.1 (by rw [hal.2]; exact hn) hpe (by assumption) hnd (by rw [hop.1, hop.2]; first | rw [if_pos (by assumption)] | rw [if_neg (by assumption)]) K hB
               exact ⟨by omega, hk2, q1, q2, by omega, by rw [q4 n (fun e => by rw [e, hnd] at hn; cases hn)]; exact hm⟩)
        · skip
          refine aSkip ?_
          refine aSeq ?_
          refine aReg ?_
          refine sp (pFb fd_49_1) ?_
          refine sr (rB1 ty_3) ?_
          refine sp pMa ?_
          refine oNil ?_
          refine aSeq ?_
          refine aSeq ?_
          refine aReg ?_
          refine sp pM ?_
          refine sp pM ?_
          refine sp pNv ?_
          refine sp (pFb fd_164_0) ?_
          refine sr (rB1 ty_3) ?_
          refine sp pB ?_
          refine oNil ?_
          refine aCondEq rfl (fun c45 => ?_) (fun c45 => ?_)
          · skip
            refine aReg ?_
            refine sp (pFb fd_36_1) ?_
            refine sr (rB1 ty_3) ?_
            refine sp pMa ?_
            refine oNil ?_
            refine aDrawT spf_spread_r8_t spf_spread_r8_b [11] 12 #[false, false, false, false, false, false, false, false, false, false, false, false] (by kernel_rfl) rfl rfl (fun HT => ?_)
            refine dp HT 0 rfl pM ?_
            refine dp HT 1 rfl (pFb fd_36_1) ?_
            refine dr HT 2 rfl (rB1 ty_3) ?_
            refine dp HT 3 rfl pM ?_
            refine dp HT 4 rfl (pFb fd_49_2) ?_
            refine dr HT 5 rfl (rB1 ty_37) ?_
            refine dp HT 6 rfl (pFb fd_36_2) ?_
            refine dr HT 7 rfl (rB1 ty_3) ?_
            refine dp HT 8 rfl (by first | exact pCvK ik_3 ik_37 | exact pConv rfl rfl ik_3 ik_37 rfl) ?_
            refine dGo ?_
            refine e1 HT 9 rfl ?_
            refine cv rfl rfl rfl (lents_refl _) (cost_Add (by omega) (by omega) (by omega) (by omega)) ?_
            rw [if_neg (by omega)]
            refine ef HT 10 rfl (pBuild rfl st_49 ze_49 rfl rfl rfl rfl) ?_
            refine eLast ?_
            refine f1 HT 11 rfl ?_
            refine ca rfl rfl rfl (spf_better wb kb db hb r km dm g c h ⟨a.t, _, ((mGet km0 n).getD ⟨0, 0, 0⟩).c + a.c⟩ hk (by omega)) ?_
            rintro _ _ ⟨km', g', c', h2, rfl, rfl, hk2, hB⟩
            refine fE HT ?_
            clear HT
            refine aReg ?_
            refine sp pAd ?_
            refine sp pM ?_
            refine oNil ?_
            refine ⟨(i + 1, _, _, _, _), ?_, by (try dsimp only); omega, ⟨gInt rfl (by first | rfl | omega | simp), rfl, rfl, rfl, rfl, rfl, trivial⟩, _, (by repeat constructor)⟩
            first
              | exact ⟨by omega, hk, I.skip hlA hsA hpe (.inl (by assumption)), K, by omega, hm⟩
              | exact ⟨by omega, hk, I.skip hlA hsA hpe (.inr (by assumption)), K, by omega, hm⟩
              | (have hnd : DF dm a.t = false := by assumption
                 obtain ⟨q1, q2, q3, q4⟩ := better_step I hal.1 (by rw [hal.2]; exact hn) hpe (by assumption) hnd (by rw [hop.1, hop.2]; first | rw [if_pos (by assumption)] | rw [if_neg (by assumption)]) K hB
                 exact ⟨by omega, hk2, q1, q2, by omega, by rw [q4 n (fun e => by rw [e, hnd] at hn; cases hn)]; exact hm⟩)
          · skip
            refine aSkip ?_
            refine aDrawT spf_spread_r8_t spf_spread_r8_b [11] 12 #[false, false, false, false, false, false, false, false, false, false, false, false] (by kernel_rfl) rfl rfl (fun HT => ?_)
            refine dp HT 0 rfl pM ?_
            refine dp HT 1 rfl (pFb fd_36_1) ?_
            refine dr HT 2 rfl (rB1 ty_3) ?_
            refine dp HT 3 rfl pM ?_
            refine dp HT 4 rfl (pFb fd_49_2) ?_
            refine dr HT 5 rfl (rB1 ty_37) ?_
            refine dp HT 6 rfl (pFb fd_36_2) ?_
            refine dr HT 7 rfl (rB1 ty_3) ?_
            refine dp HT 8 rfl (by first | exact pCvK ik_3 ik_37 | exact pConv rfl rfl ik_3 ik_37 rfl) ?_
            refine dGo ?_
            refine e1 HT 9 rfl ?_
            refine cv rfl rfl rfl (lents_refl _) (cost_Add (by omega) (by omega) (by omega) (by omega)) ?_
            rw [if_neg (by omega)]
            refine ef HT 10 rfl (pBuild rfl st_49 ze_49 rfl rfl rfl rfl) ?_
            refine eLast ?_
            refine f1 HT 11 rfl ?_
            refine ca rfl rfl rfl (spf_better wb kb db hb r km dm g c h ⟨a.t, _, ((mGet km0 n).getD ⟨0, 0, 0⟩).c + a.c⟩ hk (by omega)) ?_
            rintro _ _ ⟨km', g', c', h2, rfl, rfl, hk2, hB⟩
            refine fE HT ?_
            clear HT
            refine aReg ?_
            refine sp pAd ?_
            refine sp pM ?_
            refine oNil ?_
            refine ⟨(i + 1, _, _, _, _), ?_, by (try dsimp only); omega, ⟨gInt rfl (by first | rfl | omega | simp), rfl, rfl, rfl, rfl, rfl, trivial⟩, _, (by repeat constructor)⟩
            first
              | exact ⟨by omega, hk, I.skip hlA hsA hpe (.inl (by assumption)), K, by omega, hm⟩
              | exact ⟨by omega, hk, I.skip hlA hsA hpe (.inr (by assumption)), K, by omega, hm⟩
              | (have hnd : DF dm a.t = false := by assumption
                 obtain ⟨q1, q2, q3, q4⟩ := better_step I hal.1 (by rw [hal.2]; exact hn) hpe (by assumption) hnd (by rw [hop.1, hop.2]; first | rw [if_pos (by assumption)] | rw [if_neg (by assumption)]) K hB
                 exact ⟨by omega, hk2, q1, q2, by omega, by rw [q4 n (fun e => by rw [e, hnd] at hn; cases hn)]; exact hm⟩)
    · skip
      refine aExit rfl ?_
      refine ⟨_, [.box wb [.int r, .v (.map (some kb)), .v (.map (some db)), .v (.pointer (some ⟨hb, 0, none⟩))], .map kb (kvM rtA (km)), .map db (kvM boA dm), .box hb [.v (slV g (h).length c)], .sl g c 162 2 ((h).map spC)], _, rfl, (.cons (by repeat constructor) (.cons (by repeat constructor) (.cons (by repeat constructor) (.cons (by repeat constructor) (.cons (by repeat constructor) .nil))))), km, g, c, h, rfl, rfl, hk, I.pend (fun a ha e => ?_), K, by omega⟩
      rw [List.drop_of_length_le (by omega)] at e
      simp at e
end A
end Go.Proofs.Ytmcannmjielalaa
set_option linter.unusedVariables false
set_option linter.unusedSimpArgs false
namespace Go.Proofs.Ytmcannmjielalaa
namespace A
theorem el_41 : elemOf Try.prog 41 = some (49, 3, 24) := by kernel_rfl
theorem mo_156 : mapOf Try.prog 156 = some (3, 22) := by kernel_rfl
theorem sl_41 : isSl Try.prog 41 = true := by kernel_rfl
theorem st_164 : structPlaces Try.prog 164 = some [(0, 1), (1, 1), (2, 1), (3, 1)] := by kernel_rfl
theorem us_41 : Try.prog.underlying 41 = some (.slice 49) := by kernel_rfl
theorem ze_164 : zeroOf Try.prog 164 = some (.agg #[.int .i64 0, .map none, .map none, .pointer none]) := by kernel_rfl
theorem ze_22 : zeroOf Try.prog 22 = some (.slice none 0 0) := by kernel_rfl
theorem DInv.perm {l : List Arc} {r : Int} {known : Int → Option (Int × Int)} {done : Int → Bool} {hp hp' : List (Int × Int)} {pend : Arc → Prop} (I : DInv l r known done hp pend) (h : hp.Perm hp') : DInv l r known done hp' pend :=
  ⟨I.k1, I.d1, I.d2, fun v p a b => h.mem_iff.1 (I.h1 v p a b), fun a => h.mem_iff.1 (I.hr a), fun c v a => I.h2 c v (h.mem_iff.2 a)⟩
def cntA (l : List Arc) (D : Int → Bool) : Nat := (l.filter fun a => !D a.f).length
theorem cntA_done : ∀ {l : List Arc} {D : Int → Bool} {n : Int}, D n = false → cntA l D = cntA l (updF D n true) + (l.filter fun a => a.f == n).length
  | [], _, _, _ => rfl
  | a :: l, D, n, h => by
    have ih := cntA_done (l := l) h
    unfold cntA at *
    simp only [List.filter_cons]
    by_cases e : a.f = n
    · have h1 : updF D n true a.f = true := by rw [e, updF_same]
      rw [e, h] at *
      simp [h1, updF_same]
      omega
    · have h1 : updF D n true a.f = D a.f := updF_ne _ _ e
      have h2 : (a.f == n) = false := by simpa using e
      rw [h1, h2]
      cases D a.f <;> simp <;> omega
def rKeys (l : List Arc) (r : Int) : List Int := ((List.range 65).map fun (i : Nat) => (i : Int)).filter fun v => decide (v ≠ r) && isF l r v
theorem rKeys_sorted (l : List Arc) (r : Int) : (rKeys l r).Pairwise (· < ·) := by
  refine List.Pairwise.sublist List.filter_sublist ?_
  rw [List.pairwise_map]
  exact List.pairwise_lt_range.imp (fun h => by omega)
theorem rKeys_mem {l : List Arc} (hl : ∀ a ∈ l, AOk a) {r v : Int} : v ∈ rKeys l r ↔ v ≠ r ∧ isF l r v = true := by
  unfold rKeys
  rw [List.mem_filter]
  simp only [Bool.and_eq_true, decide_eq_true_eq, List.mem_map, List.mem_range]
  refine ⟨fun h => h.2, fun h => ⟨?_, h⟩⟩
  rcases (isF_wk hl h.2).rng hl with e | e
  · exact absurd e h.1
  · exact ⟨v.toNat, by omega, by omega⟩
theorem rKeys_len (l : List Arc) (r : Int) : (rKeys l r).length ≤ 65 := by
  unfold rKeys
  refine Nat.le_trans (List.length_filter_le _ _) ?_
  simp
/-- What is known when all is done. -/
structure KEnd (l : List Arc) (r : Int) (km : List (Int × Rt)) : Prop where
  s : sortI (mKeys km) = rKeys l r
  g : ∀ n ∈ rKeys l r, (mGet km n).getD ⟨0, 0, 0⟩ = ⟨n, viaM l r n, dF l r n⟩
  n : km.length ≤ 65
theorem kend_of {l : List Arc} (hl : ∀ a ∈ l, AOk a) {r : Int} {km : List (Int × Rt)} {D : Int → Bool} (K : KI km) (I : DInv l r (kF km) D [] (fun _ => False)) : KEnd l r km := by
  have hk : ∀ v, v ∈ mKeys km ↔ v ∈ rKeys l r := fun v => by
    rw [rKeys_mem hl, ← mGet_mem]
    have h := I.done hl v
    unfold kF at h
    split at h
    · rename_i hc
      rw [Option.map_eq_some_iff] at h
      obtain ⟨x, hx, _⟩ := h
      simp [hx, hc]
    · rename_i hc
      rw [Option.map_eq_none_iff] at h
      rw [h]
      simp only [Option.isSome_none, Bool.false_eq_true, false_iff]
      exact hc
  refine ⟨sortI_eq K.1 (rKeys_sorted l r) (fun x => hk x), fun n hn => ?_, mLen K.1 (n := 65) (fun x hx => ?_)⟩
  · have h := I.done hl n
    rw [if_pos ((rKeys_mem hl).1 hn)] at h
    unfold kF at h
    rw [Option.map_eq_some_iff] at h
    obtain ⟨x, hx, he⟩ := h
    rw [hx, Option.getD_some]
    have h1 := K.2 n x hx
    obtain ⟨x1, x2, x3⟩ := x
    simp only [Prod.mk.injEq] at he h1
    rw [h1, he.1, he.2]
  · have h := (rKeys_mem hl).1 ((hk x).1 hx)
    rcases (isF_wk hl h.2).rng hl with e | e
    · exact absurd e h.1
    · omega
/-- The next one is taken. -/
theorem loop_next {l : List Arc} {r : Int} {K : Int → Option (Int × Int)} {D : Int → Bool} {h h3 : List (Int × Int)} {x2 : Int × Int} {q2 : Bool} (J : DInv l r K D h (fun _ => False)) (hq0 : q2 = false → h = [] ∧ h3 = []) (hq1 : q2 = true → h.Perm (x2 :: h3) ∧ ∀ e ∈ h, x2.1 ≤ e.1) :
    (q2 = true → DInv l r K D (x2 :: h3) (fun _ => False) ∧ ∀ e ∈ x2 :: h3, x2.1 ≤ e.1) ∧ (q2 = false → DInv l r K D [] (fun _ => False)) :=
  ⟨fun e => ⟨J.perm (hq1 e).1, fun y hy => (hq1 e).2 y ((hq1 e).1.mem_iff.2 hy)⟩, fun e => by have := hq0 e; rw [this.1] at J; exact J⟩
def bI (q : Bool) : Nat := if q then 1 else 0
theorem take_len {h h3 : List (Int × Int)} {x2 : Int × Int} {q2 : Bool} (hq0 : q2 = false → h = [] ∧ h3 = []) (hq1 : q2 = true → h.Perm (x2 :: h3) ∧ ∀ e ∈ h, x2.1 ≤ e.1) : h3.length + bI q2 = h.length := by
  cases q2 with
  | false => rw [(hq0 rfl).1, (hq0 rfl).2]; rfl
  | true => rw [(hq1 rfl).1.length_eq]; simp [bI]
/- spf.Routes -/
def spf_Routes_r7_T : Bool × List (List Nat × List Nat) := (true, [([], []), ([], []), ([1], [1]), ([], []), ([], []), ([4], [4]), ([3, 5], [3, 5]), ([], []), ([7], [7]), ([6, 8], [6, 8]), ([0, 2, 9, 9, 0, 1, 2, 3, 4, 5, 6, 7, 8, 9], [0, 2, 9])])
def spf_Routes_r7_B : List Nat := [0, 0, 2, 0, 0, 16, 56, 0, 128, 504, 1023]
theorem spf_Routes_r7_t : Go.Proofs.YtmcannmjielalaaW.PrintLast.rtab .any (Go.Proofs.YtmcannmjielalaaW.PrintLast.opsOf Try.f43 7) = spf_Routes_r7_T := by kernel_rfl
theorem spf_Routes_r7_b : Go.Proofs.YtmcannmjielalaaW.PrintLast.waitsOk spf_Routes_r7_T.2 spf_Routes_r7_B = true := by kernel_rfl
def spf_Routes_r13_T : Bool × List (List Nat × List Nat) := (true, [([], []), ([0], [0]), ([1], [1]), ([2], [2]), ([], []), ([4], [4]), ([3, 5], [3, 5]), ([6], [6])])
def spf_Routes_r13_B : List Nat := [0, 1, 3, 7, 0, 16, 63, 127]
theorem spf_Routes_r13_t : Go.Proofs.YtmcannmjielalaaW.PrintLast.rtab .any (Go.Proofs.YtmcannmjielalaaW.PrintLast.opsOf Try.f43 13) = spf_Routes_r13_T := by kernel_rfl
theorem spf_Routes_r13_b : Go.Proofs.YtmcannmjielalaaW.PrintLast.waitsOk spf_Routes_r13_T.2 spf_Routes_r13_B = true := by kernel_rfl
def spf_Routes_r14_T : Bool × List (List Nat × List Nat) := (true, [([], []), ([0], [0]), ([1], [1]), ([2], [2]), ([], []), ([4], [4]), ([3, 5, 0, 1, 2, 3, 4, 5], [3, 5])])
def spf_Routes_r14_B : List Nat := [0, 1, 3, 7, 0, 16, 63]
theorem spf_Routes_r14_t : Go.Proofs.YtmcannmjielalaaW.PrintLast.rtab .any (Go.Proofs.YtmcannmjielalaaW.PrintLast.opsOf Try.f43 14) = spf_Routes_r14_T := by kernel_rfl
theorem spf_Routes_r14_b : Go.Proofs.YtmcannmjielalaaW.PrintLast.waitsOk spf_Routes_r14_T.2 spf_Routes_r14_B = true := by kernel_rfl
set_option maxRecDepth 100000 in
set_option maxHeartbeats 8000000 in
theorem spf_Routes {l : List Arc} {r : Int} (hll : l.length ≤ 400000 := by omega) : Triple Try.prog 43 [.sl 3 (l.map arcC), .int r] [] (Own 49 3 ((if arcsB none l then routesM l r else []).map rtC) []) := by
  refine triple_of Try.func43 rfl (by kernel_rfl) rfl (by simp) ?_
  refine aSeq ?_
  refine aReg ?_
  refine sp pMa ?_
  refine oNil ?_
  refine aSeq ?_
  refine aSeq ?_
  refine aReg ?_
  refine sp pM ?_
  refine sq ?_
  refine cv rfl rfl rfl (lents_refl _) graph_Check ?_
  refine sp pB ?_
  refine oNil ?_
  refine aCondNe rfl (fun c16 => ?_) (fun c16 => ?_)
  · skip
    refine aSeq ?_
    refine aWeak (weak_nil 49 3) ?_
    refine aReg ?_
    refine sp pMa ?_
    refine oNil ?_
    refine aRet ?_
    refine finOwn rfl ?_
    have hno : arcsB none l = false := by cases h : arcsB none l <;> simp_all
    rw [hno]
    rfl
  · skip
    refine aSkip ?_
    refine aSeq ?_
    have hyes : arcsB none l = true := by cases h : arcsB none l <;> simp_all
    have hlA := arcs_ok hyes
    have hsA := arcsB_sorted hyes
    refine aReg ?_
    refine sq ?_
    refine qMakeMap rfl rfl (by decide) (fun b17 => ?_)
    refine sp pMa ?_
    refine oNil ?_
    refine aSeq ?_
    refine aSeq ?_
    refine aReg ?_
    refine sp pM ?_
    refine sp (by first | exact pLm sl_22 | exact pLs sl_22) ?_
    refine sp pM ?_
    refine oNil ?_
    refine aBlock ?_
    refine aLoopI (α := Nat × List (Int × SlE Arc)) (fun (i, m) => i ≤ l.length ∧ ∀ k, (slAt m k).l = (l.take i).filter fun a => a.f == k) (fun (i, m) => ([(1, .int r), (5, .v (.map (some b17))), (18, .sl 3 (l.map arcC)), (19, .int l.length), (20, .int i)], .map b17 (kvM slE m) :: msH 36 3 arcC m)) (fun (i, m) => l.length - i) (0, []) ?_ ?_ ?_
    · skip
      exact ⟨by omega, fun k => by simp [slAt, mGet, sl0]⟩
    · skip
      exact weak_env ⟨rfl, rfl, rfl, gInt rfl (by simp), rfl, trivial⟩
    · rintro ⟨i, m⟩ ⟨hi, hM⟩
      skip
      refine aSeq ?_
      refine aReg ?_
      refine sp pB ?_
      refine oNil ?_
      refine aSeq ?_
      refine aCondDec rfl (fun c21 => ?_) (fun c21 => ?_)
      · skip
        refine aSkip ?_
        refine aSeq ?_
        refine aBlock ?_
        refine aSeq ?_
        obtain ⟨a, ha⟩ : ∃ a, l[i]? = some a := ⟨_, List.getElem?_eq_getElem (by omega)⟩
        refine aReg ?_
        first | refine sp (pIx es_22) ?_ | (refine obtSN 18 20 rfl rfl (by omega) (fun x22 hx22 => ?_); refine sp (pIs es_22 hx22) ?_) | (refine obtS 18 20 rfl rfl (by omega) (by omega) (fun x22 hx22 => ?_); refine sp (pIs es_22 hx22) ?_) | refine sp (pIo es_22) ?_
        refine sr (by first | exact rSW ty_36 rfl | exact rSA ty_36 | exact rBWa ty_36 | exact rBW ty_36 | exact rBA ty_36 | exact rArA ty_36 (fun _ => rfl)) ?_
        refine sq ?_
        refine qAlloc rfl rfl (by decide) ze_36 rfl (fun b7 => ?_)
        refine sa ?_
        refine oStW rfl rfl rfl rfl (by repeat constructor) ty_36 ?_
        refine oNil ?_
        have hsl : (slAt m a.f).l.length ≤ 1000000 := by rw [hM]; have := filter_len (p := fun b : Arc => b.f == a.f) (l := l) (i := i); omega
        refine aWeak (weak_takeS (h0 := [_, _]) a.f) ?_
        dsimp only [List.cons_append, List.nil_append]
        refine aDrawS (h1 := [.box b7 _, .map b17 _]) spf_Routes_r7_t spf_Routes_r7_b [10] 11 #[false, false, false, false, false, false, false, false, false, false, false] (by kernel_rfl) rfl rfl (.cons (by repeat constructor) (.cons (by repeat constructor) .nil)) (fun HT => ?_)
        refine ep HT 0 rfl pM ?_
        refine ep HT 1 rfl (pFb fd_36_0) ?_
        refine er HT 2 rfl (rB1 ty_3) ?_
        refine ep HT 3 rfl pM ?_
        refine ep HT 4 rfl (pFb fd_36_0) ?_
        refine er HT 5 rfl (rB1 ty_3) ?_
        refine er HT 6 rfl (rMG mo_156 ze_22 (sl0 : SlE Arc) .refl) ?_
        refine er HT 7 rfl (by first | exact rBWa ty_36 | exact rBW ty_36 | exact rBA ty_36) ?_
        refine e1 HT 8 rfl ?_
        refine qLit (l := [_]) rfl rfl (by decide) us_22 ty_36 ze_36 rfl (by decide) (by decide) rfl rfl rfl (fun b32 => ?_)
        refine eOneS (i := 9) #[true, true, true, true, true, true, true, true, true, true, false] rfl (HT.one (by kernel_rfl)) (by decide) ?_
        · skip
          refine stA (hx := [.sl (slAt m a.f).g _ _ _ _, .sl (some b32) _ _ _ _]) (wantN rfl) (fun t ht => by cases ht <;> decide) (.cons (by repeat constructor) (.cons (by repeat constructor) .nil)) (by repeat constructor) ?_
          refine oAppT ([a] : List Arc) rfl rfl (by repeat constructor) (srcOwn rfl (by repeat constructor) rfl) el_22 sl_22 (fun g33 k33 => ?_)
          refine undel (d := 33) rfl ?_
          dsimp only [List.cons_append, List.nil_append]
          refine eLast ?_
          refine f1 HT 10 rfl ?_
          refine oMP (c := slE) (v := ⟨g33, k33, (slAt m a.f).l ++ [a]⟩) rfl rfl rfl rfl mo_156 ?_
          refine fE HT ?_
          clear HT
          refine aReg ?_
          refine sp pAd ?_
          refine sp pM ?_
          refine oNil ?_
          refine ⟨(i + 1, mPut m a.f ⟨g33, k33, (slAt m a.f).l ++ [a]⟩), ⟨by omega, fun k => ?_⟩, by show l.length - (i + 1) < l.length - i; omega, ?_⟩
          rotate_left
          · refine Weak.trans ?_ (weak_putS (h0 := [_]))
            exact weak_sub ⟨rfl, rfl, rfl, rfl, gInt rfl (by simp), trivial⟩ (.cons (by repeat constructor) (.cons (by repeat constructor) (tk_after (l := [_, _]))))
          rw [slAt_put, filter_take ha]
          by_cases e : k = a.f
          · subst e; simp [hM]
          · rw [if_neg e, hM, if_neg (by simpa using fun e' => e e'.symm), List.append_nil]
      · skip
        refine aExit rfl ?_
        refine aSeq ?_
        rw [take_all (by omega)] at hM
        refine aWeak weak_settleMS ?_
        refine aReg ?_
        refine sp pM ?_
        refine sq ?_
        refine qMakeMap rfl rfl (by decide) (fun b36 => ?_)
        refine sq ?_
        refine qMM boA rfl (fun b37 => ?_)
        refine sp pM ?_
        refine sp (pBuild rfl st_162 ze_162 rfl rfl rfl rfl) ?_
        refine sq ?_
        refine qLit (l := [_]) rfl rfl (by decide) us_261 ty_162 ze_162 rfl (by decide) (by decide) rfl rfl rfl (fun b40 => ?_)
        refine oWeak (weak_settle (k := 40) (es := [(0, r)].map spC) rfl .hd rfl) ?_
        refine sa ?_
        refine ca rfl rfl rfl (heap_New [(0, r)] (by simp)) ?_
        rintro _ _ ⟨hb, g, c, h, rfl, rfl, hk, hpm⟩
        refine sp (pBuild rfl st_164 ze_164 rfl rfl rfl rfl) ?_
        refine sq ?_
        refine qBox rfl rfl (by decide) rfl rfl (fun b43 => ?_)
        refine sp pMa ?_
        refine oNil ?_
        refine aSeq ?_
        refine aSeq ?_
        refine aReg ?_
        refine sp pM ?_
        refine sp pNv ?_
        refine sp (pFb fd_164_3) ?_
        refine sr (rB1 ty_159) ?_
        refine sa ?_
        refine ca rfl rfl rfl (heap_Take hb g c h hk (by have := hpm.length_eq; simp at this; omega)) ?_
        rintro _ _ ⟨x, q, h1, g1, c1, rfl, rfl, hk1, hq0, hq1⟩
        refine sp pM ?_
        refine sp pX ?_
        refine sp pX ?_
        refine sq ?_
        refine qAlloc rfl rfl (by decide) ze_162 rfl (fun b9 => ?_)
        refine sa ?_
        refine oStW rfl rfl rfl rfl (by repeat constructor) ty_162 ?_
        refine sp pMa ?_
        refine oNil ?_
        refine aBlock ?_
        refine loopF (α := List (Int × Rt) × List (Int × Bool) × (Int × Int) × Bool × Option Nat × Nat × List (Int × Int) × Nat) (kept := [(5, _), (8, _)]) (fun (km, dm, x, q, g, c, h, b) => HeapOk h ∧ KI km ∧ (q = true → DInv l r (kF km) (DF dm) (x :: h) (fun _ => False) ∧ ∀ e ∈ x :: h, x.1 ≤ e.1) ∧ (q = false → DInv l r (kF km) (DF dm) [] (fun _ => False)) ∧ h.length + bI q + cntA l (DF dm) ≤ l.length + 1) (fun (km, dm, x, q, g, c, h, b) => [(9, .v (.pointer (some ⟨b, 0, none⟩))), (10, .v (.bool q))]) (fun (km, dm, x, q, g, c, h, b) => [.box b43 [.int r, .v (.map (some b36)), .v (.map (some b37)), .v (.pointer (some ⟨hb, 0, none⟩))], .map b36 (kvM rtA (km)), .map b37 (kvM boA (dm)), .box hb [.v (slV g (h).length c)], .sl g c 162 2 ((h).map spC), .box b (spC x)]) (fun (km, dm, x, q, g, c, h, b) => h.length + bI q + cntA l (DF dm)) ([], [], x, q, g1, c1, h1, b9) ?_ ⟨rfl, rfl, rfl, rfl, trivial⟩ (by repeat constructor) ?_
        · skip
          have hN : DInv l r (kF []) (DF []) h (fun _ => False) := (dinv_new l r).perm hpm.symm
          have hnx := loop_next hN hq0 hq1
          have htl := take_len hq0 hq1
          have hpl := hpm.length_eq
          simp at hpl
          exact ⟨hk1, ⟨by simp [mKeys], fun v x hx => by simp [mGet] at hx⟩, hnx.1, hnx.2, by have : cntA l (DF []) ≤ l.length := List.length_filter_le _ _; omega⟩
        · rintro ⟨km, dm, x, q, g, c, h, b⟩ ⟨hk, K, hQ1, hQ0, hB⟩
          refine aSeq ?_
          refine aSeq ?_
          refine aReg ?_
          refine sp pM ?_
          refine oNil ?_
          refine aCond rfl (fun c52 => ?_) (fun c52 => ?_)
          · skip
            refine aSkip ?_
            refine aSeq ?_
            refine aBlock ?_
            refine aSeq ?_
            obtain ⟨I, hmin⟩ := hQ1 (by assumption)
            refine aDrawT spf_Routes_r13_t spf_Routes_r13_b [] 8 #[false, false, false, false, false, false, false, false] (by kernel_rfl) rfl rfl (fun HT => ?_)
            refine dp HT 0 rfl pM ?_
            refine dp HT 1 rfl pNv ?_
            refine dp HT 2 rfl (pFb fd_164_2) ?_
            refine dr HT 3 rfl (rB1 ty_144) ?_
            refine dp HT 4 rfl (by first | exact pFb fd_162_1 | exact pFs fd_162_1) ?_
            refine dr HT 5 rfl (by first | exact rS1 ty_3 | exact rB1 ty_3 | exact rAr ty_3 | exact rArL ty_3 | exact rArR2 ty_3) ?_
            refine dr HT 6 rfl (rMGb mo_144 ze_4) ?_
            refine dp HT 7 rfl pNo ?_
            refine dE HT ?_
            clear HT
            refine aCondNot rfl (fun c68 => ?_) (fun c68 => ?_)
            · skip
              refine aSeq ?_
              refine aDrawT spf_Routes_r14_t spf_Routes_r14_b [6] 7 #[false, false, false, false, false, false, false] (by kernel_rfl) rfl rfl (fun HT => ?_)
              refine dp HT 0 rfl pM ?_
              refine dp HT 1 rfl pNv ?_
              refine dp HT 2 rfl (pFb fd_164_2) ?_
              refine dr HT 3 rfl (rB1 ty_144) ?_
              refine dp HT 4 rfl (by first | exact pFb fd_162_1 | exact pFs fd_162_1) ?_
              refine dr HT 5 rfl (by first | exact rS1 ty_3 | exact rB1 ty_3 | exact rAr ty_3 | exact rArL ty_3 | exact rArR2 ty_3) ?_
              refine dGo ?_
              refine eLast ?_
              refine f1 HT 6 rfl ?_
              first | refine oMP rfl rfl rfl rfl mo_144 ?_ | refine oMapSet rfl rfl rfl rfl rfl (by repeat constructor) mo_144 ?_
              refine fE HT ?_
              clear HT
              refine aReg ?_
              refine sp pM ?_
              refine sp pM ?_
              refine sp (by first | exact pFb fd_162_1 | exact pFs fd_162_1) ?_
              refine sr (by first | exact rS1 ty_3 | exact rB1 ty_3 | exact rAr ty_3 | exact rArL ty_3 | exact rArR2 ty_3) ?_
              refine sr (rMG (c := slS 3 arcC) mo_156 ze_22 ([] : List Arc) cast_nil) ?_
              rw [show slS 3 arcC ((mGet (msL m) x.2).getD []) = .sl 3 ((l.filter fun a => a.f == x.2).map arcC) by rw [← hM x.2, msL_get, slAt]; cases mGet m x.2 <;> rfl]
              refine sp (by first | exact pFb fd_162_1 | exact pFs fd_162_1) ?_
              refine sr (by first | exact rS1 ty_3 | exact rB1 ty_3 | exact rAr ty_3 | exact rArL ty_3 | exact rArR2 ty_3) ?_
              have hnd : DF dm x.2 = false := by assumption
              have Itk : DInv l r (kF km) (DF (mPut dm x.2 true)) h (fun a => a.f = x.2) := by rw [DF_put]; exact I.take hlA hsA (.refl _) hmin hnd
              have hcnt := cntA_done (l := l) hnd
              rw [← DF_put (b := true)] at hcnt
              refine sa ?_
              refine ca rfl rfl rfl (spf_spread hlA hsA (by omega) b43 b36 b37 hb km (mPut dm x.2 true) g c h x.2 (l.filter fun a => a.f == x.2) rfl hk (by omega) Itk (by rw [DF_put, updF_same]) K) ?_
              rintro _ _ ⟨km', g', c', h', rfl, rfl, hk', I', K', hl'⟩
              refine oNil ?_
              refine aSeq ?_
              refine aSeq ?_
              refine aReg ?_
              refine sr (by first | exact rSW ty_162 rfl | exact rSA ty_162 | exact rBWa ty_162 | exact rBW ty_162 | exact rBA ty_162 | exact rArA ty_162 (fun _ => rfl)) ?_
              refine oNil ?_
              refine aReg ?_
              refine sq ?_
              refine qAlloc rfl rfl (by decide) ze_162 rfl (fun b9 => ?_)
              refine sa ?_
              refine oStW rfl rfl rfl rfl (by repeat constructor) ty_162 ?_
              refine oNil ?_
              refine aReg ?_
              refine sp pM ?_
              refine sp pNv ?_
              refine sp (pFb fd_164_3) ?_
              refine sr (rB1 ty_159) ?_
              refine sa ?_
              first | refine ca rfl rfl rfl (heap_Take hb g' c' h' hk' (by omega)) ?_ | refine ca rfl rfl rfl (heap_Take hb g c h hk (by omega)) ?_
              rintro _ _ ⟨x2, q2, h3, g3, c3, rfl, rfl, hk3, hq0', hq1'⟩
              have hlt := take_len hq0' hq1'
              refine sp pM ?_
              refine sp pX ?_
              refine sp pX ?_
              refine sa ?_
              refine oStW rfl rfl rfl rfl (by repeat constructor) ty_162 ?_
              refine sp pMa ?_
              refine oNil ?_
              have hbq : bI q = 1 := by rw [show q = true by assumption]; rfl
              first
                | (refine ⟨(km', mPut dm x.2 true, x2, q2, g3, c3, h3, _), ?_, by (try dsimp only); omega, ⟨rfl, rfl, rfl, rfl, trivial⟩, _, (by repeat constructor)⟩
                   have hnx := loop_next I' hq0' hq1'
                   exact ⟨hk3, K', hnx.1, hnx.2, by omega⟩)
                | (refine ⟨(km, dm, x2, q2, g3, c3, h3, _), ?_, by (try dsimp only); omega, ⟨rfl, rfl, rfl, rfl, trivial⟩, _, (by repeat constructor)⟩
                   have hdn : DF dm x.2 = true := by assumption
                   have hnx := loop_next (I.old (.refl _) hdn) hq0' hq1'
                   exact ⟨hk3, K, hnx.1, hnx.2, by omega⟩)
            · skip
              refine aSkip ?_
              refine aSeq ?_
              refine aSeq ?_
              refine aReg ?_
              refine sr (by first | exact rSW ty_162 rfl | exact rSA ty_162 | exact rBWa ty_162 | exact rBW ty_162 | exact rBA ty_162 | exact rArA ty_162 (fun _ => rfl)) ?_
              refine oNil ?_
              refine aReg ?_
              refine sq ?_
              refine qAlloc rfl rfl (by decide) ze_162 rfl (fun b9 => ?_)
              refine sa ?_
              refine oStW rfl rfl rfl rfl (by repeat constructor) ty_162 ?_
              refine oNil ?_
              refine aReg ?_
              refine sp pM ?_
              refine sp pNv ?_
              refine sp (pFb fd_164_3) ?_
              refine sr (rB1 ty_159) ?_
              refine sa ?_
              first | refine ca rfl rfl rfl (heap_Take hb g' c' h' hk' (by omega)) ?_ | refine ca rfl rfl rfl (heap_Take hb g c h hk (by omega)) ?_
              rintro _ _ ⟨x2, q2, h3, g3, c3, rfl, rfl, hk3, hq0', hq1'⟩
              have hlt := take_len hq0' hq1'
              refine sp pM ?_
              refine sp pX ?_
              refine sp pX ?_
              refine sa ?_
              refine oStW rfl rfl rfl rfl (by repeat constructor) ty_162 ?_
              refine sp pMa ?_
              refine oNil ?_
              have hbq : bI q = 1 := by rw [show q = true by assumption]; rfl
              first
                | (refine ⟨(km', mPut dm x.2 true, x2, q2, g3, c3, h3, _), ?_, by (try dsimp only); omega, ⟨rfl, rfl, rfl, rfl, trivial⟩, _, (by repeat constructor)⟩
                   have hnx := loop_next I' hq0' hq1'
                   exact ⟨hk3, K', hnx.1, hnx.2, by omega⟩)
                | (refine ⟨(km, dm, x2, q2, g3, c3, h3, _), ?_, by (try dsimp only); omega, ⟨rfl, rfl, rfl, rfl, trivial⟩, _, (by repeat constructor)⟩
                   have hdn : DF dm x.2 = true := by assumption
                   have hnx := loop_next (I.old (.refl _) hdn) hq0' hq1'
                   exact ⟨hk3, K, hnx.1, hnx.2, by omega⟩)
          · skip
            refine aExit rfl ?_
            refine aSeq ?_
            refine aReg ?_
            refine sp pMa ?_
            refine oNil ?_
            refine aSeq ?_
            refine aSeq ?_
            refine aWeak (weak_nil 49 3) ?_
            have hE := kend_of hlA K (hQ0 (by assumption))
            refine aReg ?_
            refine sp pM ?_
            refine sp pNv ?_
            refine sp (pFb fd_164_1) ?_
            refine sr (rB1 ty_158) ?_
            refine sa ?_
            refine ca rfl rfl rfl (keys_mir b36) ?_
            rintro _ _ ⟨pb, rfl, rfl⟩
            refine sa ?_
            refine cai rfl rfl rfl (sorted_int_s _ _ (kvM rtA km) _ (keys1_mir_iter b36 pb (kvM rtA km)) (by rw [kvM_len]; have := hE.n; omega)) ?_
            rw [kvM_keys, hE.s]
            have hkl := rKeys_len l r
            refine sp (by first | exact pLm sl_25 | exact pLs sl_25 | exact pLv sl_25) ?_
            refine sp pM ?_
            refine oNil ?_
            refine aBlock ?_
            refine loopF (α := Nat × List Rt × Option Nat × Nat) (kept := [(8, _), (89, _), (90, _)]) (fun (i, out, g, c) => i ≤ (rKeys l r).length ∧ out = ((rKeys l r).take i).map fun v => ⟨v, viaM l r v, dF l r v⟩) (fun (i, out, g, c) => [(91, .int i), (11, .v (slV g out.length c))]) (fun (i, out, g, c) => [.sl g c 49 3 (out.map rtC)]) (fun (i, out, g, c) => (rKeys l r).length - i) (0, [], _, _) ?_ ⟨gInt rfl (by first | rfl | omega | simp), gLen rfl (by first | rfl | simp | (simp; omega)), rfl, rfl, rfl, trivial⟩ (by repeat constructor) ?_
            · skip
              exact ⟨by omega, rfl⟩
            · rintro ⟨i, out, g, c⟩ ⟨hi, ho⟩
              refine aSeq ?_
              refine aReg ?_
              refine sp pB ?_
              refine oNil ?_
              refine aSeq ?_
              refine aCondDec rfl (fun c92 => ?_) (fun c92 => ?_)
              · skip
                refine aSkip ?_
                refine aSeq ?_
                refine aBlock ?_
                refine aSeq ?_
                obtain ⟨nn, hnn⟩ : ∃ n, (rKeys l r)[i]? = some n := ⟨_, List.getElem?_eq_getElem (by omega)⟩
                have hget := hE.g nn (List.mem_of_getElem? hnn)
                refine aReg ?_
                first | refine sp (pIx es_25) ?_ | (refine obtSN 89 91 rfl rfl (by omega) (fun x93 hx93 => ?_); refine sp (pIs es_25 hx93) ?_) | (refine obtS 89 91 rfl rfl (by omega) (by omega) (fun x93 hx93 => ?_); refine sp (pIs es_25 hx93) ?_) | refine sp (pIo es_25) ?_
                refine sr (by first | exact rS1 ty_3 | exact rB1 ty_3 | exact rAr ty_3 | exact rArL ty_3 | exact rArR2 ty_3) ?_
                refine sp pMa ?_
                refine oNil ?_
                have hol : out.length ≤ 65 := by rw [ho, List.length_map, List.length_take]; omega
                refine aReg ?_
                refine sp pM ?_
                refine sp pM ?_
                refine sp pNv ?_
                refine sp (pFb fd_164_1) ?_
                refine sr (rB1 ty_158) ?_
                refine sp pM ?_
                refine sr (rMG mo_158 ze_49 (⟨0, 0, 0⟩ : Rt) cast_rt) ?_
                rw [hget]
                refine sq ?_
                refine qLit (l := [_]) rfl rfl (by decide) us_41 ty_49 ze_49 rfl (by decide) (by decide) rfl rfl rfl (fun b102 => ?_)
                refine sa ?_
                refine oAppT ([⟨nn, viaM l r nn, dF l r nn⟩] : List Rt) rfl rfl (by repeat constructor) (srcOwn rfl (by repeat constructor) rfl) el_41 sl_41 (fun g103 k103 => ?_)
                refine sp pMa ?_
                refine oNil ?_
                refine aReg ?_
                refine sp pAd ?_
                refine sp pM ?_
                refine oNil ?_
                refine ⟨(i + 1, _, _, _), ?_, by (try dsimp only); omega, ⟨gInt rfl (by first | rfl | omega | simp), gLen rfl (by first | rfl | simp | (simp; omega)), rfl, rfl, rfl, trivial⟩, _, (by repeat constructor)⟩
                refine ⟨by omega, ?_⟩
                rw [take_step hnn, List.map_append, ← ho]
                rfl
              · skip
                refine aExit rfl ?_
                refine aSeq ?_
                refine aReg ?_
                refine sp pM ?_
                refine sp pMa ?_
                refine oNil ?_
                refine aRet ?_
                refine finOwn rfl ?_
                rw [hyes, ho, take_all (by omega)]
                rfl
end A
end Go.Proofs.Ytmcannmjielalaa
set_option linter.unusedVariables false
set_option linter.unusedSimpArgs false
namespace Go.Proofs.Ytmcannmjielalaa
namespace A
theorem ar_174 : arrOf Try.prog 174 = some (65, 130) := by kernel_rfl
theorem es_41 : elemSize Try.prog 41 = some 3 := by kernel_rfl
theorem ty_174 : tyOf Try.prog 174 = some (8450, true) := by kernel_rfl
theorem ua_174 : Try.prog.underlying 174 = some (.array 65 172) := by kernel_rfl
theorem ze_174 : zeroOf Try.prog 174 = some (.agg Try.zeroCells174) := by kernel_rfl
def rtsM (l : List Arc) (r : Int) : List Rt := if arcsB none l then routesM l r else []
theorem spf_Routes_s {l : List Arc} {r : Int} (hll : l.length ≤ 400000 := by omega) : Triple Try.prog 43 [.sl 3 (l.map arcC), .int r] [] (Is (.sl 3 ((rtsM l r).map rtC)) []) := (spf_Routes (l := l) (r := r) hll).settle
theorem routesM_eq (l : List Arc) (r : Int) : routesM l r = (rKeys l r).map fun v => ⟨v, viaM l r v, dF l r v⟩ := rfl
theorem rtsM_len (l : List Arc) (r : Int) : (rtsM l r).length ≤ 65 := by
  unfold rtsM
  split
  · rw [routesM_eq, List.length_map]; exact rKeys_len l r
  · simp
theorem rtsM_mem {l : List Arc} {r : Int} {x : Rt} (h : x ∈ rtsM l r) : arcsB none l = true ∧ x.nd ≠ r ∧ isF l r x.nd = true ∧ x = ⟨x.nd, viaM l r x.nd, dF l r x.nd⟩ := by
  unfold rtsM at h
  split at h
  · rename_i hok
    rw [routesM_eq, List.mem_map] at h
    obtain ⟨v, hv, rfl⟩ := h
    have := (rKeys_mem (arcs_ok hok)).1 hv
    exact ⟨hok, this.1, this.2, rfl⟩
  · simp at h
theorem rtsM_of {l : List Arc} {r v : Int} (hok : arcsB none l = true) (h1 : v ≠ r) (h2 : isF l r v = true) : (⟨v, viaM l r v, dF l r v⟩ : Rt) ∈ rtsM l r := by
  unfold rtsM
  rw [if_pos hok, routesM_eq, List.mem_map]
  exact ⟨v, (rKeys_mem (arcs_ok hok)).2 ⟨h1, h2⟩, rfl⟩
theorem viaDrop {l : List Arc} {r v : Int} {j : Nat} {a : Arc} (h : l[j]? = some a) : (((l.drop j).find? (viaP l r v)).map (·.t)).getD 0 = if viaP l r v a then a.t else (((l.drop (j + 1)).find? (viaP l r v)).map (·.t)).getD 0 := by
  rw [drop_step h, List.find?_cons]
  cases viaP l r v a <;> rfl
theorem rts_step {l : List Arc} {r : Int} {n : Nat} : ((List.range (n + 1 + 1)).map fun (i : Nat) => (i : Int)).filter (fun v => decide (v ≠ r) && isF l r v) = ((List.range (n + 1)).map fun (i : Nat) => (i : Int)).filter (fun v => decide (v ≠ r) && isF l r v) ++ if decide (((n + 1 : Nat) : Int) ≠ r) && isF l r ((n + 1 : Nat) : Int) then [((n + 1 : Nat) : Int)] else [] := by
  rw [List.range_succ, List.map_append, List.filter_append]
  congr 1
  rw [List.map_singleton, List.filter_cons, List.filter_nil]
theorem isF_zero {l : List Arc} (hl : ∀ a ∈ l, AOk a) {r : Int} : isF l r 0 = false := by
  cases h : isF l r 0 with
  | false => rfl
  | true =>
    by_cases hr : 1 ≤ r ∧ r ≤ 64
    · rcases (isF_wk hl h).rng hl with e | e <;> omega
    · rw [isF_none hl hr] at h; cases h
theorem rts_zero {l : List Arc} (hl : ∀ a ∈ l, AOk a) {r : Int} : ((List.range (0 + 1)).map fun (i : Nat) => (i : Int)).filter (fun v => decide (v ≠ r) && isF l r v) = [] := by
  simp [isF_zero hl]
/-- The zero value of 65 distances. -/
def chkZ : List Value → Nat → Bool
  | [], k => k == 8450
  | x :: t, k => (match x with | .int .u64 0 => decide (k % 130 < 65) | .bool false => decide (65 ≤ k % 130) | _ => false) && chkZ t (k + 1)
def cellZ (k : Nat) : Value := if k % 130 < 65 then .int .u64 0 else .bool false
theorem chkZ_get : ∀ {l : List Value} {k : Nat}, chkZ l k = true → k + l.length = 8450 ∧ ∀ j, j < l.length → l[j]? = some (cellZ (k + j))
  | [], k, h => by simp [chkZ] at h; exact ⟨by simpa using h, fun j hj => by simp at hj⟩
  | x :: t, k, h => by
    simp only [chkZ, Bool.and_eq_true] at h
    obtain ⟨h1, h2⟩ := chkZ_get h.2
    refine ⟨by simp; omega, fun j hj => ?_⟩
    have hx : x = cellZ k := by
      have h3 := h.1
      unfold cellZ
      split at h3
      · rw [if_pos (by simpa using h3)]
      · rw [if_neg (by simp at h3; omega)]
      · cases h3
    cases j with
    | zero => simp [hx]
    | succ j =>
      have := h2 j (by simpa using hj)
      simp only [List.getElem?_cons_succ]
      rw [this, show k + 1 + j = k + (j + 1) by omega]
theorem distZ_get {j : Nat} (h : j < 130) : (distC ((fun _ => false, fun _ => 0) : DS))[j]? = some (.v (cellZ j)) := by
  unfold distC cellZ
  by_cases hj : j < 65
  · rw [List.getElem?_append_left (by rw [arrF_len one_len]; omega), if_pos (by omega)]
    have := arrF_get (c := fun x => [u64A x]) (n := 65) (m := j) (j := 0) (f := fun _ => (0 : Int)) one_len (by omega) (by omega)
    simpa using this
  · rw [List.getElem?_append_right (by rw [arrF_len one_len]; omega), if_neg (by omega), arrF_len one_len]
    have := arrF_get (c := fun x => [boA x]) (n := 65) (m := j - 65 * 1) (j := 0) (f := fun _ => false) one_len (by omega) (by omega)
    simpa using this
theorem allZ : Try.zeroCells174.toList.map AV.v = arrF 65 distC (fun (_ : Int) => ((fun _ => false, fun _ => 0) : DS)) := by
  have hc : chkZ Try.zeroCells174.toList 0 = true := by kernel_rfl
  obtain ⟨h1, h2⟩ := chkZ_get hc
  have hl : (arrF 65 distC (fun (_ : Int) => ((fun _ => false, fun _ => 0) : DS))).length = 8450 := by rw [arrF_len distC_len]
  apply List.ext_getElem?
  intro j
  by_cases hj : j < 8450
  · rw [List.getElem?_map, h2 j (by omega), Nat.zero_add]
    have := arrF_get (c := distC) (n := 65) (m := j / 130) (j := j % 130) (f := fun (_ : Int) => ((fun _ => false, fun _ => 0) : DS)) distC_len (by omega) (by omega)
    rw [show j / 130 * 130 + j % 130 = j by omega, distZ_get (by omega)] at this
    rw [this]
    unfold cellZ
    rw [show j % 130 % 130 = j % 130 by omega]
    rfl
  · rw [List.getElem?_eq_none (by rw [List.length_map]; omega), List.getElem?_eq_none (by omega)]
theorem upd_all {F : Int → DS} {l m : List Arc} {r : Int} {x : Arc} (h : ∀ a ∈ m, a.f = r → F a.t = bfD l a.t) (hx : x.f = r) : ∀ a ∈ m ++ [x], a.f = r → updF F x.t (bfD l x.t) a.t = bfD l a.t := fun a ha hf => by
  by_cases e : a.t = x.t
  · rw [e, updF_same]
  · rw [updF_ne _ _ e]
    rcases List.mem_append.1 ha with ha | ha
    · exact h a ha hf
    · rw [List.mem_singleton.1 ha] at e; exact absurd rfl e
/- waymarkref25.Routes -/
def ref25_Routes_r8_T : Bool × List (List Nat × List Nat) := (true, [([], []), ([], []), ([0, 1], [0, 1]), ([2], [2]), ([3], [3]), ([], []), ([], []), ([], []), ([6, 7], [6, 7]), ([8], [8]), ([9], [9]), ([5, 10], [5, 10]), ([4, 0, 1, 2, 3, 4, 5, 6, 7, 8, 9, 10, 11], [4]), ([12, 11, 11, 0, 1, 2, 3, 4, 5, 6, 7, 8, 9, 10, 11], [11, 12])])
def ref25_Routes_r8_B : List Nat := [0, 0, 3, 7, 15, 0, 0, 0, 192, 448, 960, 2016, 4095, 8191]
theorem ref25_Routes_r8_t : Go.Proofs.YtmcannmjielalaaW.PrintLast.rtab .any (Go.Proofs.YtmcannmjielalaaW.PrintLast.opsOf Try.f45 8) = ref25_Routes_r8_T := by kernel_rfl
theorem ref25_Routes_r8_b : Go.Proofs.YtmcannmjielalaaW.PrintLast.waitsOk ref25_Routes_r8_T.2 ref25_Routes_r8_B = true := by kernel_rfl
def ref25_Routes_r18_T : Bool × List (List Nat × List Nat) := (true, [([], []), ([], []), ([0, 1], [0, 1]), ([2], [2]), ([3], [3]), ([], []), ([4, 5], [4, 5]), ([6], [6]), ([7], [7]), ([7], [7]), ([9, 8, 7], [7, 8, 9]), ([10, 7], [7, 10]), ([7, 11], [7, 11]), ([12, 7], [12]), ([13], [13]), ([13], [13]), ([14, 15, 13], [13, 14, 15]), ([16, 13], [13, 16]), ([17, 13], [13, 17]), ([18, 13], [13, 18]), ([13], [13]), ([13], [13]), ([21, 20, 13], [13, 20, 21]), ([22, 13], [13, 22]), ([19, 23, 13, 13], [13, 19, 23]), ([13], [13]), ([13], [13]), ([26, 25, 13], [13, 25, 26]), ([27, 13], [13, 27]), ([24, 28, 13], [13, 24, 28]), ([13, 29], [13, 29])])
def ref25_Routes_r18_B : List Nat := [0, 0, 3, 7, 15, 0, 63, 127, 255, 255, 1023, 2047, 4095, 8191, 16383, 16383, 65535, 131071, 262143, 524287, 16383, 16383, 3162111, 7356415, 16777215, 16383, 16383, 100679679, 234897407, 536870911, 1073741823]
theorem ref25_Routes_r18_t : Go.Proofs.YtmcannmjielalaaW.PrintLast.rtab .any (Go.Proofs.YtmcannmjielalaaW.PrintLast.opsOf Try.f45 18) = ref25_Routes_r18_T := by kernel_rfl
theorem ref25_Routes_r18_b : Go.Proofs.YtmcannmjielalaaW.PrintLast.waitsOk ref25_Routes_r18_T.2 ref25_Routes_r18_B = true := by kernel_rfl
set_option maxRecDepth 100000 in
set_option maxHeartbeats 4000000 in
theorem ref25_Routes {l : List Arc} {r : Int} (hll : l.length ≤ 400000 := by omega) (hok : ∀ a ∈ l, AOk a) : Triple Try.prog 45 [.sl 3 (l.map arcC), .int r] [] (Own 49 3 ((routesM l r).map rtC) []) := by
  refine triple_of Try.func45 rfl (by kernel_rfl) rfl (by simp) ?_
  refine aSeq ?_
  refine aReg ?_
  refine sp pMa ?_
  refine oNil ?_
  refine aSeq ?_
  refine aReg ?_
  refine sq ?_
  refine qLit (l := []) rfl rfl (by decide) us_41 ty_49 ze_49 rfl (by decide) (by decide) rfl rfl rfl (fun b13 => ?_)
  refine sp pMa ?_
  refine oNil ?_
  refine aSeq ?_
  refine aReg ?_
  refine sp pM ?_
  refine sp pM ?_
  refine sq ?_
  refine ci rfl rfl rfl (ref25_From (l := l) (r := r) (by omega) hok) ?_
  refine sq ?_
  refine qAlloc rfl rfl (by decide) ze_172 rfl (fun b6 => ?_)
  refine sa ?_
  refine oStW (hn := distC_len _) (h1 := distC_one _) rfl rfl rfl rfl (by repeat constructor) ty_172 ?_
  rw [show avCells (.agg (distC (bfD l r))) = arrF 65 (fun x => [u64A x]) (bfD l r).2 ++ arrF 65 (fun x => [boA x]) (bfD l r).1 from rfl]
  refine oNil ?_
  refine aSeq ?_
  refine aReg ?_
  refine sp (pBuildA0 rfl ua_174 ty_172 ze_174 rfl) ?_
  refine sq ?_
  refine qAlloc rfl rfl (by decide) ze_174 rfl (fun b7 => ?_)
  refine sa ?_
  refine oStW rfl rfl rfl rfl (by repeat constructor) ty_174 ?_
  refine oNil ?_
  refine aSeq ?_
  refine aSeq ?_
  refine aWeak (weak_box (b := b7) (cs' := arrF 65 distC (fun (_ : Int) => ((fun _ => false, fun _ => 0) : DS))) (by repeat constructor) allZ) ?_
  refine aReg ?_
  refine sp pMa ?_
  refine oNil ?_
  refine aBlock ?_
  refine loopF (α := Nat × (Int → DS)) (kept := [(0, _), (1, _), (5, _), (6, _), (7, _)]) (fun (i, F) => i ≤ l.length ∧ ∀ a ∈ l.take i, a.f = r → F a.t = bfD l a.t) (fun (i, F) => [(8, .int i)]) (fun (i, F) => [.box b7 (arrF 65 distC F)]) (fun (i, F) => l.length - i) (0, (fun (_ : Int) => ((fun _ => false, fun _ => 0) : DS))) ?_ ⟨gInt rfl (by first | rfl | omega | simp), rfl, rfl, rfl, rfl, rfl, trivial⟩ (by repeat constructor) ?_
  · skip
    exact ⟨by omega, fun a ha => by simp at ha⟩
  · rintro ⟨i, F⟩ ⟨hi, hF⟩
    refine aSeq ?_
    refine aSeq ?_
    refine aReg ?_
    refine sp pM ?_
    refine sp pM ?_
    refine sp (by first | exact pLm sl_22 | exact pLs sl_22) ?_
    refine sp pB ?_
    refine oNil ?_
    refine aCondDec rfl (fun c21 => ?_) (fun c21 => ?_)
    · skip
      refine aSkip ?_
      refine aSeq ?_
      refine aBlock ?_
      refine aSeq ?_
      obtain ⟨x, hx⟩ : ∃ a, l[i]? = some a := ⟨_, List.getElem?_eq_getElem (by omega)⟩
      have hxk := hok x (List.mem_of_getElem? hx)
      unfold AOk at hxk
      refine aReg ?_
      refine sp pM ?_
      refine sp pM ?_
      first | refine sp (pIx es_22) ?_ | (refine obtSN 24 25 rfl rfl (by omega) (fun x26 hx26 => ?_); refine sp (pIs es_22 hx26) ?_) | (refine obtS 24 25 rfl rfl (by omega) (by omega) (fun x26 hx26 => ?_); refine sp (pIs es_22 hx26) ?_) | refine sp (pIo es_22) ?_
      refine sp (pFs fd_36_0) ?_
      refine sr (rS1 ty_3) ?_
      refine sp pM ?_
      refine sp pB ?_
      refine oNil ?_
      refine aCondEq rfl (fun c30 => ?_) (fun c30 => ?_)
      · skip
        refine aDrawT ref25_Routes_r8_t ref25_Routes_r8_b [13] 14 #[false, false, false, false, false, false, false, false, false, false, false, false, false, false] (by kernel_rfl) rfl rfl (fun HT => ?_)
        refine dp HT 0 rfl pM ?_
        refine dp HT 1 rfl pM ?_
        first | refine dp HT 2 rfl (pIx es_22) ?_ | (refine obtDN 31 32 rfl rfl (by omega) (fun x33 hx33 => ?_); refine dp HT 2 rfl (pIs es_22 hx33) ?_) | (refine obtD 31 32 rfl rfl (by omega) (by omega) (fun x33 hx33 => ?_); refine dp HT 2 rfl (pIs es_22 hx33) ?_) | refine dp HT 2 rfl (pIo es_22) ?_
        refine dp HT 3 rfl (pFs fd_36_1) ?_
        refine dr HT 4 rfl (rS1 ty_3) ?_
        refine dp HT 5 rfl pM ?_
        refine dp HT 6 rfl pM ?_
        refine dp HT 7 rfl pM ?_
        first | refine dp HT 8 rfl (pIx es_22) ?_ | (refine obtDN 37 38 rfl rfl (by omega) (fun x39 hx39 => ?_); refine dp HT 8 rfl (pIs es_22 hx39) ?_) | (refine obtD 37 38 rfl rfl (by omega) (by omega) (fun x39 hx39 => ?_); refine dp HT 8 rfl (pIs es_22 hx39) ?_) | refine dp HT 8 rfl (pIo es_22) ?_
        refine dp HT 9 rfl (pFs fd_36_1) ?_
        refine dr HT 10 rfl (rS1 ty_3) ?_
        refine dGo ?_
        refine e1 HT 11 rfl ?_
        refine ci rfl rfl rfl (ref25_From (l := l) (r := x.t) (by omega) hok) ?_
        refine ep HT 12 rfl (pIa ar_174) ?_
        refine eLast ?_
        refine f1 HT 13 rfl ?_
        refine oArA (c := distC) (v := bfD l x.t) (h1 := distC_one _) rfl rfl rfl (by repeat constructor) ty_172 distC_len ?_
        refine fE HT ?_
        clear HT
        refine aReg ?_
        refine sp pM ?_
        refine sp pAd ?_
        refine sp pMa ?_
        refine oNil ?_
        refine ⟨(i + 1, _), ?_, by (try dsimp only); omega, ⟨gInt rfl (by first | rfl | omega | simp), rfl, rfl, rfl, rfl, rfl, trivial⟩, _, (by repeat constructor)⟩
        dsimp only
        rw [take_step hx]
        first
          | (refine ⟨by omega, upd_all hF ?_⟩; assumption)
          | (refine ⟨by omega, fun a ha hf => ?_⟩
             rcases List.mem_append.1 ha with ha | ha
             · exact hF a ha hf
             · rw [List.mem_singleton.1 ha] at hf; exact absurd hf (by assumption))
      · skip
        refine aSkip ?_
        refine aReg ?_
        refine sp pM ?_
        refine sp pAd ?_
        refine sp pMa ?_
        refine oNil ?_
        refine ⟨(i + 1, _), ?_, by (try dsimp only); omega, ⟨gInt rfl (by first | rfl | omega | simp), rfl, rfl, rfl, rfl, rfl, trivial⟩, _, (by repeat constructor)⟩
        dsimp only
        rw [take_step hx]
        first
          | (refine ⟨by omega, upd_all hF ?_⟩; assumption)
          | (refine ⟨by omega, fun a ha hf => ?_⟩
             rcases List.mem_append.1 ha with ha | ha
             · exact hF a ha hf
             · rw [List.mem_singleton.1 ha] at hf; exact absurd hf (by assumption))
    · skip
      refine aExit rfl ?_
      refine aSeq ?_
      refine aSeq ?_
      rw [take_all (by omega)] at hF
      refine aReg ?_
      refine sp pMa ?_
      refine oNil ?_
      refine aBlock ?_
      refine loopF (α := Nat × List Rt × Option Nat × Nat) (kept := [(0, _), (1, _), (6, _), (7, _)]) (fun (n, out, g, c) => n ≤ 64 ∧ out = (((List.range (n + 1)).map fun (i : Nat) => (i : Int)).filter (fun v => decide (v ≠ r) && isF l r v)).map fun v => ⟨v, viaM l r v, dF l r v⟩) (fun (n, out, g, c) => [(9, .int ((n + 1 : Nat) : Int)), (5, .v (slV g out.length c))]) (fun (n, out, g, c) => [.sl g c 49 3 (out.map rtC)]) (fun (n, out, g, c) => 64 - n) (0, [], _, _) ?_ ⟨gInt rfl (by first | rfl | omega | simp), gLen rfl (by first | rfl | simp | (simp; omega)), rfl, rfl, rfl, rfl, trivial⟩ (by repeat constructor) ?_
      · skip
        exact ⟨by omega, by rw [rts_zero hok]; rfl⟩
      · rintro ⟨n, out, g, c⟩ ⟨hn, ho⟩
        refine aSeq ?_
        refine aSeq ?_
        refine aReg ?_
        refine sp pM ?_
        refine sp pB ?_
        refine oNil ?_
        refine aCondDec rfl (fun c45 => ?_) (fun c45 => ?_)
        · skip
          refine aSkip ?_
          refine aSeq ?_
          refine aBlock ?_
          refine aSeq ?_
          refine aSeq ?_
          refine aReg ?_
          refine sp pM ?_
          refine sp pM ?_
          refine sp pB ?_
          refine sp pM ?_
          refine oSplitEq 51 rfl (fun c51 => ?_) (fun c51 => ?_)
          · skip
            refine gf ?_
            refine gf ?_
            refine gf ?_
            refine gf ?_
            refine gf ?_
            refine sp pK ?_
            refine oNil ?_
            refine aCondT rfl ?_
            refine aExit rfl ?_
            refine aReg ?_
            refine sp pM ?_
            refine sp pAd ?_
            refine sp pMa ?_
            refine oNil ?_
            refine ⟨(n + 1, _, _, _), ?_, by (try dsimp only); omega, ⟨gInt rfl (by first | rfl | omega | simp), gLen rfl (by first | rfl | simp | (simp; omega)), rfl, rfl, rfl, rfl, trivial⟩, _, (by repeat constructor)⟩
            refine ⟨by omega, ?_⟩
            rw [rts_step, List.map_append, ← ho]
            first
              | (rw [if_neg (by simp_all [isF])]; simp; done)
              | (obtain rfl : j = 0 := by omega
                 rw [List.drop_zero] at hv
                 rw [if_pos (by simp_all [isF])]
                 rw [hv]
                 rfl)
          · skip
            refine gp pM ?_
            refine gp (pFb fd_172_1) ?_
            refine gp (pIa ar_170) ?_
            refine gr (by first | exact rAr ty_4 | exact rArL ty_4 | exact rArR2 ty_4 | exact rB1 ty_4) ?_
            refine gp pNo ?_
            refine sp pK ?_
            refine oNil ?_
            refine aCondNot rfl (fun c57 => ?_) (fun c57 => ?_)
            · skip
              refine aExit rfl ?_
              refine aReg ?_
              refine sp pM ?_
              refine sp pAd ?_
              refine sp pMa ?_
              refine oNil ?_
              refine ⟨(n + 1, _, _, _), ?_, by (try dsimp only); omega, ⟨gInt rfl (by first | rfl | omega | simp), gLen rfl (by first | rfl | simp | (simp; omega)), rfl, rfl, rfl, rfl, trivial⟩, _, (by repeat constructor)⟩
              refine ⟨by omega, ?_⟩
              rw [rts_step, List.map_append, ← ho]
              first
                | (rw [if_neg (by simp_all [isF])]; simp; done)
                | (obtain rfl : j = 0 := by omega
                   rw [List.drop_zero] at hv
                   rw [if_pos (by simp_all [isF])]
                   rw [hv]
                   rfl)
            · skip
              refine aSkip ?_
              refine aSeq ?_
              refine aReg ?_
              refine sp pMa ?_
              refine oNil ?_
              refine aSeq ?_
              refine aSeq ?_
              refine aReg ?_
              refine sp pM ?_
              refine sp (by first | exact pLm sl_22 | exact pLs sl_22) ?_
              refine sp pSu ?_
              refine sp pMa ?_
              refine oNil ?_
              refine aBlock ?_
              refine loopF (α := Nat × Int) (kept := [(0, _), (1, _), (5, _), (6, _), (7, _), (9, _)]) (fun (j, v) => j ≤ l.length ∧ v = (((l.drop j).find? (viaP l r ((n + 1 : Nat) : Int))).map (·.t)).getD 0) (fun (j, v) => [(11, .int ((j : Int) - 1)), (10, .int v)]) (fun (j, v) => []) (fun (j, v) => j) (l.length, 0) ?_ ⟨gInt rfl (by first | rfl | omega | simp), gInt rfl (by first | rfl | omega | simp), rfl, rfl, rfl, rfl, rfl, rfl, trivial⟩ (by repeat constructor) ?_
              · skip
                exact ⟨by omega, by simp⟩
              · rintro ⟨j, v⟩ ⟨hj, hv⟩
                refine aSeq ?_
                refine aSeq ?_
                refine aReg ?_
                refine sp pM ?_
                refine sp pB ?_
                refine oNil ?_
                refine aCondDec rfl (fun c62 => ?_) (fun c62 => ?_)
                · skip
                  refine aSkip ?_
                  refine aSeq ?_
                  refine aBlock ?_
                  refine aSeq ?_
                  obtain ⟨y, hy⟩ : ∃ y, l[j - 1]? = some y := ⟨_, List.getElem?_eq_getElem (by omega)⟩
                  have hy2 : l[((j : Int) - 1).toNat]? = some y := by rw [show ((j : Int) - 1).toNat = j - 1 by omega]; exact hy
                  have hyk := hok y (List.mem_of_getElem? hy)
                  unfold AOk at hyk
                  have hFy := hF y (List.mem_of_getElem? hy)
                  have hr1 : 0 ≤ (bfD l y.t).2 ((n + 1 : Nat) : Int) ∧ (bfD l y.t).2 ((n + 1 : Nat) : Int) ≤ 69793218560000000 := dF_range hok (by omega) y.t ((n + 1 : Nat) : Int)
                  have hvd := viaDrop (r := r) (v := ((n + 1 : Nat) : Int)) hy
                  refine aReg ?_
                  refine sp pM ?_
                  refine sp pM ?_
                  first | refine sp (pIx es_22) ?_ | (refine obtSN 65 66 rfl rfl (by omega) (fun x67 hx67 => ?_); refine sp (pIs es_22 hx67) ?_) | (refine obtS 65 66 rfl rfl (by omega) (by omega) (fun x67 hx67 => ?_); refine sp (pIs es_22 hx67) ?_) | refine sp (pIo es_22) ?_
                  refine sp (pFs fd_36_1) ?_
                  refine sr (rS1 ty_3) ?_
                  refine sp (pIa ar_174) ?_
                  refine sr (rArA ty_172 distC_len) ?_
                  refine sq ?_
                  refine qAlloc rfl rfl (by decide) ze_172 rfl (fun b12 => ?_)
                  refine sa ?_
                  refine oStW (hn := distC_len _) (h1 := distC_one _) rfl rfl rfl rfl (by repeat constructor) ty_172 ?_
                  rw [show avCells (.agg (distC (F y.t))) = arrF 65 (fun x => [u64A x]) (F y.t).2 ++ arrF 65 (fun x => [boA x]) (F y.t).1 from rfl]
                  refine oNil ?_
                  refine aSeq ?_
                  refine aDrawT ref25_Routes_r18_t ref25_Routes_r18_b [] 31 #[false, false, false, false, false, false, false, false, false, false, false, false, false, false, false, false, false, false, false, false, false, false, false, false, false, false, false, false, false, false, false] (by kernel_rfl) rfl rfl (fun HT => ?_)
                  refine dp HT 0 rfl pM ?_
                  refine dp HT 1 rfl pM ?_
                  first | refine dp HT 2 rfl (pIx es_22) ?_ | (refine obtDN 72 73 rfl rfl (by omega) (fun x74 hx74 => ?_); refine dp HT 2 rfl (pIs es_22 hx74) ?_) | (refine obtD 72 73 rfl rfl (by omega) (by omega) (fun x74 hx74 => ?_); refine dp HT 2 rfl (pIs es_22 hx74) ?_) | refine dp HT 2 rfl (pIo es_22) ?_
                  refine dp HT 3 rfl (pFs fd_36_0) ?_
                  refine dr HT 4 rfl (rS1 ty_3) ?_
                  refine dp HT 5 rfl pM ?_
                  refine dp HT 6 rfl pB ?_
                  refine dp HT 7 rfl pM ?_
                  refine dSplitEq 79 rfl (fun c79 => ?_) (fun c79 => ?_)
                  · skip
                    rw [hFy (by assumption)]
                    refine dpG HT 8 rfl pM ?_
                    refine dpG HT 9 rfl (pFb fd_172_1) ?_
                    refine dpG HT 10 rfl (pIa ar_170) ?_
                    refine drG HT 11 rfl (by first | exact rAr ty_4 | exact rArL ty_4 | exact rArR2 ty_4 | exact rB1 ty_4) ?_
                    refine dp HT 12 rfl pK ?_
                    refine dp HT 13 rfl pM ?_
                    refine dSplit 85 rfl (fun c85 => ?_) (fun c85 => ?_)
                    · skip
                      refine dpG HT 14 rfl pM ?_
                      refine dpG HT 15 rfl pM ?_
                      first | refine dpG HT 16 rfl (pIx es_22) ?_ | (refine obtDN 86 87 rfl rfl (by omega) (fun x88 hx88 => ?_); refine dpG HT 16 rfl (pIs es_22 hx88) ?_) | (refine obtD 86 87 rfl rfl (by omega) (by omega) (fun x88 hx88 => ?_); refine dpG HT 16 rfl (pIs es_22 hx88) ?_) | refine dpG HT 16 rfl (pIo es_22) ?_
                      refine dpG HT 17 rfl (pFs fd_36_2) ?_
                      refine drG HT 18 rfl (rS1 ty_3) ?_
                      refine dpG HT 19 rfl (by first | exact pCvK ik_3 ik_37 | exact pConv rfl rfl ik_3 ik_37 rfl) ?_
                      refine dpG HT 20 rfl pM ?_
                      refine dpG HT 21 rfl (pFb fd_172_0) ?_
                      refine dpG HT 22 rfl (pIa ar_169) ?_
                      refine drG HT 23 rfl (by first | exact rAr ty_37 | exact rArL ty_37 | exact rArR2 ty_37 | exact rB1 ty_37) ?_
                      refine dpG HT 25 rfl pM ?_
                      refine dpG HT 26 rfl (pFb fd_172_0) ?_
                      refine dpG HT 27 rfl (pIa ar_169) ?_
                      refine drG HT 28 rfl (by first | exact rAr ty_37 | exact rArL ty_37 | exact rArR2 ty_37 | exact rB1 ty_37) ?_
                      refine dGo ?_
                      refine e1G HT 24 rfl ?_
                      refine cv rfl rfl rfl (lents_refl _) (ref22_Add (by omega) (by omega) (by omega) (by omega)) ?_
                      rw [add_far (by omega)]
                      refine efG HT 29 rfl pB ?_
                      refine ef HT 30 rfl pK ?_
                      refine eE HT ?_
                      clear HT
                      refine aCondEq rfl (fun c102 => ?_) (fun c102 => ?_)
                      · skip
                        refine aReg ?_
                        refine sp pM ?_
                        refine sp pM ?_
                        first | refine sp (pIx es_22) ?_ | (refine obtSN 103 104 rfl rfl (by omega) (fun x105 hx105 => ?_); refine sp (pIs es_22 hx105) ?_) | (refine obtS 103 104 rfl rfl (by omega) (by omega) (fun x105 hx105 => ?_); refine sp (pIs es_22 hx105) ?_) | refine sp (pIo es_22) ?_
                        refine sp (pFs fd_36_1) ?_
                        refine sr (rS1 ty_3) ?_
                        refine sp pMa ?_
                        refine oNil ?_
                        refine aReg ?_
                        refine sp pM ?_
                        refine sp pSu ?_
                        refine sp pMa ?_
                        refine oNil ?_
                        refine ⟨(j - 1, _), ?_, by (try dsimp only); omega, ⟨gInt rfl (by first | rfl | omega | simp), gInt rfl (by first | rfl | omega | simp), rfl, rfl, rfl, rfl, rfl, rfl, trivial⟩, _, (by repeat constructor)⟩
                        rw [show j - 1 + 1 = j by omega] at hvd
                        refine ⟨by omega, ?_⟩
                        rw [hvd, ← hv]
                        first
                          | (rw [if_neg (by simp_all [viaP, isF, dF]; done)]; done)
                          | (rw [if_neg (by simp_all [viaP, isF, dF]; omega)]; done)
                          | (rw [if_pos (by simp_all [viaP, isF, dF]; done)]; done)
                          | (rw [if_pos (by simp_all [viaP, isF, dF]; omega)]; done)
                      · skip
                        refine aSkip ?_
                        refine aReg ?_
                        refine sp pM ?_
                        refine sp pSu ?_
                        refine sp pMa ?_
                        refine oNil ?_
                        refine ⟨(j - 1, _), ?_, by (try dsimp only); omega, ⟨gInt rfl (by first | rfl | omega | simp), gInt rfl (by first | rfl | omega | simp), rfl, rfl, rfl, rfl, rfl, rfl, trivial⟩, _, (by repeat constructor)⟩
                        rw [show j - 1 + 1 = j by omega] at hvd
                        refine ⟨by omega, ?_⟩
                        rw [hvd, ← hv]
                        first
                          | (rw [if_neg (by simp_all [viaP, isF, dF]; done)]; done)
                          | (rw [if_neg (by simp_all [viaP, isF, dF]; omega)]; done)
                          | (rw [if_pos (by simp_all [viaP, isF, dF]; done)]; done)
                          | (rw [if_pos (by simp_all [viaP, isF, dF]; omega)]; done)
                    · skip
                      refine dS HT 14 rfl ?_
                      refine dS HT 15 rfl ?_
                      refine dS HT 16 rfl ?_
                      refine dS HT 17 rfl ?_
                      refine dS HT 18 rfl ?_
                      refine dS HT 19 rfl ?_
                      refine dS HT 20 rfl ?_
                      refine dS HT 21 rfl ?_
                      refine dS HT 22 rfl ?_
                      refine dS HT 23 rfl ?_
                      refine dS HT 24 rfl ?_
                      refine dS HT 25 rfl ?_
                      refine dS HT 26 rfl ?_
                      refine dS HT 27 rfl ?_
                      refine dS HT 28 rfl ?_
                      refine dS HT 29 rfl ?_
                      refine dp HT 30 rfl pK ?_
                      refine dE HT ?_
                      clear HT
                      refine aCondF rfl ?_
                      refine aSkip ?_
                      refine aReg ?_
                      refine sp pM ?_
                      refine sp pSu ?_
                      refine sp pMa ?_
                      refine oNil ?_
                      refine ⟨(j - 1, _), ?_, by (try dsimp only); omega, ⟨gInt rfl (by first | rfl | omega | simp), gInt rfl (by first | rfl | omega | simp), rfl, rfl, rfl, rfl, rfl, rfl, trivial⟩, _, (by repeat constructor)⟩
                      rw [show j - 1 + 1 = j by omega] at hvd
                      refine ⟨by omega, ?_⟩
                      rw [hvd, ← hv]
                      first
                        | (rw [if_neg (by simp_all [viaP, isF, dF]; done)]; done)
                        | (rw [if_neg (by simp_all [viaP, isF, dF]; omega)]; done)
                        | (rw [if_pos (by simp_all [viaP, isF, dF]; done)]; done)
                        | (rw [if_pos (by simp_all [viaP, isF, dF]; omega)]; done)
                  · skip
                    refine dS HT 8 rfl ?_
                    refine dS HT 9 rfl ?_
                    refine dS HT 10 rfl ?_
                    refine dS HT 11 rfl ?_
                    refine dp HT 12 rfl pK ?_
                    refine dp HT 13 rfl pM ?_
                    refine dS HT 14 rfl ?_
                    refine dS HT 15 rfl ?_
                    refine dS HT 16 rfl ?_
                    refine dS HT 17 rfl ?_
                    refine dS HT 18 rfl ?_
                    refine dS HT 19 rfl ?_
                    refine dS HT 20 rfl ?_
                    refine dS HT 21 rfl ?_
                    refine dS HT 22 rfl ?_
                    refine dS HT 23 rfl ?_
                    refine dS HT 24 rfl ?_
                    refine dS HT 25 rfl ?_
                    refine dS HT 26 rfl ?_
                    refine dS HT 27 rfl ?_
                    refine dS HT 28 rfl ?_
                    refine dS HT 29 rfl ?_
                    refine dp HT 30 rfl pK ?_
                    refine dE HT ?_
                    clear HT
                    refine aCondF rfl ?_
                    refine aSkip ?_
                    refine aReg ?_
                    refine sp pM ?_
                    refine sp pSu ?_
                    refine sp pMa ?_
                    refine oNil ?_
                    refine ⟨(j - 1, _), ?_, by (try dsimp only); omega, ⟨gInt rfl (by first | rfl | omega | simp), gInt rfl (by first | rfl | omega | simp), rfl, rfl, rfl, rfl, rfl, rfl, trivial⟩, _, (by repeat constructor)⟩
                    rw [show j - 1 + 1 = j by omega] at hvd
                    refine ⟨by omega, ?_⟩
                    rw [hvd, ← hv]
                    first
                      | (rw [if_neg (by simp_all [viaP, isF, dF]; done)]; done)
                      | (rw [if_neg (by simp_all [viaP, isF, dF]; omega)]; done)
                      | (rw [if_pos (by simp_all [viaP, isF, dF]; done)]; done)
                      | (rw [if_pos (by simp_all [viaP, isF, dF]; omega)]; done)
                · skip
                  refine aExit rfl ?_
                  refine aReg ?_
                  refine sp pM ?_
                  refine sp pM ?_
                  refine sp pM ?_
                  refine sp pM ?_
                  refine sp (pFb fd_172_0) ?_
                  refine sp (pIa ar_169) ?_
                  refine sr (by first | exact rAr ty_37 | exact rArL ty_37 | exact rArR2 ty_37 | exact rB1 ty_37) ?_
                  refine sp (pBuild rfl st_49 ze_49 rfl rfl rfl rfl) ?_
                  refine sq ?_
                  refine qLit (l := [_]) rfl rfl (by decide) us_41 ty_49 ze_49 rfl (by decide) (by decide) rfl rfl rfl (fun b116 => ?_)
                  have hol : out.length ≤ 1000 := by
                    rw [ho, List.length_map]
                    refine Nat.le_trans (List.length_filter_le _ _) ?_
                    simp
                    omega
                  refine sa ?_
                  refine oAppT ([⟨((n + 1 : Nat) : Int), v, (bfD l r).2 ((n + 1 : Nat) : Int)⟩] : List Rt) rfl rfl (by repeat constructor) (srcOwn rfl (by repeat constructor) rfl) el_41 sl_41 (fun g117 k117 => ?_)
                  refine sp pMa ?_
                  refine oNil ?_
                  refine aReg ?_
                  refine sp pM ?_
                  refine sp pAd ?_
                  refine sp pMa ?_
                  refine oNil ?_
                  refine ⟨(n + 1, _, _, _), ?_, by (try dsimp only); omega, ⟨gInt rfl (by first | rfl | omega | simp), gLen rfl (by first | rfl | simp | (simp; omega)), rfl, rfl, rfl, rfl, trivial⟩, _, (by repeat constructor)⟩
                  refine ⟨by omega, ?_⟩
                  rw [rts_step, List.map_append, ← ho]
                  first
                    | (rw [if_neg (by simp_all [isF])]; simp; done)
                    | (obtain rfl : j = 0 := by omega
                       rw [List.drop_zero] at hv
                       rw [if_pos (by simp_all [isF])]
                       rw [hv]
                       rfl)
        · skip
          refine aExit rfl ?_
          refine aSeq ?_
          refine aReg ?_
          refine sp pM ?_
          refine sp pMa ?_
          refine oNil ?_
          refine aRet ?_
          refine finOwn rfl ?_
          obtain rfl : n = 64 := by omega
          rw [ho]
          rfl
end A
end Go.Proofs.Ytmcannmjielalaa
set_option linter.unusedVariables false
set_option linter.unusedSimpArgs false
namespace Go.Proofs.Ytmcannmjielalaa
namespace A
/-! ### The way hop by hop -/
def hopsF (l : List Arc) (td : Int) : Nat → Int → List Int
  | 0, v => [v]
  | k + 1, v => if v = td then [v] else v :: hopsF l td k (viaM l v td)
/-- A step of the way: an arc, and the distance falls by its cost. -/
theorem hop_step {l : List Arc} (hl : ∀ a ∈ l, AOk a) (hs : l.Pairwise ltA) {v td : Int} (h : isF l v td = true) (hne : td ≠ v) : ∃ a ∈ l, a.f = v ∧ a.t = viaM l v td ∧ isF l (viaM l v td) td = true ∧ a.c + dF l (viaM l v td) td = dF l v td := by
  obtain ⟨w, hw⟩ := fh_ex hl h hne
  have hv := viaM_is hl hs hw
  obtain ⟨a, ha, hf, ht, c, k, hc⟩ := hv.1
  have hok := hl a ha
  unfold AOk at hok
  have h1 := wk_isF hl (r := viaM l v td) (.inl (by omega)) k
  have h2 := wk_isF hl (r := v) (.inl (by omega)) (Wk.pre ha hf (by rw [ht]; exact isF_wk hl h1.1))
  exact ⟨a, ha, hf, ht, h1.1, by omega⟩
theorem isF_range {l : List Arc} (hl : ∀ a ∈ l, AOk a) {r v : Int} (h : isF l r v = true) : 1 ≤ r ∧ r ≤ 64 ∧ 1 ≤ v ∧ v ≤ 64 := by
  by_cases hr : 1 ≤ r ∧ r ≤ 64
  · rcases (isF_wk hl h).rng hl with e | e
    · omega
    · omega
  · rw [isF_none hl hr] at h; cases h
/-- What a way is: from node td node by arcs, nearer at each. -/
inductive HWay (l : List Arc) (td : Int) : Int → List Int → Prop
  | here : HWay l td td [td]
  | hop {v : Int} {a : Arc} {p : List Int} : a ∈ l → a.f = v → td ≠ v → isF l v td = true → a.c + dF l a.t td = dF l v td → HWay l td a.t p → HWay l td v (v :: p)
theorem hopsF_way {l : List Arc} (hl : ∀ a ∈ l, AOk a) (hs : l.Pairwise ltA) {td : Int} : ∀ (k : Nat) (v : Int) (L : List Int), isF l v td = true → L.Nodup → (∀ u ∈ L, 1 ≤ u ∧ u ≤ 64 ∧ dF l v td < dF l u td) → 64 ≤ L.length + k → HWay l td v (hopsF l td k v)
  | 0, v, L, h, hn, hL, hk => by
    have hr := isF_range hl h
    have h1 : (v :: L).Nodup := List.nodup_cons.2 ⟨fun hm => by have := (hL v hm).2.2; omega, hn⟩
    have h2 := nodup_len (l := (v :: L).map (· - 1)) (n := 64) (by
      rw [List.nodup_iff_pairwise_ne] at h1 ⊢
      rw [List.pairwise_map]
      exact h1.imp (fun h e => h (by omega))) (fun x hx => by
      obtain ⟨u, hu, rfl⟩ := List.mem_map.1 hx
      rcases List.mem_cons.1 hu with rfl | hu
      · omega
      · have := hL u hu; omega)
    simp at h2
    omega
  | k + 1, v, L, h, hn, hL, hk => by
    unfold hopsF
    by_cases e : v = td
    · rw [if_pos e, e]; exact .here
    · rw [if_neg e]
      obtain ⟨a, ha, hf, ht, hi, hd⟩ := hop_step hl hs h (fun e' => e e'.symm)
      have hok := hl a ha
      have hr := isF_range hl h
      unfold AOk at hok
      refine .hop ha hf (fun e' => e e'.symm) h (by rw [ht]; exact hd) ?_
      rw [ht]
      refine hopsF_way hl hs k _ (v :: L) hi (List.nodup_cons.2 ⟨fun hm => by have := (hL v hm).2.2; omega, hn⟩) (fun u hu => ?_) (by simp; omega)
      rcases List.mem_cons.1 hu with rfl | hu
      · exact ⟨by omega, by omega, by omega⟩
      · have := hL u hu; exact ⟨by omega, by omega, by omega⟩
theorem hops_way {l : List Arc} (hl : ∀ a ∈ l, AOk a) (hs : l.Pairwise ltA) {v td : Int} (h : isF l v td = true) : HWay l td v (hopsF l td 64 v) :=
  hopsF_way hl hs 64 v [] h .nil (fun u hu => by simp at hu) (by simp)
theorem HWay.lt {l : List Arc} (hl : ∀ a ∈ l, AOk a) {td v : Int} {p : List Int} (h : HWay l td v p) : (∀ u ∈ p, dF l u td ≤ dF l v td) ∧ p.Pairwise (fun a b => dF l b td < dF l a td) := by
  induction h with
  | here => simp
  | @hop v a p ha hf hne hi hd hp ih =>
    have hok := hl a ha
    unfold AOk at hok
    refine ⟨fun u hu => ?_, List.pairwise_cons.2 ⟨fun u hu => ?_, ih.2⟩⟩
    · rcases List.mem_cons.1 hu with rfl | hu
      · exact Int.le_refl _
      · have := ih.1 u hu; omega
    · have := ih.1 u hu; omega
theorem HWay.nodup {l : List Arc} (hl : ∀ a ∈ l, AOk a) {td v : Int} {p : List Int} (h : HWay l td v p) : p.Nodup :=
  (h.lt hl).2.imp (fun h e => by subst e; omega)
theorem HWay.ends {l : List Arc} {td v : Int} {p : List Int} (h : HWay l td v p) : p.head? = some v ∧ p.getLast? = some td := by
  induction h with
  | here => exact ⟨rfl, rfl⟩
  | @hop v a p ha hf hne hi hd hp ih =>
    refine ⟨rfl, ?_⟩
    rw [List.getLast?_cons, ih.2]
    rfl
theorem HWay.len {l : List Arc} (hl : ∀ a ∈ l, AOk a) {td v : Int} {p : List Int} (ht : 1 ≤ td ∧ td ≤ 64) (h : HWay l td v p) : p.length ≤ 64 := by
  have h1 := h.nodup hl
  have hr : ∀ u ∈ p, 1 ≤ u ∧ u ≤ 64 := by
    clear h1
    induction h with
    | here => intro u hu; rw [List.mem_singleton.1 hu]; exact ht
    | @hop v a p ha hf hne hi hd hp ih =>
      intro u hu
      have hok := hl a ha
      unfold AOk at hok
      rcases List.mem_cons.1 hu with rfl | hu
      · omega
      · exact ih u hu
  have h2 := nodup_len (l := p.map (· - 1)) (n := 64) (by
      rw [List.nodup_iff_pairwise_ne] at h1 ⊢
      rw [List.pairwise_map]
      exact h1.imp (fun h e => h (by omega))) (fun x hx => by
      obtain ⟨u, hu, rfl⟩ := List.mem_map.1 hx
      have := hr u hu; omega)
  simpa using h2
end A
end Go.Proofs.Ytmcannmjielalaa
set_option linter.unusedVariables false
set_option linter.unusedSimpArgs false
namespace Go.Proofs.Ytmcannmjielalaa
namespace A
theorem refGet_mem {db : List Lsa} {n : Int} : refGet db n ∈ db ∨ refGet db n = ⟨0, 0, []⟩ := by
  unfold refGet
  cases hf : db.find? (fun l => l.o == n) with
  | none => exact .inr rfl
  | some x => exact .inl (List.mem_of_find?_eq_some hf)
theorem refGet_len {db : List Lsa} (hm : ∀ x ∈ db, x.ls.length ≤ 40) (n : Int) : (refGet db n).ls.length ≤ 4000 := by
  rcases refGet_mem (db := db) (n := n) with h | h
  · have := hm _ h; omega
  · rw [h]; simp
theorem fm_take {α β : Type} {f : α → Option β} {l : List α} {i : Nat} {a : α} (h : l[i]? = some a) : (l.take (i + 1)).filterMap f = (l.take i).filterMap f ++ (f a).toList := by rw [take_step h, List.filterMap_append]; cases hq : f a <;> simp [hq]
theorem flat_take {α β : Type} {f : α → List β} {l : List α} {i : Nat} {a : α} (h : l[i]? = some a) : (l.take (i + 1)).flatMap f = (l.take i).flatMap f ++ f a := by rw [take_step h, List.flatMap_append]; simp
/- waymarkref24.Arcs -/
def ref24_Arcs_r9_T : Bool × List (List Nat × List Nat) := (true, [([], []), ([], []), ([1], [1]), ([0, 2], [0, 2]), ([], []), ([], []), ([4, 5], [4, 5]), ([6], [6]), ([7], [7]), ([3, 8, 3], [3, 8]), ([9], [9])])
def ref24_Arcs_r9_B : List Nat := [0, 0, 2, 7, 0, 0, 48, 112, 240, 511, 1023]
theorem ref24_Arcs_r9_t : Go.Proofs.YtmcannmjielalaaW.PrintLast.rtab .any (Go.Proofs.YtmcannmjielalaaW.PrintLast.opsOf Try.f58 9) = ref24_Arcs_r9_T := by kernel_rfl
theorem ref24_Arcs_r9_b : Go.Proofs.YtmcannmjielalaaW.PrintLast.waitsOk ref24_Arcs_r9_T.2 ref24_Arcs_r9_B = true := by kernel_rfl
def ref24_Arcs_r10_T : Bool × List (List Nat × List Nat) := (true, [([], []), ([], []), ([], []), ([1, 2], [1, 2]), ([3], [3]), ([4], [4]), ([], []), ([6], [6]), ([], []), ([8], [8]), ([5, 7, 9], [5, 7, 9]), ([10], [10]), ([0, 11], [0, 11]), ([12, 12, 0, 1, 2, 3, 4, 5, 6, 7, 8, 9, 10, 11, 12], [0, 12])])
def ref24_Arcs_r10_B : List Nat := [0, 0, 0, 6, 14, 30, 0, 64, 0, 256, 1022, 2046, 4095, 8191]
theorem ref24_Arcs_r10_t : Go.Proofs.YtmcannmjielalaaW.PrintLast.rtab .any (Go.Proofs.YtmcannmjielalaaW.PrintLast.opsOf Try.f58 10) = ref24_Arcs_r10_T := by kernel_rfl
theorem ref24_Arcs_r10_b : Go.Proofs.YtmcannmjielalaaW.PrintLast.waitsOk ref24_Arcs_r10_T.2 ref24_Arcs_r10_B = true := by kernel_rfl
set_option maxRecDepth 100000 in
set_option maxHeartbeats 2000000 in
theorem ref24_Arcs (db : List Lsa) (hl : db.length ≤ 70) (hm : ∀ x ∈ db, x.ls.length ≤ 40) : Triple Try.prog 58 [AV.sl 3 (db.map lsaC)] [] (fun r h' => ∃ g c, r = .v (slV g (refAll db).length c) ∧ h' = [.sl g c 36 3 ((refAll db).map arcC)]) := by
  refine triple_of Try.func58 rfl (by kernel_rfl) rfl (by simp) ?_
  refine aSeq ?_
  refine aReg ?_
  refine sp pMa ?_
  refine oNil ?_
  refine aSeq ?_
  refine aReg ?_
  refine sq ?_
  refine qLit (l := []) rfl rfl (by decide) us_22 ty_36 ze_36 rfl (by decide) (by decide) rfl rfl rfl (fun b7 => ?_)
  refine sp pMa ?_
  refine oNil ?_
  refine aSeq ?_
  refine aSeq ?_
  refine aReg ?_
  refine sp pMa ?_
  refine oNil ?_
  refine aBlock ?_
  refine aLoopI (α := Nat × Option Nat × Nat) (fun (i, g, c) => i ≤ db.length ∧ ((db.take i).flatMap (refArcs db)).length ≤ i * 40) (fun (i, g, c) => ([(0, AV.sl 3 (db.map lsaC)), (4, .int i), (3, .v (slV g ((db.take i).flatMap (refArcs db)).length c))], [.sl g c 36 3 (((db.take i).flatMap (refArcs db)).map arcC)])) (fun (i, g, c) => db.length - i) (0, some b7, 0) ?_ ?_ ?_
  · skip
    exact ⟨by omega, by simp⟩
  · skip
    exact weak_sub ⟨rfl, gInt rfl (by simp), rfl, trivial⟩ (by repeat constructor)
  · rintro ⟨i, g, c⟩ ⟨hi, hn⟩
    skip
    refine aSeq ?_
    refine aSeq ?_
    refine aReg ?_
    refine sp pM ?_
    refine sp pM ?_
    refine sp (by first | exact pLm sl_55 | exact pLs sl_55 | exact pLv sl_55) ?_
    refine sp pB ?_
    refine oNil ?_
    refine aCondDec rfl (fun c11 => ?_) (fun c11 => ?_)
    · skip
      refine aSkip ?_
      refine aSeq ?_
      refine aBlock ?_
      refine aSeq ?_
      refine aReg ?_
      refine sp pMa ?_
      refine oNil ?_
      refine aBlock ?_
      obtain ⟨l, hl2⟩ : ∃ l, db[i]? = some l := ⟨_, List.getElem?_eq_getElem (by omega)⟩
      have hl40 := hm l (List.mem_of_getElem? hl2)
      refine aLoopI (α := Nat × Option Nat × Nat) (fun (k, g', c') => k ≤ l.ls.length ∧ ((l.ls.take k).filterMap (refArc db l)).length ≤ k) (fun (k, g', c') => ([(0, AV.sl 3 (db.map lsaC)), (4, .int i), (5, .int k), (3, .v (slV g' ((db.take i).flatMap (refArcs db) ++ (l.ls.take k).filterMap (refArc db l)).length c'))], [.sl g' c' 36 3 (((db.take i).flatMap (refArcs db) ++ (l.ls.take k).filterMap (refArc db l)).map arcC)])) (fun (k, g', c') => l.ls.length - k) (0, g, c) ?_ ?_ ?_
      · skip
        exact ⟨by omega, by simp⟩
      · skip
        simp only [List.take_zero, List.filterMap_nil, List.append_nil]
        exact weak_sub ⟨rfl, rfl, gInt rfl (by simp), rfl, trivial⟩ (by repeat constructor)
      · rintro ⟨k, g', c'⟩ ⟨hk, hnk⟩
        skip
        refine aSeq ?_
        refine aSeq ?_
        refine aReg ?_
        refine sp pM ?_
        refine sp pM ?_
        refine sp pM ?_
        refine sp (pIdxS rfl rfl rfl es_55 (by omega) (map_get (f := lsaC) hl2)) ?_
        refine sp (by first | exact pFb fd_141_2 | exact pFs fd_141_2) ?_
        refine sr (by first | exact rS1 ty_139 | exact rB1 ty_139 | exact rAr ty_139 | exact rArL ty_139 | exact rArR2 ty_139) ?_
        refine sp (by first | exact pLm sl_139 | exact pLs sl_139 | exact pLv sl_139) ?_
        refine sp pB ?_
        refine oNil ?_
        refine aCondDec rfl (fun c21 => ?_) (fun c21 => ?_)
        · skip
          refine aSkip ?_
          refine aSeq ?_
          refine aBlock ?_
          refine aSeq ?_
          refine aReg ?_
          refine sp pM ?_
          refine sp pM ?_
          obtain ⟨x, hx⟩ : ∃ x, l.ls[k]? = some x := ⟨_, List.getElem?_eq_getElem (by omega)⟩
          refine sp (pIdxS rfl rfl rfl es_55 (by omega) (map_get (f := lsaC) hl2)) ?_
          refine sp (by first | exact pFb fd_141_2 | exact pFs fd_141_2) ?_
          refine sr (by first | exact rS1 ty_139 | exact rB1 ty_139 | exact rAr ty_139 | exact rArL ty_139 | exact rArR2 ty_139) ?_
          refine sp pM ?_
          refine sp (pIdxS rfl rfl rfl es_139 (by omega) (map_get (f := linkC) hx)) ?_
          refine sr (by first | exact rSW ty_138 rfl | exact rSA ty_138 | exact rBWa ty_138 | exact rBW ty_138 | exact rBA ty_138 | exact rArA ty_138 (fun _ => rfl)) ?_
          refine sq ?_
          refine qAlloc rfl rfl (by decide) ze_138 rfl (fun b6 => ?_)
          refine sa ?_
          refine oStW rfl rfl rfl rfl (by repeat constructor) ty_138 ?_
          refine oNil ?_
          refine aSeq ?_
          refine aDrawT ref24_Arcs_r9_t ref24_Arcs_r9_b [] 11 #[false, false, false, false, false, false, false, false, false, false, false] (by kernel_rfl) rfl rfl (fun HT => ?_)
          refine dp HT 0 rfl pM ?_
          refine dp HT 1 rfl (pFb fd_138_0) ?_
          refine dr HT 2 rfl (rB1 ty_3) ?_
          refine dp HT 4 rfl pM ?_
          refine dp HT 5 rfl pM ?_
          refine dp HT 6 rfl (pIdxS rfl rfl rfl es_55 (by omega) (map_get (f := lsaC) hl2)) ?_
          refine dp HT 7 rfl (by first | exact pFb fd_141_0 | exact pFs fd_141_0) ?_
          refine dr HT 8 rfl (by first | exact rS1 ty_3 | exact rB1 ty_3 | exact rAr ty_3 | exact rArL ty_3 | exact rArR2 ty_3) ?_
          refine dGo ?_
          refine e1 HT 3 rfl ?_
          refine qCall0 rfl rfl (by decide) rfl rfl (ref11_Get db x.t (by omega)) ?_
          rintro _ _ ⟨rfl, rfl⟩
          refine e1 HT 9 rfl ?_
          refine qCallV rfl rfl (by decide) rfl rfl (lents_refl _) (ref09_Cost (refGet db x.t) l.o (refGet_len hm _)) ?_
          refine ef HT 10 rfl pB ?_
          refine eE HT ?_
          clear HT
          refine aCondDec rfl (fun c42 => ?_) (fun c42 => ?_)
          · skip
            refine aDrawT ref24_Arcs_r10_t ref24_Arcs_r10_b [12] 14 #[false, false, false, false, false, false, false, false, false, false, false, false, false, false] (by kernel_rfl) rfl rfl (fun HT => ?_)
            refine dp HT 0 rfl pM ?_
            refine dp HT 1 rfl pM ?_
            refine dp HT 2 rfl pM ?_
            refine dp HT 3 rfl (pIdxS rfl rfl rfl es_55 (by omega) (map_get (f := lsaC) hl2)) ?_
            refine dp HT 4 rfl (by first | exact pFb fd_141_0 | exact pFs fd_141_0) ?_
            refine dr HT 5 rfl (by first | exact rS1 ty_3 | exact rB1 ty_3 | exact rAr ty_3 | exact rArL ty_3 | exact rArR2 ty_3) ?_
            refine dp HT 6 rfl (pFb fd_138_0) ?_
            refine dr HT 7 rfl (rB1 ty_3) ?_
            refine dp HT 8 rfl (pFb fd_138_1) ?_
            refine dr HT 9 rfl (rB1 ty_3) ?_
            refine dp HT 10 rfl (pBuild rfl st_36 ze_36 rfl rfl rfl rfl) ?_
            refine dGo ?_
            refine e1 HT 11 rfl ?_
            refine qLit (l := [_]) rfl rfl (by decide) us_22 ty_36 ze_36 rfl (by decide) (by decide) rfl rfl rfl (fun b54 => ?_)
            refine eLast ?_
            refine f1 HT 12 rfl ?_
            refine oApp rfl rfl (by decide) rfl (by repeat constructor) (by simp) (srcOwn rfl (by repeat constructor) (by first | rfl | simp)) el_22 sl_22 (by intro z hz; rcases List.mem_cons.1 hz with rfl | hz; rfl; cases hz) (by rw [List.length_map, List.length_append]; show _ + 1 ≤ _; omega) (by rw [List.length_map, List.length_append]; show (_ + 1) * 24 ≤ _; omega) (fun g55 k55 => ?_)
            refine fp HT 13 rfl pMa ?_
            refine fE HT ?_
            clear HT
            refine aReg ?_
            refine sp pM ?_
            refine sp pAd ?_
            refine sp pMa ?_
            refine oNil ?_
            have hst := fm_take (f := refArc db l) hx
            first
              | (have hq : refArc db l x = some ⟨l.o, x.t, x.c⟩ := by simp only [refArc]; rw [if_pos (by omega)]
                 rw [hq] at hst
                 refine ⟨(k + 1, g55, k55), ⟨by omega, ?_⟩, by show l.ls.length - (k + 1) < l.ls.length - k; omega, ?_⟩
                 · rw [hst, List.length_append]; simp; omega
                 · simp only [hst, Option.toList_some, ← List.append_assoc]
                   exact weak_sub ⟨rfl, rfl, gInt rfl (by simp), gLen rfl (by simp; omega), trivial⟩ (by rw [List.map_append (l₂ := [_])]; repeat constructor))
              | (have hq : refArc db l x = none := by simp only [refArc]; rw [if_neg (by omega)]
                 rw [hq] at hst
                 refine ⟨(k + 1, g', c'), ⟨by omega, ?_⟩, by show l.ls.length - (k + 1) < l.ls.length - k; omega, ?_⟩
                 · rw [hst, List.length_append]; simp; omega
                 · simp only [hst, Option.toList_none, List.append_nil]
                   exact weak_sub ⟨rfl, rfl, gInt rfl (by simp), rfl, trivial⟩ (by repeat constructor))
          · skip
            refine aSkip ?_
            refine aReg ?_
            refine sp pM ?_
            refine sp pAd ?_
            refine sp pMa ?_
            refine oNil ?_
            have hst := fm_take (f := refArc db l) hx
            first
              | (have hq : refArc db l x = some ⟨l.o, x.t, x.c⟩ := by simp only [refArc]; rw [if_pos (by omega)]
                 rw [hq] at hst
                 refine ⟨(k + 1, g55, k55), ⟨by omega, ?_⟩, by show l.ls.length - (k + 1) < l.ls.length - k; omega, ?_⟩
                 · rw [hst, List.length_append]; simp; omega
                 · simp only [hst, Option.toList_some, ← List.append_assoc]
                   exact weak_sub ⟨rfl, rfl, gInt rfl (by simp), gLen rfl (by simp; omega), trivial⟩ (by rw [List.map_append (l₂ := [_])]; repeat constructor))
              | (have hq : refArc db l x = none := by simp only [refArc]; rw [if_neg (by omega)]
                 rw [hq] at hst
                 refine ⟨(k + 1, g', c'), ⟨by omega, ?_⟩, by show l.ls.length - (k + 1) < l.ls.length - k; omega, ?_⟩
                 · rw [hst, List.length_append]; simp; omega
                 · simp only [hst, Option.toList_none, List.append_nil]
                   exact weak_sub ⟨rfl, rfl, gInt rfl (by simp), rfl, trivial⟩ (by repeat constructor))
        · skip
          refine aExit rfl ?_
          refine aReg ?_
          refine sp pM ?_
          refine sp pAd ?_
          refine sp pMa ?_
          refine oNil ?_
          have hke : k = l.ls.length := by omega
          have hstep := flat_take (f := refArcs db) hl2
          have hfl : refArcs db l = (l.ls.take k).filterMap (refArc db l) := by rw [hke, List.take_length]; rfl
          rw [hfl] at hstep
          refine ⟨(i + 1, g', c'), ⟨by omega, ?_⟩, by show db.length - (i + 1) < db.length - i; omega, ?_⟩
          · have := hm l (List.mem_of_getElem? hl2); rw [hstep, List.length_append]; omega
          · simp only [hstep]
            exact weak_sub ⟨rfl, gInt rfl (by simp), rfl, trivial⟩ (by repeat constructor)
    · skip
      refine aExit rfl ?_
      refine aSeq ?_
      refine aReg ?_
      refine sp pM ?_
      refine sp pMa ?_
      refine oNil ?_
      refine aRet ?_
      have hie : i = db.length := by omega
      refine ⟨_, [_], _, rfl, .cons .hd .nil, g, c, ?_, ?_⟩
      · rw [refAll, hie, List.take_length]; rfl
      · rw [refAll, hie, List.take_length]
end A
end Go.Proofs.Ytmcannmjielalaa
set_option linter.unusedVariables false
set_option linter.unusedSimpArgs false
namespace Go.Proofs.Ytmcannmjielalaa
namespace A
theorem lsdb_Check_v {db : List Lsa} (hl : db.length < 9223372036854775807 := by omega) : Triple Try.prog 137 [.sl 3 (db.map lsaC)] [] (Is (.v (.int .i64 (if lsdbB 0 db then 0 else 1))) []) := lsdb_Check db hl
theorem graph_Arcs_s {db : List Lsa} (hl : db.length < 9223372036854775807 := by omega) : Triple Try.prog 114 [.sl 3 (db.map lsaC)] [] (Is (.sl 3 ((arcsDb db).map arcC)) []) :=
  ((graph_Arcs db hl).mono (Q' := Own 36 3 ((arcsDb db).map arcC) []) fun q h' ⟨g, c, hq, hh⟩ => ⟨g, c, by rw [List.length_map]; exact hq, hh⟩).settle
theorem ref24_Arcs_s {db : List Lsa} (hl : db.length ≤ 70) (hm : ∀ x ∈ db, x.ls.length ≤ 40) : Triple Try.prog 58 [.sl 3 (db.map lsaC)] [] (Is (.sl 3 ((refAll db).map arcC)) []) :=
  ((ref24_Arcs db hl hm).mono (Q' := Own 36 3 ((refAll db).map arcC) []) fun q h' ⟨g, c, hq, hh⟩ => ⟨g, c, by rw [List.length_map]; exact hq, hh⟩).settle
theorem law19_Light_v {db : List Lsa} : Triple Try.prog 136 [.sl 3 (db.map lsaC)] [] (Is (.v (.bool (lightB db))) []) := law19_Light db
theorem ref19_May_v {db : List Lsa} (hl : db.length ≤ 4000) (hm : ∀ x ∈ db, x.ls.length ≤ 4000) : Triple Try.prog 55 [.sl 3 (db.map lsaC)] [] (Is (.v (.bool (lsdbB 0 db))) []) := ref19_May db hl hm
theorem dbArcs_len {db : List Lsa} (h : lsdbB 0 db = true) : (arcsDb db).length ≤ 4000 := arcs_len (by have := lsdb_len64 h; omega) (fun x hx => by have := lsa_links (lsdb_mem h x hx); omega)
theorem dbArcs_ok {db : List Lsa} (h : lsdbB 0 db = true) : arcsB none (arcsDb db) = true := by rw [arcsDb, if_pos h]; exact arcsAll_ok h
theorem dbArcs_ref {db : List Lsa} (h : lsdbB 0 db = true) : refAll db = arcsDb db := by rw [arcsDb, if_pos h]; exact (arcsAll_ref h).symm
def rtsDb (db : List Lsa) (me : Int) : List Rt := if lsdbB 0 db then rtsM (arcsDb db) me else []
theorem rtsDb_len (db : List Lsa) (me : Int) : (rtsDb db me).length ≤ 65 := by
  unfold rtsDb
  split
  · exact rtsM_len _ _
  · simp
/- route.Of -/
set_option maxRecDepth 100000 in
set_option maxHeartbeats 400000 in
theorem route_Of {db : List Lsa} {me : Int} (hdl : db.length < 9223372036854775807 := by omega) : Triple Try.prog 53 [.sl 3 (db.map lsaC), .int me] [] (Is (.sl 3 ((rtsDb db me).map rtC)) []) := by
  refine triple_of Try.func53 rfl (by kernel_rfl) rfl (by simp) ?_
  refine aSeq ?_
  refine aReg ?_
  refine sp pMa ?_
  refine oNil ?_
  refine aSeq ?_
  refine aSeq ?_
  refine aReg ?_
  refine sp pM ?_
  refine sq ?_
  refine cv rfl rfl rfl (lents_refl _) (lsdb_Check_v (db := db) hdl) ?_
  refine sp pB ?_
  refine oNil ?_
  refine aCondNe rfl (fun c7 => ?_) (fun c7 => ?_)
  · skip
    refine aSeq ?_
    have hno : lsdbB 0 db = false := by cases h : lsdbB 0 db <;> simp_all
    have hr : rtsDb db me = [] := by unfold rtsDb; rw [hno]; rfl
    refine aWeak (weak_nil 49 3) ?_
    refine aReg ?_
    refine sp pMa ?_
    refine oNil ?_
    refine aWeak (weak_settle (k := 4) rfl .hd rfl) ?_
    refine aRet ?_
    refine finIs rfl ?_
    rw [hr]
    rfl
  · skip
    refine aSkip ?_
    refine aSeq ?_
    have hyes : lsdbB 0 db = true := by cases h : lsdbB 0 db <;> simp_all
    have hal := dbArcs_len hyes
    refine aReg ?_
    refine sp pM ?_
    refine sq ?_
    refine ci rfl rfl rfl (graph_Arcs_s (db := db) hdl) ?_
    refine sp pM ?_
    refine sq ?_
    refine ci rfl rfl rfl (spf_Routes_s (l := arcsDb db) (r := me) (by omega)) ?_
    refine sp pMa ?_
    refine oNil ?_
    refine aRet ?_
    refine finIs rfl ?_
    unfold rtsDb
    rw [hyes]
    rfl
/- api.Route] -/
set_option maxRecDepth 100000 in
set_option maxHeartbeats 400000 in
theorem index_Route {f : FuncId} {caps : List AV} {p : Rt → Bool} (hf : ∀ x : Rt, Triple Try.prog f ([AV.agg (rtC x)] ++ caps) [] (Is (.v (.bool (p x))) [])) (l : List Rt) (hl : l.length ≤ 1000000) : Triple Try.prog 138 [.sl 3 (l.map rtC), .fn (.func f) caps] [] (Is (.v (.int .i64 (idxF p l))) []) := by
  refine triple_of Try.func138 rfl (by kernel_rfl) rfl (by simp) ?_
  refine aSeq ?_
  refine aReg ?_
  refine sp pMa ?_
  refine oNil ?_
  refine aSeq ?_
  refine aSeq ?_
  refine aReg ?_
  refine sp pM ?_
  refine sp (by first | exact pLm sl_41 | exact pLs sl_41) ?_
  refine sp pM ?_
  refine oNil ?_
  refine aBlock ?_
  refine loopF (α := Nat) (kept := [(0, _), (1, _), (7, _)]) (fun i => i ≤ l.length ∧ ∀ y ∈ l.take i, p y = false) (fun i => [(8, .int i)]) (fun i => []) (fun i => l.length - i) 0 ?_ ⟨gInt rfl (by first | rfl | omega | simp), rfl, rfl, rfl, trivial⟩ (by repeat constructor) ?_
  · skip
    exact ⟨by omega, fun y hy => by simp at hy⟩
  · rintro i ⟨hi, hv⟩
    refine aSeq ?_
    refine aReg ?_
    refine sp pB ?_
    refine oNil ?_
    refine aSeq ?_
    refine aCondDec rfl (fun c9 => ?_) (fun c9 => ?_)
    · skip
      refine aSkip ?_
      refine aSeq ?_
      refine aBlock ?_
      refine aSeq ?_
      refine aReg ?_
      refine sp pM ?_
      refine sp pMa ?_
      refine oNil ?_
      refine aSeq ?_
      obtain ⟨x, hx⟩ : ∃ x, l[i]? = some x := ⟨_, List.getElem?_eq_getElem (by omega)⟩
      refine aReg ?_
      refine sp pM ?_
      refine sp pM ?_
      refine sp pM ?_
      first | refine sp (pIx es_41) ?_ | (refine obtSN 12 13 rfl rfl (by omega) (fun x14 hx14 => ?_); refine sp (pIs es_41 hx14) ?_) | (refine obtS 12 13 rfl rfl (by omega) (by omega) (fun x14 hx14 => ?_); refine sp (pIs es_41 hx14) ?_) | refine sp (pIo es_41) ?_
      refine sr (by first | exact rSW ty_49 rfl | exact rSA ty_49) ?_
      refine sq ?_
      refine cv rfl rfl rfl (lents_refl _) (hf x) ?_
      refine oNil ?_
      refine aCond rfl (fun c16 => ?_) (fun c16 => ?_)
      · skip
        refine aSeq ?_
        refine aReg ?_
        refine sp pM ?_
        refine sp pMa ?_
        refine oNil ?_
        refine aRet ?_
        refine finIs rfl ?_
        show AV.int _ = AV.int _
        rw [(idxF_at hv hx (by simp_all)).1]
      · skip
        refine aSkip ?_
        refine aReg ?_
        refine sp pAd ?_
        refine sp pM ?_
        refine oNil ?_
        refine ⟨i + 1, ?_, by (try dsimp only); omega, ⟨gInt rfl (by first | rfl | omega | simp), rfl, rfl, rfl, trivial⟩, _, (by repeat constructor)⟩
        refine ⟨by omega, fun y hy => ?_⟩
        rw [take_step hx] at hy
        rcases List.mem_append.1 hy with hy | hy
        · exact hv y hy
        · rw [List.mem_singleton.1 hy]; simp_all
    · skip
      refine aExit rfl ?_
      refine aSeq ?_
      refine aReg ?_
      refine sp pMa ?_
      refine oNil ?_
      refine aRet ?_
      refine finIs rfl ?_
      show AV.int _ = AV.int _
      rw [take_all (by omega)] at hv
      rw [(idxF_no hv).1]
/- route.Find$1 -/
set_option maxRecDepth 100000 in
set_option maxHeartbeats 400000 in
theorem route_Find1 {x : Rt} {n : Int} : Triple Try.prog 139 [.agg (rtC x), .sp [.int n]] [] (Is (.v (.bool (x.nd == n))) []) := by
  refine triple_of Try.func139 rfl (by kernel_rfl) rfl (by simp) ?_
  refine aSeq ?_
  refine aReg ?_
  refine sq ?_
  refine qBox rfl rfl (by decide) rfl rfl (fun b2 => ?_)
  refine sp pMa ?_
  refine oNil ?_
  refine aSeq ?_
  refine aReg ?_
  refine sp (pFb fd_49_0) ?_
  refine sr (rB1 ty_3) ?_
  refine sr (rS1 ty_3) ?_
  refine sp pB ?_
  refine sp pMa ?_
  refine oNil ?_
  refine aRet ?_
  refine finIs rfl ?_
  rfl
def findR (rs : List Rt) (n : Int) : Option Rt := rs.find? fun x => x.nd == n
def findG (rs : List Rt) (n : Int) : Rt := (findR rs n).getD ⟨0, 0, 0⟩
def findT2 (rs : List Rt) (n : Int) : AV := .tup [.agg (rtC (findG rs n)), .v (.bool (findR rs n).isSome)]
theorem findR_none {rs : List Rt} {n : Int} (h : findR rs n = none) : ∀ x ∈ rs, x.nd ≠ n := fun x hx => by
  have := List.find?_eq_none.1 h x hx
  simpa using this
theorem findR_some {rs : List Rt} {n : Int} {x : Rt} (h : findR rs n = some x) : x ∈ rs ∧ x.nd = n := ⟨List.mem_of_find?_eq_some h, by simpa using List.find?_some h⟩
/- route.Find -/
set_option maxRecDepth 100000 in
set_option maxHeartbeats 400000 in
theorem route_Find {rs : List Rt} {n : Int} (hl : rs.length ≤ 1000000) : Triple Try.prog 54 [.sl 3 (rs.map rtC), .int n] [] (Is (findT2 rs n) []) := by
  refine triple_ofR Try.func54 rfl (by kernel_rfl) rfl (by simp) ?_
  refine aSeq ?_
  refine aReg ?_
  refine sq ?_
  refine qBox rfl rfl (by decide) rfl rfl (fun b3 => ?_)
  refine sq ?_
  refine qAlloc rfl rfl (by decide) ze_49 rfl (fun b4 => ?_)
  refine sp pMa ?_
  refine oNil ?_
  refine aSeq ?_
  refine aReg ?_
  refine sp pM ?_
  refine sp (pFn rfl rfl) ?_
  refine sq ?_
  refine cv rfl rfl rfl (.cons (.same _) (.cons (lent_fn1 (.sp (by repeat (first | exact List.mem_cons_self | apply List.mem_cons_of_mem)))) .nil)) (index_Route (p := fun x => x.nd == n) (fun x => route_Find1) rs hl) ?_
  refine sp pMa ?_
  refine oNil ?_
  refine aSeq ?_
  refine aSeq ?_
  refine aReg ?_
  refine sp pM ?_
  refine sp pB ?_
  refine oNil ?_
  refine aCondDec rfl (fun c11 => ?_) (fun c11 => ?_)
  · skip
    refine aSeq ?_
    refine aReg ?_
    refine sp (pBuild rfl st_49 ze_49 rfl rfl rfl rfl) ?_
    refine sa ?_
    refine oStW rfl rfl rfl rfl (by repeat constructor) ty_49 ?_
    refine sp pMa ?_
    refine oNil ?_
    refine aRet ?_
    refine finRIs (l := [.agg (rtC ⟨0, 0, 0⟩), .v (.bool false)]) (.cons (.cellA rfl (by repeat (first | exact List.mem_cons_self | apply List.mem_cons_of_mem)) ty_49) (.cons (.tmp rfl) .nil)) ?_
    have h2 : rs.find? (fun x : Rt => x.nd == n) = none := by
      rcases idxF_cases (fun x : Rt => x.nd == n) rs with ⟨h1, h2⟩ | ⟨i, x, h1, h2, h3⟩
      · exact h2
      · omega
    simp [findT2, findG, findR, h2, retOf]
  · skip
    refine aSkip ?_
    refine aSeq ?_
    obtain ⟨i, x, h1, h2, h3⟩ : ∃ i x, idxF (fun x : Rt => x.nd == n) rs = (i : Nat) ∧ rs[i]? = some x ∧ rs.find? (fun x : Rt => x.nd == n) = some x := by
      rcases idxF_cases (fun x : Rt => x.nd == n) rs with ⟨h1, h2⟩ | h
      · omega
      · exact h
    rw [h1] at *
    refine aReg ?_
    refine sp pM ?_
    refine sp pM ?_
    first | refine sp (pIx es_41) ?_ | (refine obtSN 13 14 rfl rfl (by omega) (fun x15 hx15 => ?_); refine sp (pIs es_41 hx15) ?_) | (refine obtS 13 14 rfl rfl (by omega) (by omega) (fun x15 hx15 => ?_); refine sp (pIs es_41 hx15) ?_) | refine sp (pIo es_41) ?_
    refine sr (by first | exact rSW ty_49 rfl | exact rSA ty_49) ?_
    refine sa ?_
    refine oStW rfl rfl rfl rfl (by repeat constructor) ty_49 ?_
    refine sp pMa ?_
    refine oNil ?_
    refine aRet ?_
    refine finRIs (l := [.agg (rtC x), .v (.bool true)]) (.cons (.cellA rfl (by repeat (first | exact List.mem_cons_self | apply List.mem_cons_of_mem)) ty_49) (.cons (.tmp rfl) .nil)) ?_
    simp [findT2, findG, findR, h3, retOf]
/- waymarkref26.Find -/
set_option maxRecDepth 100000 in
set_option maxHeartbeats 400000 in
theorem ref26_Find {rs : List Rt} {n : Int} (hl : rs.length ≤ 1000000) : Triple Try.prog 57 [.sl 3 (rs.map rtC), .int n] [] (Is (.agg (rtC (findG rs n))) []) := by
  refine triple_ofR Try.func57 rfl (by kernel_rfl) rfl (by simp) ?_
  refine aSeq ?_
  refine aReg ?_
  refine sq ?_
  refine qAlloc rfl rfl (by decide) ze_49 rfl (fun b4 => ?_)
  refine oNil ?_
  refine aSeq ?_
  refine aSeq ?_
  refine aReg ?_
  refine sp pMa ?_
  refine oNil ?_
  refine aBlock ?_
  refine loopF (α := Nat) (kept := [(0, _), (1, _), (4, _)]) (fun i => i ≤ rs.length ∧ ∀ y ∈ rs.take i, (y.nd == n) = false) (fun i => [(5, .int i)]) (fun i => []) (fun i => rs.length - i) 0 ?_ ⟨gInt rfl (by first | rfl | omega | simp), rfl, rfl, rfl, trivial⟩ (by repeat constructor) ?_
  · skip
    exact ⟨by omega, fun y hy => by simp at hy⟩
  · rintro i ⟨hi, hv⟩
    refine aSeq ?_
    refine aSeq ?_
    refine aReg ?_
    refine sp pM ?_
    refine sp pM ?_
    refine sp (by first | exact pLm sl_41 | exact pLs sl_41) ?_
    refine sp pB ?_
    refine oNil ?_
    refine aCondDec rfl (fun c9 => ?_) (fun c9 => ?_)
    · skip
      refine aSkip ?_
      refine aSeq ?_
      refine aBlock ?_
      refine aSeq ?_
      obtain ⟨r, hr⟩ : ∃ r, rs[i]? = some r := ⟨_, List.getElem?_eq_getElem (by omega)⟩
      refine aReg ?_
      refine sp pM ?_
      refine sp pM ?_
      first | refine sp (pIx es_41) ?_ | (refine obtSN 12 13 rfl rfl (by omega) (fun x14 hx14 => ?_); refine sp (pIs es_41 hx14) ?_) | (refine obtS 12 13 rfl rfl (by omega) (by omega) (fun x14 hx14 => ?_); refine sp (pIs es_41 hx14) ?_) | refine sp (pIo es_41) ?_
      refine sp (pFs fd_49_0) ?_
      refine sr (rS1 ty_3) ?_
      refine sp pM ?_
      refine sp pB ?_
      refine oNil ?_
      refine aCondEq rfl (fun c18 => ?_) (fun c18 => ?_)
      · skip
        refine aSeq ?_
        refine aReg ?_
        refine sp pM ?_
        refine sp pM ?_
        first | refine sp (pIx es_41) ?_ | (refine obtSN 19 20 rfl rfl (by omega) (fun x21 hx21 => ?_); refine sp (pIs es_41 hx21) ?_) | (refine obtS 19 20 rfl rfl (by omega) (by omega) (fun x21 hx21 => ?_); refine sp (pIs es_41 hx21) ?_) | refine sp (pIo es_41) ?_
        refine sr (by first | exact rSW ty_49 rfl | exact rSA ty_49) ?_
        refine sa ?_
        refine oStW rfl rfl rfl rfl (by repeat constructor) ty_49 ?_
        refine oNil ?_
        refine aRet ?_
        refine finRIs (l := [.agg (rtC r)]) (.cons (.cellA rfl (by repeat (first | exact List.mem_cons_self | apply List.mem_cons_of_mem)) ty_49) .nil) ?_
        have := (idxF_at (p := fun y : Rt => y.nd == n) hv hr (by simp_all)).2
        simp [findG, findR, this, retOf]
      · skip
        refine aSkip ?_
        refine aReg ?_
        refine sp pM ?_
        refine sp pAd ?_
        refine sp pMa ?_
        refine oNil ?_
        refine ⟨i + 1, ?_, by (try dsimp only); omega, ⟨gInt rfl (by first | rfl | omega | simp), rfl, rfl, rfl, trivial⟩, _, (by repeat constructor)⟩
        refine ⟨by omega, fun y hy => ?_⟩
        rw [take_step hr] at hy
        rcases List.mem_append.1 hy with hy | hy
        · exact hv y hy
        · rw [List.mem_singleton.1 hy]; simp_all
    · skip
      refine aExit rfl ?_
      refine aSeq ?_
      refine aReg ?_
      refine sp (pBuild rfl st_49 ze_49 rfl rfl rfl rfl) ?_
      refine sa ?_
      refine oStW rfl rfl rfl rfl (by repeat constructor) ty_49 ?_
      refine oNil ?_
      refine aRet ?_
      refine finRIs (l := [.agg (rtC ⟨0, 0, 0⟩)]) (.cons (.cellA rfl (by repeat (first | exact List.mem_cons_self | apply List.mem_cons_of_mem)) ty_49) .nil) ?_
      rw [take_all (by omega)] at hv
      have := (idxF_no (p := fun y : Rt => y.nd == n) hv).2
      simp [findG, findR, this, retOf]
/- waymarkref26.Of -/
set_option maxRecDepth 100000 in
set_option maxHeartbeats 400000 in
theorem ref26_Of {db : List Lsa} {me : Int} (hv : lsdbB 0 db = true) : Triple Try.prog 56 [.sl 3 (db.map lsaC), .int me] [] (Own 49 3 ((rtsDb db me).map rtC) []) := by
  have h64 := lsdb_len64 hv
  have hal := dbArcs_len hv
  have hre : rtsDb db me = routesM (arcsDb db) me := by unfold rtsDb rtsM; rw [if_pos hv, if_pos (dbArcs_ok hv)]
  refine triple_of Try.func56 rfl (by kernel_rfl) rfl (by simp) ?_
  refine aSeq ?_
  refine aReg ?_
  refine sp pMa ?_
  refine oNil ?_
  refine aSeq ?_
  refine aReg ?_
  refine sp pM ?_
  refine sq ?_
  refine ci rfl rfl rfl (ref24_Arcs_s (db := db) (by omega) (fun x hx => by have := lsa_links (lsdb_mem hv x hx); omega)) ?_
  rw [dbArcs_ref hv]
  refine sp pM ?_
  refine sa ?_
  first | refine coM rfl rfl rfl (ref25_Routes (l := arcsDb db) (r := me) (by omega) (arcs_ok (dbArcs_ok hv))) (fun g8 k8 => ?_) | refine co rfl rfl rfl (ref25_Routes (l := arcsDb db) (r := me) (by omega) (arcs_ok (dbArcs_ok hv))) (fun g8 k8 => ?_)
  refine sp pMa ?_
  refine oNil ?_
  refine aRet ?_
  refine finOwn rfl ?_
  rw [hre]
theorem ref26_Of_s {db : List Lsa} {me : Int} (hv : lsdbB 0 db = true) : Triple Try.prog 56 [.sl 3 (db.map lsaC), .int me] [] (Is (.sl 3 ((rtsDb db me).map rtC)) []) := (ref26_Of (db := db) (me := me) hv).settle
end A
end Go.Proofs.Ytmcannmjielalaa
set_option linter.unusedVariables false
set_option linter.unusedSimpArgs false
namespace Go.Proofs.Ytmcannmjielalaa
namespace A
theorem hopsF_zero {l : List Arc} {td : Int} : ∀ (k : Nat) (v : Int), (hopsF l td k v)[0]? = some v
  | 0, v => rfl
  | k + 1, v => by
    unfold hopsF
    split <;> rfl
theorem hopsF_next {l : List Arc} {td : Int} : ∀ (k : Nat) (v : Int) (i : Nat) (x : Int), (hopsF l td k v)[i]? = some x → x ≠ td → i < k → (hopsF l td k v)[i + 1]? = some (viaM l x td)
  | 0, _, _, _, _, _, h => by omega
  | k + 1, v, i, x, hx, hne, hi => by
    unfold hopsF at hx ⊢
    by_cases e : v = td
    · rw [if_pos e] at hx
      cases i with
      | zero => simp at hx; exact absurd (hx.symm.trans e) hne
      | succ i => simp at hx
    · rw [if_neg e] at hx ⊢
      cases i with
      | zero =>
        simp at hx
        subst hx
        simpa using hopsF_zero k (viaM l v td)
      | succ i => simpa using hopsF_next k (viaM l v td) i x (by simpa using hx) hne (by omega)
theorem HWay.isF {l : List Arc} (hl : ∀ a ∈ l, AOk a) {td v : Int} {p : List Int} (ht : 1 ≤ td ∧ td ≤ 64) (h : HWay l td v p) : ∀ u ∈ p, A.isF l u td = true := by
  induction h with
  | here => intro u hu; rw [List.mem_singleton.1 hu]; exact (dF_root hl ht.1 ht.2).1
  | @hop v a p ha hf hne hi hd hp ih =>
    intro u hu
    rcases List.mem_cons.1 hu with rfl | hu
    · exact hi
    · exact ih u hu
theorem HWay.atEnd {l : List Arc} (hl : ∀ a ∈ l, AOk a) {td v : Int} {p : List Int} (h : HWay l td v p) {i : Nat} (hi : p[i]? = some td) : i + 1 = p.length := by
  have h1 := (h.lt hl).2
  have h2 := h.ends.2
  have hil := (List.getElem?_eq_some_iff.1 hi).1
  rw [List.getLast?_eq_getElem?] at h2
  apply Classical.byContradiction
  intro hne
  obtain ⟨_, e1⟩ := List.getElem?_eq_some_iff.1 hi
  obtain ⟨_, e2⟩ := List.getElem?_eq_some_iff.1 h2
  have := List.pairwise_iff_getElem.1 h1 i (p.length - 1) hil (by omega) (by omega)
  rw [e1, e2] at this
  omega
theorem rts_find {l : List Arc} (hok : arcsB none l = true) {c td : Int} (hne : c ≠ td) : findR (rtsM l c) td = if isF l c td then some ⟨td, viaM l c td, dF l c td⟩ else none := by
  cases hf : findR (rtsM l c) td with
  | none =>
    have := findR_none hf
    cases hi : isF l c td with
    | false => rfl
    | true => exact absurd rfl (this _ (rtsM_of hok (fun e => hne e.symm) hi))
  | some x =>
    obtain ⟨h1, h2⟩ := findR_some hf
    obtain ⟨_, _, h3, h4⟩ := rtsM_mem h1
    rw [h2] at h3 h4
    rw [h3, h4]
    rfl
def hopB (db : List Lsa) (fr td : Int) : Bool := lsdbB 0 db && (nodeB fr && nodeB td) && isF (arcsDb db) fr td
def hopL (db : List Lsa) (fr td : Int) : List Int := if hopB db fr td then hopsF (arcsDb db) td 64 fr else []
theorem hopB_way {db : List Lsa} {fr td : Int} (h : hopB db fr td = true) : HWay (arcsDb db) td fr (hopL db fr td) ∧ arcsB none (arcsDb db) = true ∧ isF (arcsDb db) fr td = true := by
  unfold hopL
  rw [if_pos h]
  unfold hopB at h
  simp only [Bool.and_eq_true] at h
  have hok := dbArcs_ok h.1.1
  exact ⟨hops_way (arcs_ok hok) (arcsB_sorted hok) h.2, hok, h.2⟩
theorem hopL_len (db : List Lsa) (fr td : Int) : (hopL db fr td).length ≤ 64 := by
  cases h : hopB db fr td with
  | false => unfold hopL; rw [h]; simp
  | true =>
    obtain ⟨h1, h2, h3⟩ := hopB_way h
    have := isF_range (arcs_ok h2) h3
    exact h1.len (arcs_ok h2) ⟨this.2.2.1, this.2.2.2⟩
/- route.node -/
set_option maxRecDepth 100000 in
set_option maxHeartbeats 400000 in
theorem route_node {n : Int} : Triple Try.prog 143 [.int n] [] (Is (.v (.bool (nodeB n))) []) := by
  refine triple_of Try.func143 rfl (by kernel_rfl) rfl (by simp) ?_
  refine aSeq ?_
  refine aReg ?_
  refine sp pMa ?_
  refine oNil ?_
  refine aSeq ?_
  refine aReg ?_
  refine sp pM ?_
  refine sp pB ?_
  refine sp pM ?_
  refine oSplitDec 5 rfl (fun c5 => ?_) (fun c5 => ?_)
  · skip
    refine gp pM ?_
    refine gp pB ?_
    refine sp pK ?_
    refine sp pMa ?_
    refine oNil ?_
    refine aRet ?_
    refine finIs rfl ?_
    simp [retOf, nodeB]
    omega
  · skip
    refine gf ?_
    refine gf ?_
    refine sp pK ?_
    refine sp pMa ?_
    refine oNil ?_
    refine aRet ?_
    refine finIs rfl ?_
    simp [retOf, nodeB]
    omega
/- route.Hops -/
set_option maxRecDepth 100000 in
set_option maxHeartbeats 4000000 in
theorem route_Hops {db : List Lsa} {fr td : Int} (hdl : db.length < 9223372036854775807 := by omega) : Triple Try.prog 59 [.sl 3 (db.map lsaC), .int fr, .int td] [] (fun q h' => ∃ g c, q = .tup [.v (slV g (hopL db fr td).length c), .v (.bool (hopB db fr td))] ∧ h' = [.sl g c 3 1 ((hopL db fr td).map intA)]) := by
  refine triple_of Try.func59 rfl (by kernel_rfl) rfl (by simp) ?_
  refine aSeq ?_
  refine aReg ?_
  refine sp pMa ?_
  refine sp pMa ?_
  refine oNil ?_
  refine aSeq ?_
  refine aSeq ?_
  refine aReg ?_
  refine sp pM ?_
  refine sq ?_
  refine cv rfl rfl rfl (lents_refl _) (lsdb_Check_v (db := db) hdl) ?_
  refine sp pB ?_
  refine sp pM ?_
  refine oSplitNe 15 rfl (fun c15 => ?_) (fun c15 => ?_)
  · skip
    refine gf ?_
    refine gf ?_
    refine gf ?_
    refine sp pK ?_
    refine sp pM ?_
    refine gf ?_
    refine gf ?_
    refine gf ?_
    refine sp pK ?_
    refine oNil ?_
    refine aCondT rfl ?_
    refine aSeq ?_
    have hno : hopB db fr td = false := by
      cases h : lsdbB 0 db <;> simp_all [hopB]
    have hnl : hopL db fr td = [] := by unfold hopL; rw [hno]; rfl
    refine aWeak (weak_nil 3 1) ?_
    refine aReg ?_
    refine sp pMa ?_
    refine sp pMa ?_
    refine oNil ?_
    refine aRet ?_
    exact ⟨_, [_], _, rfl, (by repeat constructor), none, 0, by rw [hno, hnl]; rfl, by rw [hnl]; rfl⟩
  · skip
    refine gp pM ?_
    refine ga ?_
    refine (cv rfl rfl rfl (lents_refl _) route_node ?_).op
    refine gp pNo ?_
    refine sp pK ?_
    refine sp pM ?_
    refine oSplitNot 20 rfl (fun c20 => ?_) (fun c20 => ?_)
    · skip
      refine gf ?_
      refine gf ?_
      refine gf ?_
      refine sp pK ?_
      refine oNil ?_
      refine aCondT rfl ?_
      refine aSeq ?_
      have hno : hopB db fr td = false := by
        cases h : lsdbB 0 db <;> simp_all [hopB]
      have hnl : hopL db fr td = [] := by unfold hopL; rw [hno]; rfl
      refine aWeak (weak_nil 3 1) ?_
      refine aReg ?_
      refine sp pMa ?_
      refine sp pMa ?_
      refine oNil ?_
      refine aRet ?_
      exact ⟨_, [_], _, rfl, (by repeat constructor), none, 0, by rw [hno, hnl]; rfl, by rw [hnl]; rfl⟩
    · skip
      refine gp pM ?_
      refine ga ?_
      refine (cv rfl rfl rfl (lents_refl _) route_node ?_).op
      refine gp pNo ?_
      refine sp pK ?_
      refine oNil ?_
      refine aCondNot rfl (fun c24 => ?_) (fun c24 => ?_)
      · skip
        refine aSeq ?_
        have hno : hopB db fr td = false := by
          cases h : lsdbB 0 db <;> simp_all [hopB]
        have hnl : hopL db fr td = [] := by unfold hopL; rw [hno]; rfl
        refine aWeak (weak_nil 3 1) ?_
        refine aReg ?_
        refine sp pMa ?_
        refine sp pMa ?_
        refine oNil ?_
        refine aRet ?_
        exact ⟨_, [_], _, rfl, (by repeat constructor), none, 0, by rw [hno, hnl]; rfl, by rw [hnl]; rfl⟩
      · skip
        refine aSkip ?_
        refine aSeq ?_
        have hyes : lsdbB 0 db = true := by cases h : lsdbB 0 db <;> simp_all
        have hn1 : nodeB fr = true := by cases h : nodeB fr <;> simp_all
        have hn2 : nodeB td = true := by cases h : nodeB td <;> simp_all
        have hal := dbArcs_len hyes
        have hok := dbArcs_ok hyes
        have hbe : hopB db fr td = isF (arcsDb db) fr td := by unfold hopB; rw [hyes, hn1, hn2]; rfl
        have hr1 : 1 ≤ fr ∧ fr ≤ 64 ∧ 1 ≤ td ∧ td ≤ 64 := by simp [nodeB] at hn1 hn2; omega
        refine aReg ?_
        refine sp pM ?_
        refine sq ?_
        refine ci rfl rfl rfl (graph_Arcs_s (db := db) hdl) ?_
        refine sp pMa ?_
        refine oNil ?_
        refine aSeq ?_
        refine aReg ?_
        refine sp pM ?_
        refine sq ?_
        refine qLit (l := [_]) rfl rfl (by decide) us_25 ty_3 ze_3 rfl (by decide) (by decide) rfl rfl rfl (fun b28 => ?_)
        refine sp pMa ?_
        refine oNil ?_
        refine aSeq ?_
        refine aBlock ?_
        refine loopF (α := Nat × Int × List Int × Option Nat × Nat) (kept := [(2, _), (8, _)]) (fun (i, cur, L, g, c) => (isF (arcsDb db) fr td = true → L = (hopsF (arcsDb db) td 64 fr).take (i + 1) ∧ (hopsF (arcsDb db) td 64 fr)[i]? = some cur ∧ isF (arcsDb db) cur td = true) ∧ (isF (arcsDb db) fr td = false → L = [fr] ∧ cur = fr) ∧ i ≤ 64) (fun (i, cur, L, g, c) => [(1, .int cur), (9, .v (slV g L.length c))]) (fun (i, cur, L, g, c) => [.sl g c 3 1 (L.map intA)]) (fun (i, cur, L, g, c) => 65 - i) (0, fr, [fr], _, _) ?_ ⟨gInt rfl (by first | rfl | omega | simp), gLen rfl (by first | rfl | simp | (simp; omega)), rfl, rfl, trivial⟩ (by repeat constructor) ?_
        · skip
          exact ⟨fun h => ⟨by rw [take_step (hopsF_zero 64 fr)]; rfl, hopsF_zero 64 fr, h⟩, fun _ => ⟨rfl, rfl⟩, by omega⟩
        · rintro ⟨i, cur, L, g, c⟩ ⟨hT, hF, hi⟩
          refine aSeq ?_
          refine aSeq ?_
          refine aReg ?_
          refine sp pM ?_
          refine sp pM ?_
          refine sp pB ?_
          refine sp pM ?_
          refine oSplitNe 32 rfl (fun c32 => ?_) (fun c32 => ?_)
          · skip
            refine gp pM ?_
            refine gp (by first | exact pLm sl_25 | exact pLs sl_25 | exact pLv sl_25) ?_
            refine gp pB ?_
            refine sp pK ?_
            refine oNil ?_
            refine aCondDec rfl (fun c36 => ?_) (fun c36 => ?_)
            · skip
              refine aSkip ?_
              refine aBlock ?_
              refine aSeq ?_
              have hne : cur ≠ td := by assumption
              have hfi := rts_find hok hne
              refine aReg ?_
              refine sp pM ?_
              refine sp pM ?_
              refine sq ?_
              refine ci rfl rfl rfl (spf_Routes_s (l := arcsDb db) (r := cur) (by omega)) ?_
              refine sp pM ?_
              refine sq ?_
              refine ci rfl rfl rfl (route_Find (rs := rtsM (arcsDb db) cur) (n := td) (by have := rtsM_len (arcsDb db) cur; omega)) ?_
              unfold findT2
              refine sp pM ?_
              refine sp pX ?_
              refine sp pX ?_
              refine sq ?_
              refine qAlloc rfl rfl (by decide) ze_49 rfl (fun b10 => ?_)
              refine sa ?_
              refine oStW rfl rfl rfl rfl (by repeat constructor) ty_49 ?_
              refine sp pMa ?_
              refine oNil ?_
              refine aSeq ?_
              refine aSeq ?_
              refine aReg ?_
              refine sp pM ?_
              refine sp pNo ?_
              refine oNil ?_
              refine aCondNot rfl (fun c46 => ?_) (fun c46 => ?_)
              · skip
                refine aSeq ?_
                refine aReg ?_
                refine sp pMa ?_
                refine sp pMa ?_
                refine oNil ?_
                refine aWeak (weak_nil 3 1) ?_
                refine aRet ?_
                have hno : hopB db fr td = false := by
                  rw [hbe]
                  cases h : isF (arcsDb db) fr td with
                  | false => rfl
                  | true =>
                    obtain ⟨h1, h2, h3⟩ := hT h
                    rw [if_pos h3] at hfi
                    rw [hfi] at *
                    simp_all
                have hnl : hopL db fr td = [] := by unfold hopL; rw [hno]; rfl
                exact ⟨_, [_], _, rfl, (by repeat constructor), none, 0, by rw [hno, hnl]; rfl, by rw [hnl]; rfl⟩
              · skip
                refine aSkip ?_
                refine aSeq ?_
                refine aReg ?_
                refine sp (pFb fd_49_1) ?_
                refine sr (rB1 ty_3) ?_
                refine sp pMa ?_
                refine oNil ?_
                have hil : L.length ≤ 64 := by omega
                refine aReg ?_
                refine sp pM ?_
                refine sp pM ?_
                refine sq ?_
                refine qLit (l := [_]) rfl rfl (by decide) us_25 ty_3 ze_3 rfl (by decide) (by decide) rfl rfl rfl (fun b51 => ?_)
                refine sa ?_
                refine oAppT ([_] : List Int) rfl rfl (by repeat constructor) (srcOwn rfl (by repeat constructor) rfl) el_25 sl_25 (fun g52 k52 => ?_)
                refine sp pMa ?_
                refine oNil ?_
                have hft : isF (arcsDb db) fr td = true := by
                  cases h : isF (arcsDb db) fr td with
                  | true => rfl
                  | false =>
                    obtain ⟨_, e⟩ := hF h
                    have c9 := c46
                    rw [hfi, e, h] at c9
                    simp at c9
                obtain ⟨h1, h2, h3⟩ := hT hft
                rw [if_pos h3] at hfi
                have hw := hops_way (arcs_ok hok) (arcsB_sorted hok) hft
                have hwl := hw.len (arcs_ok hok) ⟨hr1.2.2.1, hr1.2.2.2⟩
                have hil2 := (List.getElem?_eq_some_iff.1 h2).1
                have hnx := hopsF_next 64 fr i cur h2 hne (by omega)
                have hil3 := (List.getElem?_eq_some_iff.1 hnx).1
                have hvia : (findG (rtsM (arcsDb db) cur) td).via = viaM (arcsDb db) cur td := by unfold findG; rw [hfi]; rfl
                refine ⟨(i + 1, (findG (rtsM (arcsDb db) cur) td).via, L ++ [(findG (rtsM (arcsDb db) cur) td).via], _, _), ⟨fun _ => ⟨?_, ?_, ?_⟩, fun h => ?_, by omega⟩, by (try dsimp only); omega, ⟨rfl, rfl, rfl, rfl, trivial⟩, _, (by repeat constructor)⟩
                · rw [hvia, h1, take_step hnx]
                · rw [hvia]; exact hnx
                · rw [hvia]; exact hw.isF (arcs_ok hok) ⟨hr1.2.2.1, hr1.2.2.2⟩ _ (List.mem_of_getElem? hnx)
                · rw [hft] at h; cases h
            · skip
              refine aExit rfl ?_
              refine aSeq ?_
              refine aReg ?_
              refine sp pM ?_
              refine sp pMa ?_
              refine sp pMa ?_
              refine oNil ?_
              refine aRet ?_
              have hft : isF (arcsDb db) fr td = true := by
                cases h : isF (arcsDb db) fr td with
                | true => rfl
                | false =>
                  obtain ⟨rfl, rfl⟩ := hF h
                  exfalso
                  have hs := dF_root (arcs_ok hok) hr1.1 hr1.2.1
                  have hne : cur ≠ td := fun e => by rw [← e, hs.1] at h; cases h
                  simp_all
              obtain ⟨h1, h2, h3⟩ := hT hft
              have hw := hops_way (arcs_ok hok) (arcsB_sorted hok) hft
              have hwl := hw.len (arcs_ok hok) ⟨hr1.2.2.1, hr1.2.2.2⟩
              have hil2 := (List.getElem?_eq_some_iff.1 h2).1
              have hLl : L.length ≤ 64 := by rw [h1, List.length_take]; omega
              have hct : cur = td := by
                first | assumption | (simp_all; omega)
              rw [hct] at h2
              have he := hw.atEnd (arcs_ok hok) h2
              have hB : hopB db fr td = true := by rw [hbe]; exact hft
              have hL : hopL db fr td = L := by unfold hopL; rw [if_pos hB, h1, take_all (by omega)]
              exact ⟨_, [_], _, rfl, (by repeat constructor), g, c, by rw [hB, hL]; rfl, by rw [hL]⟩
          · skip
            refine gf ?_
            refine gf ?_
            refine gf ?_
            refine sp pK ?_
            refine oNil ?_
            refine aCondF rfl ?_
            refine aExit rfl ?_
            refine aSeq ?_
            refine aReg ?_
            refine sp pM ?_
            refine sp pMa ?_
            refine sp pMa ?_
            refine oNil ?_
            refine aRet ?_
            have hft : isF (arcsDb db) fr td = true := by
              cases h : isF (arcsDb db) fr td with
              | true => rfl
              | false =>
                obtain ⟨rfl, rfl⟩ := hF h
                exfalso
                have hs := dF_root (arcs_ok hok) hr1.1 hr1.2.1
                have hne : cur ≠ td := fun e => by rw [← e, hs.1] at h; cases h
                simp_all
            obtain ⟨h1, h2, h3⟩ := hT hft
            have hw := hops_way (arcs_ok hok) (arcsB_sorted hok) hft
            have hwl := hw.len (arcs_ok hok) ⟨hr1.2.2.1, hr1.2.2.2⟩
            have hil2 := (List.getElem?_eq_some_iff.1 h2).1
            have hLl : L.length ≤ 64 := by rw [h1, List.length_take]; omega
            have hct : cur = td := by
              first | assumption | (simp_all; omega)
            rw [hct] at h2
            have he := hw.atEnd (arcs_ok hok) h2
            have hB : hopB db fr td = true := by rw [hbe]; exact hft
            have hL : hopL db fr td = L := by unfold hopL; rw [if_pos hB, h1, take_all (by omega)]
            exact ⟨_, [_], _, rfl, (by repeat constructor), g, c, by rw [hB, hL]; rfl, by rw [hL]⟩
end A
end Go.Proofs.Ytmcannmjielalaa
set_option linter.unusedVariables false
set_option linter.unusedSimpArgs false
set_option linter.unusedSectionVars false
namespace Go.Proofs.Ytmcannmjielalaa
namespace A
variable {P : Program} {N : Nat} {env : Env} {h : List HA} {K : Cont} {X : List (Nat × Cont)} {Rt : Cont}
theorem fill_sub {p q : Nat → Option (Nat × Nat)} (h : ∀ i x, p i = some x → q i = some x) : ∀ (l : List (Nat × Value)) (cs r : Array Value), Instr.fill p cs l = some r → Instr.fill q cs l = some r
  | [], cs, r, e => e
  | (i, v) :: l, cs, r, e => by
    rw [Instr.fill] at e ⊢
    cases hp : p i with
    | none => rw [hp] at e; cases e
    | some x =>
      rw [hp] at e
      rw [h i x hp]
      obtain ⟨off, size⟩ := x
      simp only at e ⊢
      split at e
      · cases e
      · rename_i hc
        rw [if_neg hc]
        exact fill_sub h l _ _ e
/-- '[n]T{..}' -/
theorem pBuildA {o : Oper} {t e : TypeId} {n m : Nat} {g : Bool} {parts : Array (Nat × Operand)} {z : Value} {l cs : List AV} (ho : o.op = .build t parts) (hu : P.underlying t = some (.array n e)) (he : tyOf P e = some (m, g)) (hz : zeroOf P t = some z) (hz1 : oneOf (.v z) = true) (hl : evs env (parts.toList.map (·.2)) = some l) (hone : l.all oneOf = true)
    (hf : fillAV ((List.range n).map fun i => (i * m, m)) (avCells (.v z)) ((parts.toList.map (·.1)).zip l) = some cs) : APure P N o env (.agg cs) := by
  intro F h a w s
  obtain ⟨e1, e2⟩ := evs_get s hl
  obtain ⟨z1, z2⟩ := rep_cells (Rep.v (F := F) (w := w) z)
  have hil : (parts.toList.map (·.1)).length = l.length := by rw [List.length_map, ← e1, List.length_map]
  obtain ⟨res, r1, r2, r3, r4⟩ := fill_rep (parts.toList.map (·.1)) l ((parts.toList.map (·.2)).map a.eval) (avCells (.v z)) z.cells cs hil (by rw [List.length_map, e1]) (fun i av x hi hx => ⟨e2 i av x hi hx, List.all_eq_true.1 hone av (List.mem_of_getElem? hi)⟩) z1 z2 (rep_one (Rep.v (F := F) (w := w) z) hz1) hf
  have hzip : (parts.map fun (i, x) => (i, a.eval x)).toList = (parts.toList.map (·.1)).zip ((parts.toList.map (·.2)).map a.eval) := by
    rw [List.map_map, Array.toList_map, List.zip_map']
    rfl
  have r5 := fill_sub (q := fun i => some (i * m, m)) (fun i x hx => by
    rw [List.getElem?_map] at hx
    obtain ⟨j, hj, rfl⟩ := Option.map_eq_some_iff.1 hx
    obtain ⟨hj1, rfl⟩ := List.getElem?_eq_some_iff.1 hj
    simp) _ _ _ r1
  refine ⟨.agg res, .agg cs res r2 r4 r3, fun w' => ?_⟩
  simp only [execOp, ho, Instr.build, Sem.run_bind, run_zero hz, Result.andThen_ok, run_underlying' hu, run_sizeOf he, hzip, r5, Sem.run_pure]
end A
end Go.Proofs.Ytmcannmjielalaa
set_option linter.unusedVariables false
set_option linter.unusedSimpArgs false
namespace Go.Proofs.Ytmcannmjielalaa
namespace A
theorem ua_33 : Try.prog.underlying 33 = some (.array 2 3) := by kernel_rfl
theorem ze_33 : zeroOf Try.prog 33 = some (.agg #[.int .i64 0, .int .i64 0]) := by kernel_rfl
structure Ed where
  a : Int
  b : Int
  c : Int
  deriving DecidableEq, Inhabited
def k2K (p : Int × Int) : List Value := [.int .i64 p.1, .int .i64 p.2]
theorem kt_2 : KeyT Try.prog 33 k2K 2 [(0, .i), (1, .i)] where
  pln := by kernel_rfl
  wide := by kernel_rfl
  len := fun _ => rfl
  eq := fun a b => by
    obtain ⟨a1, a2⟩ := a
    obtain ⟨b1, b2⟩ := b
    simp [k2K, eqLeaves, eqLeaf, Prod.mk.injEq]
    rw [Bool.eq_iff_iff]
    simp
  one := fun _ => rfl
  bits := fun a => by simp [k2K, Instr.sameBits]
end A
end Go.Proofs.Ytmcannmjielalaa
