/- Texts that HopAgrees's proof rests on, part 14. -/
import Derived.KernelRfl
import Derived.Test.YtmcannmjielalaaProg
import Derived.Test.YtmcannmjielalaaS12HopAgrees
set_option linter.unusedVariables false
set_option linter.unusedSimpArgs false
namespace Go.Proofs.Ytmcannmjielalaa
namespace A
theorem fd_164_1 : fieldOf Try.prog 164 1 = some (1, 1, false) := by kernel_rfl
theorem fd_164_3 : fieldOf Try.prog 164 3 = some (3, 1, false) := by kernel_rfl
theorem fd_49_0 : fieldOf Try.prog 49 0 = some (0, 1, false) := by kernel_rfl
theorem fd_49_1 : fieldOf Try.prog 49 1 = some (1, 1, false) := by kernel_rfl
theorem fd_49_2 : fieldOf Try.prog 49 2 = some (2, 1, false) := by kernel_rfl
theorem mo_158 : mapOf Try.prog 158 = some (3, 49) := by kernel_rfl
theorem ty_159 : tyOf Try.prog 159 = some (1, false) := by kernel_rfl
theorem ty_49 : tyOf Try.prog 49 = some (3, true) := by kernel_rfl
theorem ze_49 : zeroOf Try.prog 49 = some (.agg #[.int .i64 0, .int .i64 0, .int .u64 0]) := by kernel_rfl
def rtV (r : Rt) : List Value := [.int .i64 r.nd, .int .i64 r.via, .int .u64 r.c]
theorem cast_rt : Cast (.v (.agg #[.int .i64 0, .int .i64 0, .int .u64 0])) (rtA ⟨0, 0, 0⟩) := cast_key (kf := rtV) (a := ⟨0, 0, 0⟩) rfl
def DF (dm : List (Int × Bool)) : Int → Bool := fun v => (mGet dm v).getD false
theorem DF_put {dm : List (Int × Bool)} {n : Int} {b : Bool} : DF (mPut dm n b) = updF (DF dm) n b := by
  funext v
  simp only [DF, mGet_put, updF]
  split <;> rfl
def kF (km : List (Int × Rt)) : Int → Option (Int × Int) := fun v => (mGet km v).map fun x => (x.via, x.c)
theorem kF_put {km : List (Int × Rt)} {x : Rt} : kF (mPut km x.nd x) = updF (kF km) x.nd (some (x.via, x.c)) := by
  funext v
  simp only [kF, mGet_put, updF]
  split <;> rfl
def KI (km : List (Int × Rt)) : Prop := (mKeys km).Nodup ∧ ∀ v x, mGet km v = some x → x.nd = v
theorem KI.put {km : List (Int × Rt)} {x : Rt} (h : KI km) : KI (mPut km x.nd x) := by
  refine ⟨mPut_nodup h.1, fun v y hy => ?_⟩
  rw [mGet_put] at hy
  split at hy
  · rename_i e; cases hy; exact e.symm
  · exact h.2 v y hy
def BetterR (km : List (Int × Rt)) (h : List (Int × Int)) (x : Rt) (km' : List (Int × Rt)) (h2 : List (Int × Int)) : Prop :=
  ((∀ w, mGet km x.nd = some w → x.c < w.c) ∧ km' = mPut km x.nd x ∧ h2.Perm (h ++ [(x.c, x.nd)])) ∨
  (∃ w, mGet km x.nd = some w ∧ x.c = w.c ∧ x.via < w.via ∧ km' = mPut km x.nd x ∧ h2 = h) ∨
  (∃ w, mGet km x.nd = some w ∧ (w.c < x.c ∨ w.c = x.c ∧ w.via ≤ x.via) ∧ km' = km ∧ h2 = h)
theorem better_step {l : List Arc} {r : Int} {km km' : List (Int × Rt)} {D : Int → Bool} {h h2 : List (Int × Int)} {pend pend' : Arc → Prop} {a : Arc} {x : Rt} (I : DInv l r (kF km) D h pend) (ha : a ∈ l) (hd : D a.f = true) (hpe : ∀ b, pend b → pend' b ∨ b = a) (hr : a.t ≠ r) (hnd : D a.t = false)
    (hx : x = ⟨a.t, hopV r (kF km) a, hopC r (kF km) a⟩) (K : KI km) (B : BetterR km h x km' h2) : DInv l r (kF km') D h2 pend' ∧ KI km' ∧ h2.length ≤ h.length + 1 ∧ ∀ v, v ≠ a.t → mGet km' v = mGet km v := by
  subst hx
  rcases B with ⟨h1, rfl, h3⟩ | ⟨w, h1, h2', h3, rfl, rfl⟩ | ⟨w, h1, h2', rfl, rfl⟩
  · refine ⟨?_, K.put, by have := h3.length_eq; simp at this; omega, fun v hv => by rw [mGet_put, if_neg hv]⟩
    rw [kF_put]
    refine I.put ha hd hpe hr hnd (fun p hp => ?_) (fun e he => h3.mem_iff.2 (by simp [he])) (h3.mem_iff.2 (by simp)) (fun e he => ?_)
    · simp only [kF, Option.map_eq_some_iff] at hp
      obtain ⟨w, hw, rfl⟩ := hp
      exact .inl (h1 w hw)
    · rcases List.mem_append.1 (h3.mem_iff.1 he) with h | h
      · exact .inl h
      · exact .inr (List.mem_singleton.1 h)
  · have hk : kF km a.t = some (w.via, w.c) := by simp only [kF, h1, Option.map_some]
    refine ⟨?_, K.put, by omega, fun v hv => by rw [mGet_put, if_neg hv]⟩
    rw [kF_put]
    refine I.put ha hd hpe hr hnd (fun p hp => ?_) (fun e he => he) ?_ (fun e he => .inl he)
    · rw [hk] at hp
      cases hp
      exact .inr ⟨h2', by simp only at h3 ⊢; omega⟩
    · have := I.h1 a.t _ hk hnd
      simp only at h2' this
      rw [h2']
      exact this
  · have hk : kF km' a.t = some (w.via, w.c) := by simp only [kF, h1, Option.map_some]
    refine ⟨I.keep hpe hk ?_, K, by omega, fun v _ => rfl⟩
    simp only at h2' ⊢
    unfold leV
    omega
/- spf.walk).better -/
def spf_better_r1_T : Bool × List (List Nat × List Nat) := (true, [([], []), ([0], [0]), ([1], [1]), ([2], [2]), ([], []), ([4], [4]), ([3, 5], [3, 5]), ([6], [6]), ([7], [7]), ([7], [7]), ([], []), ([10, 8, 0, 1, 2, 3, 4, 5, 6, 7, 8, 10], [8, 10]), ([9, 11, 0, 1, 2, 3, 4, 5, 6, 7, 8, 9, 10, 11], [9])])
def spf_better_r1_B : List Nat := [0, 1, 3, 7, 0, 16, 63, 127, 255, 255, 0, 1535, 4095]
theorem spf_better_r1_t : Go.Proofs.YtmcannmjielalaaW.PrintLast.rtab .any (Go.Proofs.YtmcannmjielalaaW.PrintLast.opsOf Try.f222 1) = spf_better_r1_T := by kernel_rfl
theorem spf_better_r1_b : Go.Proofs.YtmcannmjielalaaW.PrintLast.waitsOk spf_better_r1_T.2 spf_better_r1_B = true := by kernel_rfl
def spf_better_r3_T : Bool × List (List Nat × List Nat) := (true, [([], []), ([0], [0]), ([1], [1]), ([2], [2]), ([], []), ([4], [4]), ([], []), ([6], [6]), ([5, 7], [5, 7]), ([3, 8], [3, 8])])
def spf_better_r3_B : List Nat := [0, 1, 3, 7, 0, 16, 0, 64, 240, 511]
theorem spf_better_r3_t : Go.Proofs.YtmcannmjielalaaW.PrintLast.rtab .any (Go.Proofs.YtmcannmjielalaaW.PrintLast.opsOf Try.f222 3) = spf_better_r3_T := by kernel_rfl
theorem spf_better_r3_b : Go.Proofs.YtmcannmjielalaaW.PrintLast.waitsOk spf_better_r3_T.2 spf_better_r3_B = true := by kernel_rfl
def spf_better_r5_T : Bool × List (List Nat × List Nat) := (true, [([], []), ([0], [0]), ([1], [1]), ([2], [2]), ([], []), ([4], [4]), ([], []), ([3, 5, 6, 0, 1, 2, 3, 4, 5, 6], [3, 5, 6])])
def spf_better_r5_B : List Nat := [0, 1, 3, 7, 0, 16, 0, 127]
theorem spf_better_r5_t : Go.Proofs.YtmcannmjielalaaW.PrintLast.rtab .any (Go.Proofs.YtmcannmjielalaaW.PrintLast.opsOf Try.f222 5) = spf_better_r5_T := by kernel_rfl
theorem spf_better_r5_b : Go.Proofs.YtmcannmjielalaaW.PrintLast.waitsOk spf_better_r5_T.2 spf_better_r5_B = true := by kernel_rfl
set_option maxRecDepth 100000 in
set_option maxHeartbeats 2000000 in
theorem spf_better (wb kb db hb : Nat) (root : Int) (km : List (Int × Rt)) (dm : List (Int × Bool)) (g : Option Nat) (c : Nat) (h : List (Int × Int)) (x : Rt) (hk : HeapOk h) (hhl : h.length ≤ 1000000) : Triple Try.prog 222 [(.v (.pointer (some ⟨wb, 0, none⟩))), .agg (rtC x)] [.box wb [.int root, .v (.map (some kb)), .v (.map (some db)), .v (.pointer (some ⟨hb, 0, none⟩))], .map kb (kvM rtA (km)), .map db (kvM boA dm), .box hb [.v (slV g (h).length c)], .sl g c 162 2 ((h).map spC)] (fun r h' => ∃ km' g' c' h2, r = .tup [] ∧ h' = [.box wb [.int root, .v (.map (some kb)), .v (.map (some db)), .v (.pointer (some ⟨hb, 0, none⟩))], .map kb (kvM rtA (km')), .map db (kvM boA dm), .box hb [.v (slV g' (h2).length c')], .sl g' c' 162 2 ((h2).map spC)] ∧ HeapOk h2 ∧ BetterR km h x km' h2) := by
  refine triple_of Try.func222 rfl (by kernel_rfl) rfl (by simp) ?_
  refine aSeq ?_
  refine aReg ?_
  refine sq ?_
  refine qBox rfl rfl (by decide) rfl rfl (fun b3 => ?_)
  refine oNil ?_
  refine aSeq ?_
  refine aDrawT spf_better_r1_t spf_better_r1_b [11] 13 #[false, false, false, false, false, false, false, false, false, false, false, false, false] (by kernel_rfl) rfl rfl (fun HT => ?_)
  refine dp HT 0 rfl pM ?_
  refine dp HT 1 rfl pNv ?_
  refine dp HT 2 rfl (pFb fd_164_1) ?_
  refine dr HT 3 rfl (rB1 ty_158) ?_
  refine dp HT 4 rfl (pFb fd_49_0) ?_
  refine dr HT 5 rfl (rB1 ty_3) ?_
  refine dr HT 6 rfl (rMGo mo_158 ze_49 (⟨0, 0, 0⟩ : Rt) cast_rt) ?_
  refine dp HT 7 rfl pM ?_
  refine dp HT 8 rfl pX ?_
  refine dp HT 9 rfl pX ?_
  refine dGo ?_
  refine e1 HT 10 rfl ?_
  refine qAlloc rfl rfl (by decide) ze_49 rfl (fun b4 => ?_)
  refine eLast ?_
  refine f1 HT 11 rfl ?_
  refine oStW rfl rfl rfl rfl (by repeat constructor) ty_49 ?_
  refine fp HT 12 rfl pMa ?_
  refine fE HT ?_
  clear HT
  refine aSeq ?_
  refine aBlock ?_
  refine aSeq ?_
  refine aReg ?_
  refine sp pM ?_
  refine sp pNo ?_
  refine sp pM ?_
  refine oSplitNot 19 rfl (fun c19 => ?_) (fun c19 => ?_)
  · skip
    refine gf ?_
    refine gf ?_
    refine gf ?_
    refine gf ?_
    refine gf ?_
    refine sp pK ?_
    refine sp pMa ?_
    refine oNil ?_
    refine aCondT rfl ?_
    refine aDrawT spf_better_r3_t spf_better_r3_b [9] 10 #[false, false, false, false, false, false, false, false, false, false] (by kernel_rfl) rfl rfl (fun HT => ?_)
    refine dp HT 0 rfl pM ?_
    refine dp HT 1 rfl pNv ?_
    refine dp HT 2 rfl (pFb fd_164_3) ?_
    refine dr HT 3 rfl (rB1 ty_159) ?_
    refine dp HT 4 rfl (pFb fd_49_2) ?_
    refine dr HT 5 rfl (rB1 ty_37) ?_
    refine dp HT 6 rfl (pFb fd_49_0) ?_
    refine dr HT 7 rfl (rB1 ty_3) ?_
    refine dp HT 8 rfl (pBuild rfl st_162 ze_162 rfl rfl rfl rfl) ?_
    refine dGo ?_
    refine eLast ?_
    refine f1 HT 9 rfl ?_
    refine ca rfl rfl rfl (heap_Put hb g c h (x.c, x.nd) hk (by omega)) ?_
    rintro _ _ ⟨g', c', h2, rfl, rfl, hk2, hpm⟩
    refine fE HT ?_
    clear HT
    refine aDrawT spf_better_r5_t spf_better_r5_b [7] 8 #[false, false, false, false, false, false, false, false] (by kernel_rfl) rfl rfl (fun HT => ?_)
    refine dp HT 0 rfl pM ?_
    refine dp HT 1 rfl pNv ?_
    refine dp HT 2 rfl (pFb fd_164_1) ?_
    refine dr HT 3 rfl (rB1 ty_158) ?_
    refine dp HT 4 rfl (pFb fd_49_0) ?_
    refine dr HT 5 rfl (rB1 ty_3) ?_
    refine dr HT 6 rfl (by first | exact rBWa ty_49 | exact rBW ty_49 | exact rBA ty_49) ?_
    refine dGo ?_
    refine eLast ?_
    refine f1 HT 7 rfl ?_
    first | refine oMP rfl rfl rfl rfl mo_158 ?_ | refine oMapSet rfl rfl rfl rfl rfl (by repeat constructor) mo_158 ?_
    refine fE HT ?_
    clear HT
    first
      | (refine ⟨_, [.box wb [.int root, .v (.map (some kb)), .v (.map (some db)), .v (.pointer (some ⟨hb, 0, none⟩))], .map kb (kvM rtA (mPut km x.nd x)), .map db (kvM boA dm), .box hb [.v (slV g' (h2).length c')], .sl g' c' 162 2 ((h2).map spC)], _, rfl, (.cons (by repeat constructor) (.cons (by repeat constructor) (.cons (by repeat constructor) (.cons (by repeat constructor) (.cons (by repeat constructor) .nil))))), mPut km x.nd x, g', c', h2, rfl, rfl, hk2, .inl ⟨fun w hw => ?_, rfl, hpm⟩⟩; simp_all; done)
      | (refine ⟨_, [.box wb [.int root, .v (.map (some kb)), .v (.map (some db)), .v (.pointer (some ⟨hb, 0, none⟩))], .map kb (kvM rtA (mPut km x.nd x)), .map db (kvM boA dm), .box hb [.v (slV g (h).length c)], .sl g c 162 2 ((h).map spC)], _, rfl, (.cons (by repeat constructor) (.cons (by repeat constructor) (.cons (by repeat constructor) (.cons (by repeat constructor) (.cons (by repeat constructor) .nil))))), mPut km x.nd x, g, c, h, rfl, rfl, hk, .inr (.inl ⟨((mGet km x.nd).getD ⟨0, 0, 0⟩), ?_, by omega, by omega, rfl, rfl⟩)⟩; cases hm : mGet km x.nd with | none => simp_all | some w => rfl)
  · skip
    refine gp (pFb fd_49_2) ?_
    refine gr (rB1 ty_37) ?_
    refine gp (pFb fd_49_2) ?_
    refine gr (rB1 ty_37) ?_
    refine gp pB ?_
    refine sp pK ?_
    refine sp pMa ?_
    refine oNil ?_
    refine aCondDec rfl (fun c16 => ?_) (fun c16 => ?_)
    · skip
      refine aDrawT spf_better_r3_t spf_better_r3_b [9] 10 #[false, false, false, false, false, false, false, false, false, false] (by kernel_rfl) rfl rfl (fun HT => ?_)
      refine dp HT 0 rfl pM ?_
      refine dp HT 1 rfl pNv ?_
      refine dp HT 2 rfl (pFb fd_164_3) ?_
      refine dr HT 3 rfl (rB1 ty_159) ?_
      refine dp HT 4 rfl (pFb fd_49_2) ?_
      refine dr HT 5 rfl (rB1 ty_37) ?_
      refine dp HT 6 rfl (pFb fd_49_0) ?_
      refine dr HT 7 rfl (rB1 ty_3) ?_
      refine dp HT 8 rfl (pBuild rfl st_162 ze_162 rfl rfl rfl rfl) ?_
      refine dGo ?_
      refine eLast ?_
      refine f1 HT 9 rfl ?_
      refine ca rfl rfl rfl (heap_Put hb g c h (x.c, x.nd) hk (by omega)) ?_
      rintro _ _ ⟨g', c', h2, rfl, rfl, hk2, hpm⟩
      refine fE HT ?_
      clear HT
      refine aDrawT spf_better_r5_t spf_better_r5_b [7] 8 #[false, false, false, false, false, false, false, false] (by kernel_rfl) rfl rfl (fun HT => ?_)
      refine dp HT 0 rfl pM ?_
      refine dp HT 1 rfl pNv ?_
      refine dp HT 2 rfl (pFb fd_164_1) ?_
      refine dr HT 3 rfl (rB1 ty_158) ?_
      refine dp HT 4 rfl (pFb fd_49_0) ?_
      refine dr HT 5 rfl (rB1 ty_3) ?_
      refine dr HT 6 rfl (by first | exact rBWa ty_49 | exact rBW ty_49 | exact rBA ty_49) ?_
      refine dGo ?_
      refine eLast ?_
      refine f1 HT 7 rfl ?_
      first | refine oMP rfl rfl rfl rfl mo_158 ?_ | refine oMapSet rfl rfl rfl rfl rfl (by repeat constructor) mo_158 ?_
      refine fE HT ?_
      clear HT
      first
        | (refine ⟨_, [.box wb [.int root, .v (.map (some kb)), .v (.map (some db)), .v (.pointer (some ⟨hb, 0, none⟩))], .map kb (kvM rtA (mPut km x.nd x)), .map db (kvM boA dm), .box hb [.v (slV g' (h2).length c')], .sl g' c' 162 2 ((h2).map spC)], _, rfl, (.cons (by repeat constructor) (.cons (by repeat constructor) (.cons (by repeat constructor) (.cons (by repeat constructor) (.cons (by repeat constructor) .nil))))), mPut km x.nd x, g', c', h2, rfl, rfl, hk2, .inl ⟨fun w hw => ?_, rfl, hpm⟩⟩; simp_all; done)
        | (refine ⟨_, [.box wb [.int root, .v (.map (some kb)), .v (.map (some db)), .v (.pointer (some ⟨hb, 0, none⟩))], .map kb (kvM rtA (mPut km x.nd x)), .map db (kvM boA dm), .box hb [.v (slV g (h).length c)], .sl g c 162 2 ((h).map spC)], _, rfl, (.cons (by repeat constructor) (.cons (by repeat constructor) (.cons (by repeat constructor) (.cons (by repeat constructor) (.cons (by repeat constructor) .nil))))), mPut km x.nd x, g, c, h, rfl, rfl, hk, .inr (.inl ⟨((mGet km x.nd).getD ⟨0, 0, 0⟩), ?_, by omega, by omega, rfl, rfl⟩)⟩; cases hm : mGet km x.nd with | none => simp_all | some w => rfl)
    · skip
      refine aSeq ?_
      refine aReg ?_
      refine sp (pFb fd_49_2) ?_
      refine sr (rB1 ty_37) ?_
      refine sp (pFb fd_49_2) ?_
      refine sr (rB1 ty_37) ?_
      refine sp pB ?_
      refine sp pM ?_
      refine oSplitDec 42 rfl (fun c42 => ?_) (fun c42 => ?_)
      · skip
        refine gf ?_
        refine gf ?_
        refine gf ?_
        refine gf ?_
        refine gf ?_
        refine sp pK ?_
        refine sp pMa ?_
        refine oNil ?_
        refine aCondT rfl ?_
        refine aRet ?_
        have hw : mGet km x.nd = some ((mGet km x.nd).getD ⟨0, 0, 0⟩) := by
          cases hm : mGet km x.nd with
          | none => simp_all
          | some w => rfl
        exact ⟨_, [.box wb [.int root, .v (.map (some kb)), .v (.map (some db)), .v (.pointer (some ⟨hb, 0, none⟩))], .map kb (kvM rtA (km)), .map db (kvM boA dm), .box hb [.v (slV g (h).length c)], .sl g c 162 2 ((h).map spC)], _, rfl, (.cons (by repeat constructor) (.cons (by repeat constructor) (.cons (by repeat constructor) (.cons (by repeat constructor) (.cons (by repeat constructor) .nil))))), km, g, c, h, rfl, rfl, hk, .inr (.inr ⟨_, hw, by omega, rfl, rfl⟩)⟩
      · skip
        refine gp (pFb fd_49_1) ?_
        refine gr (rB1 ty_3) ?_
        refine gp (pFb fd_49_1) ?_
        refine gr (rB1 ty_3) ?_
        refine gp pB ?_
        refine sp pK ?_
        refine sp pMa ?_
        refine oNil ?_
        refine aCondDec rfl (fun c36 => ?_) (fun c36 => ?_)
        · skip
          refine aRet ?_
          have hw : mGet km x.nd = some ((mGet km x.nd).getD ⟨0, 0, 0⟩) := by
            cases hm : mGet km x.nd with
            | none => simp_all
            | some w => rfl
          exact ⟨_, [.box wb [.int root, .v (.map (some kb)), .v (.map (some db)), .v (.pointer (some ⟨hb, 0, none⟩))], .map kb (kvM rtA (km)), .map db (kvM boA dm), .box hb [.v (slV g (h).length c)], .sl g c 162 2 ((h).map spC)], _, rfl, (.cons (by repeat constructor) (.cons (by repeat constructor) (.cons (by repeat constructor) (.cons (by repeat constructor) (.cons (by repeat constructor) .nil))))), km, g, c, h, rfl, rfl, hk, .inr (.inr ⟨_, hw, by omega, rfl, rfl⟩)⟩
        · skip
          refine aSkip ?_
          refine aDrawT spf_better_r5_t spf_better_r5_b [7] 8 #[false, false, false, false, false, false, false, false] (by kernel_rfl) rfl rfl (fun HT => ?_)
          refine dp HT 0 rfl pM ?_
          refine dp HT 1 rfl pNv ?_
          refine dp HT 2 rfl (pFb fd_164_1) ?_
          refine dr HT 3 rfl (rB1 ty_158) ?_
          refine dp HT 4 rfl (pFb fd_49_0) ?_
          refine dr HT 5 rfl (rB1 ty_3) ?_
          refine dr HT 6 rfl (by first | exact rBWa ty_49 | exact rBW ty_49 | exact rBA ty_49) ?_
          refine dGo ?_
          refine eLast ?_
          refine f1 HT 7 rfl ?_
          first | refine oMP rfl rfl rfl rfl mo_158 ?_ | refine oMapSet rfl rfl rfl rfl rfl (by repeat constructor) mo_158 ?_
          refine fE HT ?_
          clear HT
          first
            | (refine ⟨_, [.box wb [.int root, .v (.map (some kb)), .v (.map (some db)), .v (.pointer (some ⟨hb, 0, none⟩))], .map kb (kvM rtA (mPut km x.nd x)), .map db (kvM boA dm), .box hb [.v (slV g' (h2).length c')], .sl g' c' 162 2 ((h2).map spC)], _, rfl, (.cons (by repeat constructor) (.cons (by repeat constructor) (.cons (by repeat constructor) (.cons (by repeat constructor) (.cons (by repeat constructor) .nil))))), mPut km x.nd x, g', c', h2, rfl, rfl, hk2, .inl ⟨fun w hw => ?_, rfl, hpm⟩⟩; simp_all; done)
            | (refine ⟨_, [.box wb [.int root, .v (.map (some kb)), .v (.map (some db)), .v (.pointer (some ⟨hb, 0, none⟩))], .map kb (kvM rtA (mPut km x.nd x)), .map db (kvM boA dm), .box hb [.v (slV g (h).length c)], .sl g c 162 2 ((h).map spC)], _, rfl, (.cons (by repeat constructor) (.cons (by repeat constructor) (.cons (by repeat constructor) (.cons (by repeat constructor) (.cons (by repeat constructor) .nil))))), mPut km x.nd x, g, c, h, rfl, rfl, hk, .inr (.inl ⟨((mGet km x.nd).getD ⟨0, 0, 0⟩), ?_, by omega, by omega, rfl, rfl⟩)⟩; cases hm : mGet km x.nd with | none => simp_all | some w => rfl)
end A
end Go.Proofs.Ytmcannmjielalaa
set_option linter.unusedVariables false
set_option linter.unusedSimpArgs false
namespace Go.Proofs.Ytmcannmjielalaa
namespace A
theorem fd_164_0 : fieldOf Try.prog 164 0 = some (0, 1, false) := by kernel_rfl
theorem fd_164_2 : fieldOf Try.prog 164 2 = some (2, 1, false) := by kernel_rfl
theorem st_49 : structPlaces Try.prog 49 = some [(0, 1), (1, 1), (2, 1)] := by kernel_rfl
theorem ze_4 : zeroOf Try.prog 4 = some (.bool false) := by kernel_rfl
theorem DInv.pend {l : List Arc} {r : Int} {known : Int → Option (Int × Int)} {done : Int → Bool} {hp : List (Int × Int)} {pend pend' : Arc → Prop} (I : DInv l r known done hp pend) (h : ∀ a ∈ l, pend a → pend' a) : DInv l r known done hp pend' :=
  ⟨I.k1, I.d1, fun a ha hd ht hp => I.d2 a ha hd ht (fun hpa => hp (h a ha hpa)), I.h1, I.hr, I.h2⟩
theorem at_hop {l : List Arc} {r n : Int} {km km0 : List (Int × Rt)} {D : Int → Bool} {h : List (Int × Int)} {pend : Arc → Prop} {a : Arc} (I : DInv l r (kF km) D h pend) (hm : mGet km n = mGet km0 n) (hf : a.f = n) :
    hopC r (kF km) a = ((mGet km0 n).getD ⟨0, 0, 0⟩).c + a.c ∧ hopV r (kF km) a = if n = r then a.t else ((mGet km0 n).getD ⟨0, 0, 0⟩).via := by
  unfold hopC hopV
  rw [hf, ← hm]
  by_cases e : n = r
  · rw [if_pos e, if_pos e, if_pos e]
    refine ⟨?_, rfl⟩
    have hno : mGet km n = none := by
      cases hg : mGet km n with
      | none => rfl
      | some x =>
        have := (I.k1 n (x.via, x.c) (by simp only [kF, hg, Option.map_some])).1
        exact absurd e this
    rw [hno]
    show a.c = 0 + a.c
    omega
  · rw [if_neg e, if_neg e, if_neg e]
    unfold kF
    cases mGet km n <;> exact ⟨rfl, rfl⟩
theorem drop_pend {α : Type} {xs : List α} {i : Nat} {a : α} (h : xs[i]? = some a) : ∀ b, b ∈ xs.drop i → b ∈ xs.drop (i + 1) ∨ b = a := fun b hb => by
  rw [drop_step h] at hb
  rcases List.mem_cons.1 hb with e | e
  · exact .inr e
  · exact .inl e
/- spf.walk).spread -/
def spf_spread_r4_T : Bool × List (List Nat × List Nat) := (true, [([], []), ([0], [0]), ([], []), ([2], [2]), ([3], [3]), ([4], [4]), ([1, 5], [1, 5]), ([6], [6]), ([7], [7]), ([8, 7], [7, 8]), ([9, 7], [7, 9]), ([10, 7], [7, 10]), ([7], [7]), ([12, 7], [7, 12]), ([11, 13, 7], [7, 11, 13]), ([7, 14], [7, 14])])
def spf_spread_r4_B : List Nat := [0, 1, 0, 4, 12, 28, 63, 127, 255, 511, 1023, 2047, 255, 4351, 16383, 32767]
theorem spf_spread_r4_t : Go.Proofs.YtmcannmjielalaaW.PrintLast.rtab .any (Go.Proofs.YtmcannmjielalaaW.PrintLast.opsOf Try.f127 4) = spf_spread_r4_T := by kernel_rfl
theorem spf_spread_r4_b : Go.Proofs.YtmcannmjielalaaW.PrintLast.waitsOk spf_spread_r4_T.2 spf_spread_r4_B = true := by kernel_rfl
def spf_spread_r8_T : Bool × List (List Nat × List Nat) := (true, [([], []), ([], []), ([1], [1]), ([], []), ([], []), ([4], [4]), ([], []), ([6], [6]), ([7], [7]), ([5, 8], [5, 8]), ([2, 3, 9], [2, 3, 9]), ([0, 10, 9], [0, 10])])
def spf_spread_r8_B : List Nat := [0, 0, 2, 0, 0, 16, 0, 64, 192, 496, 1022, 2047]
theorem spf_spread_r8_t : Go.Proofs.YtmcannmjielalaaW.PrintLast.rtab .any (Go.Proofs.YtmcannmjielalaaW.PrintLast.opsOf Try.f127 8) = spf_spread_r8_T := by kernel_rfl
theorem spf_spread_r8_b : Go.Proofs.YtmcannmjielalaaW.PrintLast.waitsOk spf_spread_r8_T.2 spf_spread_r8_B = true := by kernel_rfl
set_option maxRecDepth 100000 in
set_option maxHeartbeats 4000000 in
theorem spf_spread {l : List Arc} {r : Int} (hlA : ∀ a ∈ l, AOk a) (hsA : l.Pairwise ltA) (hll : l.length ≤ 1000000) (wb kb db hb : Nat) (km0 : List (Int × Rt)) (dm : List (Int × Bool)) (g0 : Option Nat) (c0 : Nat) (h0 : List (Int × Int)) (n : Int) (xs : List Arc) (hxs : xs = l.filter fun a => a.f == n) (hk0 : HeapOk h0) (hhl : h0.length + xs.length ≤ 1000000) (I0 : DInv l r (kF km0) (DF dm) h0 (fun a => a.f = n)) (hn : DF dm n = true) (K0 : KI km0) : Triple Try.prog 127 [(.v (.pointer (some ⟨wb, 0, none⟩))), .sl 3 (xs.map arcC), .int n] [.box wb [.int r, .v (.map (some kb)), .v (.map (some db)), .v (.pointer (some ⟨hb, 0, none⟩))], .map kb (kvM rtA (km0)), .map db (kvM boA dm), .box hb [.v (slV g0 (h0).length c0)], .sl g0 c0 162 2 ((h0).map spC)] (fun q h' => ∃ km g c h, q = .tup [] ∧ h' = [.box wb [.int r, .v (.map (some kb)), .v (.map (some db)), .v (.pointer (some ⟨hb, 0, none⟩))], .map kb (kvM rtA (km)), .map db (kvM boA dm), .box hb [.v (slV g (h).length c)], .sl g c 162 2 ((h).map spC)] ∧ HeapOk h ∧ DInv l r (kF km) (DF dm) h (fun _ => False) ∧ KI km ∧ h.length ≤ h0.length + xs.length) := by
  refine triple_of Try.func127 rfl (by kernel_rfl) rfl (by simp) ?_
  refine aSeq ?_
  refine aReg ?_
  refine sp pM ?_
  refine sp pNv ?_
  refine sp (pFb fd_164_1) ?_
  refine sr (rB1 ty_158) ?_
  refine sp pM ?_
  refine sr (rMG mo_158 ze_49 (⟨0, 0, 0⟩ : Rt) cast_rt) ?_
  refine sq ?_
  refine qAlloc rfl rfl (by decide) ze_49 rfl (fun b6 => ?_)
  refine sa ?_
  refine oStW rfl rfl rfl rfl (by repeat constructor) ty_49 ?_
  refine oNil ?_
  refine aSeq ?_
  refine aReg ?_
  refine sp pM ?_
  refine sp (by first | exact pLm sl_22 | exact pLs sl_22) ?_
  refine sp pM ?_
  refine oNil ?_
  refine aBlock ?_
  refine loopF (α := Nat × List (Int × Rt) × Option Nat × Nat × List (Int × Int)) (kept := [(0, _), (2, _), (6, _), (16, _), (17, _)]) (fun (i, km, g, c, h) => i ≤ xs.length ∧ HeapOk h ∧ DInv l r (kF km) (DF dm) h (fun b => b ∈ xs.drop i) ∧ KI km ∧ h.length ≤ h0.length + i ∧ mGet km n = mGet km0 n) (fun (i, km, g, c, h) => [(18, .int i)]) (fun (i, km, g, c, h) => [.box wb [.int r, .v (.map (some kb)), .v (.map (some db)), .v (.pointer (some ⟨hb, 0, none⟩))], .map kb (kvM rtA (km)), .map db (kvM boA dm), .box hb [.v (slV g (h).length c)], .sl g c 162 2 ((h).map spC)]) (fun (i, km, g, c, h) => xs.length - i) (0, km0, g0, c0, h0) ?_ ⟨gInt rfl (by first | rfl | omega | simp), rfl, rfl, rfl, rfl, rfl, trivial⟩ (by repeat constructor) ?_
  · skip
    exact ⟨by omega, hk0, I0.pend (fun a ha e => by rw [List.drop_zero, hxs, List.mem_filter]; exact ⟨ha, by simpa using e⟩), K0, by omega, rfl⟩
  · rintro ⟨i, km, g, c, h⟩ ⟨hi, hk, I, K, hlen, hm⟩
    refine aSeq ?_
    refine aReg ?_
    refine sp pB ?_
    refine oNil ?_
    refine aSeq ?_
    refine aCondDec rfl (fun c19 => ?_) (fun c19 => ?_)
    · skip
      refine aSkip ?_
      refine aSeq ?_
      refine aBlock ?_
      refine aSeq ?_
      obtain ⟨a, ha⟩ : ∃ a, xs[i]? = some a := ⟨_, List.getElem?_eq_getElem (by omega)⟩
      have hal : a ∈ l ∧ a.f = n := by
        have := List.mem_of_getElem? ha
        rw [hxs, List.mem_filter] at this
        exact ⟨this.1, by simpa using this.2⟩
      have hak := hlA a hal.1
      unfold AOk at hak
      have hop := at_hop (a := a) I hm hal.2
      have hopI := I.hop hlA hal.1 (by rw [hal.2]; exact hn)
      have hdr := dF_range hlA hll r a.f
      have hpe := drop_pend ha
      refine aReg ?_
      first | refine sp (pIx es_22) ?_ | (refine obtSN 16 18 rfl rfl (by omega) (fun x20 hx20 => ?_); refine sp (pIs es_22 hx20) ?_) | (refine obtS 16 18 rfl rfl (by omega) (by omega) (fun x20 hx20 => ?_); refine sp (pIs es_22 hx20) ?_) | refine sp (pIo es_22) ?_
      refine sr (by first | exact rSW ty_36 rfl | exact rSA ty_36) ?_
      refine sq ?_
      refine qAlloc rfl rfl (by decide) ze_36 rfl (fun b8 => ?_)
      refine sa ?_
      refine oStW rfl rfl rfl rfl (by repeat constructor) ty_36 ?_
      refine oNil ?_
      refine aSeq ?_
      refine aSeq ?_
      refine aDrawT spf_spread_r4_t spf_spread_r4_b [] 16 #[false, false, false, false, false, false, false, false, false, false, false, false, false, false, false, false] (by kernel_rfl) rfl rfl (fun HT => ?_)
      refine dp HT 0 rfl (pFb fd_36_1) ?_
      refine dr HT 1 rfl (rB1 ty_3) ?_
      refine dp HT 2 rfl pM ?_
      refine dp HT 3 rfl pNv ?_
      refine dp HT 4 rfl (pFb fd_164_0) ?_
      refine dr HT 5 rfl (rB1 ty_3) ?_
      refine dp HT 6 rfl pB ?_
      refine dp HT 7 rfl pM ?_
      refine dSplitEq 29 rfl (fun c29 => ?_) (fun c29 => ?_)
      · skip
        refine dS HT 8 rfl ?_
        refine dS HT 9 rfl ?_
        refine dS HT 10 rfl ?_
        refine dS HT 11 rfl ?_
        refine dS HT 12 rfl ?_
        refine dS HT 13 rfl ?_
        refine dS HT 14 rfl ?_
        refine dp HT 15 rfl pK ?_
        refine dE HT ?_
        clear HT
        refine aCondT rfl ?_
        refine aExit rfl ?_
        refine aReg ?_
        refine sp pAd ?_
        refine sp pM ?_
        refine oNil ?_
        refine ⟨(i + 1, _, _, _, _), ?_, by (try dsimp only); omega, ⟨gInt rfl (by first | rfl | omega | simp), rfl, rfl, rfl, rfl, rfl, trivial⟩, _, (by repeat constructor)⟩
        first
          | exact ⟨by omega, hk, I.skip hlA hsA hpe (.inl (by assumption)), K, by omega, hm⟩
          | exact ⟨by omega, hk, I.skip hlA hsA hpe (.inr (by assumption)), K, by omega, hm⟩
          | (have hnd : DF dm a.t = false := by assumption
             obtain ⟨q1, q2, q3, q4⟩ := better_step I hal.1 (by rw [hal.2]; exact hn) hpe (by assumption) hnd (by rw [hop.1, hop.2]; first | rw [if_pos (by assumption)] | rw [if_neg (by assumption)]) K hB
             exact ⟨by omega, hk2, q1, q2, by omega, by rw [q4 n (fun e => by rw [e, hnd] at hn; cases hn)]; exact hm⟩)
      · skip
        refine dpG HT 8 rfl pM ?_
        refine dpG HT 9 rfl pNv ?_
        refine dpG HT 10 rfl (pFb fd_164_2) ?_
        refine drG HT 11 rfl (rB1 ty_144) ?_
        refine dpG HT 12 rfl (pFb fd_36_1) ?_
        refine drG HT 13 rfl (rB1 ty_3) ?_
        refine drG HT 14 rfl (rMGb mo_144 ze_4) ?_
        refine dp HT 15 rfl pK ?_
        refine dE HT ?_
        clear HT
        refine aCond rfl (fun c37 => ?_) (fun c37 => ?_)
        · skip
          refine aExit rfl ?_
          refine aReg ?_
          refine sp pAd ?_
          refine sp pM ?_
          refine oNil ?_
          refine ⟨(i + 1, _, _, _, _), ?_, by (try dsimp only); omega, ⟨gInt rfl (by first | rfl | omega | simp), rfl, rfl, rfl, rfl, rfl, trivial⟩, _, (by repeat constructor)⟩
          first
            | exact ⟨by omega, hk, I.skip hlA hsA hpe (.inl (by assumption)), K, by omega, hm⟩
            | exact ⟨by omega, hk, I.skip hlA hsA hpe (.inr (by assumption)), K, by omega, hm⟩
            | (have hnd : DF dm a.t = false := by assumption
               obtain ⟨q1, q2, q3, q4⟩ := better_step I hal.1 (by rw [hal.2]; exact hn) hpe (by assumption) hnd (by rw [hop.1, hop.2]; first | rw [if_pos (by assumption)] | rw [if_neg (by assumption)]) K hB
               exact ⟨by omega, hk2, q1, q2, by omega, by rw [q4 n (fun e => by rw [e, hnd] at hn; cases hn)]; exact hm⟩)
        · skip
          refine aSkip ?_
          refine aSeq ?_
          refine aReg ?_
          refine sp (pFb fd_49_1) ?_
          refine sr (rB1 ty_3) ?_
          refine sp pMa ?_
          refine oNil ?_
          refine aSeq ?_
          refine aSeq ?_
          refine aReg ?_
          refine sp pM ?_
          refine sp pM ?_
          refine sp pNv ?_
          refine sp (pFb fd_164_0) ?_
          refine sr (rB1 ty_3) ?_
          refine sp pB ?_
          refine oNil ?_
          refine aCondEq rfl (fun c45 => ?_) (fun c45 => ?_)
          · skip
            refine aReg ?_
            refine sp (pFb fd_36_1) ?_
            refine sr (rB1 ty_3) ?_
            refine sp pMa ?_
            refine oNil ?_
            refine aDrawT spf_spread_r8_t spf_spread_r8_b [11] 12 #[false, false, false, false, false, false, false, false, false, false, false, false] (by kernel_rfl) rfl rfl (fun HT => ?_)
            refine dp HT 0 rfl pM ?_
            refine dp HT 1 rfl (pFb fd_36_1) ?_
            refine dr HT 2 rfl (rB1 ty_3) ?_
            refine dp HT 3 rfl pM ?_
            refine dp HT 4 rfl (pFb fd_49_2) ?_
            refine dr HT 5 rfl (rB1 ty_37) ?_
            refine dp HT 6 rfl (pFb fd_36_2) ?_
            refine dr HT 7 rfl (rB1 ty_3) ?_
            refine dp HT 8 rfl (by first | exact pCvK ik_3 ik_37 | exact pConv rfl rfl ik_3 ik_37 rfl) ?_
            refine dGo ?_
            refine e1 HT 9 rfl ?_
            refine cv rfl rfl rfl (lents_refl _) (cost_Add (by omega) (by omega) (by omega) (by omega)) ?_
            rw [if_neg (by omega)]
            refine ef HT 10 rfl (pBuild rfl st_49 ze_49 rfl rfl rfl rfl) ?_
            refine eLast ?_
            refine f1 HT 11 rfl ?_
            refine ca rfl rfl rfl (spf_better wb kb db hb r km dm g c h ⟨a.t, _, ((mGet km0 n).getD ⟨0, 0, 0⟩).c + a.c⟩ hk (by omega)) ?_
            rintro _ _ ⟨km', g', c', h2, rfl, rfl, hk2, hB⟩
            refine fE HT ?_
            clear HT
            refine aReg ?_
            refine sp pAd ?_
            refine sp pM ?_
            refine oNil ?_
            refine ⟨(i + 1, _, _, _, _), ?_, by (try dsimp only); omega, ⟨gInt rfl (by first | rfl | omega | simp), rfl, rfl, rfl, rfl, rfl, trivial⟩, _, (by repeat constructor)⟩
            first
              | exact ⟨by omega, hk, I.skip hlA hsA hpe (.inl (by assumption)), K, by omega, hm⟩
              | exact ⟨by omega, hk, I.skip hlA hsA hpe (.inr (by assumption)), K, by omega, hm⟩
              | (have hnd : DF dm a.t = false := by assumption
                 obtain ⟨q1, q2, q3, q4⟩ := better_step I hal.1 (by rw [hal.2]; exact hn) hpe (by assumption) hnd (by rw [hop.1, hop.2]; first | rw [if_pos (by assumption)] | rw [if_neg (by assumption)]) K hB
                 exact ⟨by omega, hk2, q1, q2, by omega, by rw [q4 n (fun e => by rw [e, hnd] at hn; cases hn)]; exact hm⟩)
          · skip
            refine aSkip ?_
            refine aDrawT spf_spread_r8_t spf_spread_r8_b [11] 12 #[false, false, false, false, false, false, false, false, false, false, false, false] (by kernel_rfl) rfl rfl (fun HT => ?_)
            refine dp HT 0 rfl pM ?_
            refine dp HT 1 rfl (pFb fd_36_1) ?_
            refine dr HT 2 rfl (rB1 ty_3) ?_
            refine dp HT 3 rfl pM ?_
            refine dp HT 4 rfl (pFb fd_49_2) ?_
            refine dr HT 5 rfl (rB1 ty_37) ?_
            refine dp HT 6 rfl (pFb fd_36_2) ?_
            refine dr HT 7 rfl (rB1 ty_3) ?_
            refine dp HT 8 rfl (by first | exact pCvK ik_3 ik_37 | exact pConv rfl rfl ik_3 ik_37 rfl) ?_
            refine dGo ?_
            refine e1 HT 9 rfl ?_
            refine cv rfl rfl rfl (lents_refl _) (cost_Add (by omega) (by omega) (by omega) (by omega)) ?_
            rw [if_neg (by omega)]
            refine ef HT 10 rfl (pBuild rfl st_49 ze_49 rfl rfl rfl rfl) ?_
            refine eLast ?_
            refine f1 HT 11 rfl ?_
            refine ca rfl rfl rfl (spf_better wb kb db hb r km dm g c h ⟨a.t, _, ((mGet km0 n).getD ⟨0, 0, 0⟩).c + a.c⟩ hk (by omega)) ?_
            rintro _ _ ⟨km', g', c', h2, rfl, rfl, hk2, hB⟩
            refine fE HT ?_
            clear HT
            refine aReg ?_
            refine sp pAd ?_
            refine sp pM ?_
            refine oNil ?_
            refine ⟨(i + 1, _, _, _, _), ?_, by (try dsimp only); omega, ⟨gInt rfl (by first | rfl | omega | simp), rfl, rfl, rfl, rfl, rfl, trivial⟩, _, (by repeat constructor)⟩
            first
              | exact ⟨by omega, hk, I.skip hlA hsA hpe (.inl (by assumption)), K, by omega, hm⟩
              | exact ⟨by omega, hk, I.skip hlA hsA hpe (.inr (by assumption)), K, by omega, hm⟩
              | (have hnd : DF dm a.t = false := by assumption
                 obtain ⟨q1, q2, q3, q4⟩ := better_step I hal.1 (by rw [hal.2]; exact hn) hpe (by assumption) hnd (by rw [hop.1, hop.2]; first | rw [if_pos (by assumption)] | rw [if_neg (by assumption)]) K hB
                 exact ⟨by omega, hk2, q1, q2, by omega, by rw [q4 n (fun e => by rw [e, hnd] at hn; cases hn)]; exact hm⟩)
    · skip
      refine aExit rfl ?_
      refine ⟨_, [.box wb [.int r, .v (.map (some kb)), .v (.map (some db)), .v (.pointer (some ⟨hb, 0, none⟩))], .map kb (kvM rtA (km)), .map db (kvM boA dm), .box hb [.v (slV g (h).length c)], .sl g c 162 2 ((h).map spC)], _, rfl, (.cons (by repeat constructor) (.cons (by repeat constructor) (.cons (by repeat constructor) (.cons (by repeat constructor) (.cons (by repeat constructor) .nil))))), km, g, c, h, rfl, rfl, hk, I.pend (fun a ha e => ?_), K, by omega⟩
      rw [List.drop_of_length_le (by omega)] at e
      simp at e
end A
end Go.Proofs.Ytmcannmjielalaa
set_option linter.unusedVariables false
set_option linter.unusedSimpArgs false
namespace Go.Proofs.Ytmcannmjielalaa
namespace A
theorem el_41 : elemOf Try.prog 41 = some (49, 3, 24) := by kernel_rfl
theorem mo_156 : mapOf Try.prog 156 = some (3, 22) := by kernel_rfl
theorem sl_41 : isSl Try.prog 41 = true := by kernel_rfl
theorem st_164 : structPlaces Try.prog 164 = some [(0, 1), (1, 1), (2, 1), (3, 1)] := by kernel_rfl
theorem us_41 : Try.prog.underlying 41 = some (.slice 49) := by kernel_rfl
theorem ze_164 : zeroOf Try.prog 164 = some (.agg #[.int .i64 0, .map none, .map none, .pointer none]) := by kernel_rfl
theorem ze_22 : zeroOf Try.prog 22 = some (.slice none 0 0) := by kernel_rfl
theorem DInv.perm {l : List Arc} {r : Int} {known : Int → Option (Int × Int)} {done : Int → Bool} {hp hp' : List (Int × Int)} {pend : Arc → Prop} (I : DInv l r known done hp pend) (h : hp.Perm hp') : DInv l r known done hp' pend :=
  ⟨I.k1, I.d1, I.d2, fun v p a b => h.mem_iff.1 (I.h1 v p a b), fun a => h.mem_iff.1 (I.hr a), fun c v a => I.h2 c v (h.mem_iff.2 a)⟩
def cntA (l : List Arc) (D : Int → Bool) : Nat := (l.filter fun a => !D a.f).length
theorem cntA_done : ∀ {l : List Arc} {D : Int → Bool} {n : Int}, D n = false → cntA l D = cntA l (updF D n true) + (l.filter fun a => a.f == n).length
  | [], _, _, _ => rfl
  | a :: l, D, n, h => by
    have ih := cntA_done (l := l) h
    unfold cntA at *
    simp only [List.filter_cons]
    by_cases e : a.f = n
    · have h1 : updF D n true a.f = true := by rw [e, updF_same]
      rw [e, h] at *
      simp [h1, updF_same]
      omega
    · have h1 : updF D n true a.f = D a.f := updF_ne _ _ e
      have h2 : (a.f == n) = false := by simpa using e
      rw [h1, h2]
      cases D a.f <;> simp <;> omega
def rKeys (l : List Arc) (r : Int) : List Int := ((List.range 65).map fun (i : Nat) => (i : Int)).filter fun v => decide (v ≠ r) && isF l r v
theorem rKeys_sorted (l : List Arc) (r : Int) : (rKeys l r).Pairwise (· < ·) := by
  refine List.Pairwise.sublist List.filter_sublist ?_
  rw [List.pairwise_map]
  exact List.pairwise_lt_range.imp (fun h => by omega)
theorem rKeys_mem {l : List Arc} (hl : ∀ a ∈ l, AOk a) {r v : Int} : v ∈ rKeys l r ↔ v ≠ r ∧ isF l r v = true := by
  unfold rKeys
  rw [List.mem_filter]
  simp only [Bool.and_eq_true, decide_eq_true_eq, List.mem_map, List.mem_range]
  refine ⟨fun h => h.2, fun h => ⟨?_, h⟩⟩
  rcases (isF_wk hl h.2).rng hl with e | e
  · exact absurd e h.1
  · exact ⟨v.toNat, by omega, by omega⟩
theorem rKeys_len (l : List Arc) (r : Int) : (rKeys l r).length ≤ 65 := by
  unfold rKeys
  refine Nat.le_trans (List.length_filter_le _ _) ?_
  simp
/-- What is known when all is done. -/
structure KEnd (l : List Arc) (r : Int) (km : List (Int × Rt)) : Prop where
  s : sortI (mKeys km) = rKeys l r
  g : ∀ n ∈ rKeys l r, (mGet km n).getD ⟨0, 0, 0⟩ = ⟨n, viaM l r n, dF l r n⟩
  n : km.length ≤ 65
theorem kend_of {l : List Arc} (hl : ∀ a ∈ l, AOk a) {r : Int} {km : List (Int × Rt)} {D : Int → Bool} (K : KI km) (I : DInv l r (kF km) D [] (fun _ => False)) : KEnd l r km := by
  have hk : ∀ v, v ∈ mKeys km ↔ v ∈ rKeys l r := fun v => by
    rw [rKeys_mem hl, ← mGet_mem]
    have h := I.done hl v
    unfold kF at h
    split at h
    · rename_i hc
      rw [Option.map_eq_some_iff] at h
      obtain ⟨x, hx, _⟩ := h
      simp [hx, hc]
    · rename_i hc
      rw [Option.map_eq_none_iff] at h
      rw [h]
      simp only [Option.isSome_none, Bool.false_eq_true, false_iff]
      exact hc
  refine ⟨sortI_eq K.1 (rKeys_sorted l r) (fun x => hk x), fun n hn => ?_, mLen K.1 (n := 65) (fun x hx => ?_)⟩
  · have h := I.done hl n
    rw [if_pos ((rKeys_mem hl).1 hn)] at h
    unfold kF at h
    rw [Option.map_eq_some_iff] at h
    obtain ⟨x, hx, he⟩ := h
    rw [hx, Option.getD_some]
    have h1 := K.2 n x hx
    obtain ⟨x1, x2, x3⟩ := x
    simp only [Prod.mk.injEq] at he h1
    rw [h1, he.1, he.2]
  · have h := (rKeys_mem hl).1 ((hk x).1 hx)
    rcases (isF_wk hl h.2).rng hl with e | e
    · exact absurd e h.1
    · omega
/-- The next one is taken. -/
theorem loop_next {l : List Arc} {r : Int} {K : Int → Option (Int × Int)} {D : Int → Bool} {h h3 : List (Int × Int)} {x2 : Int × Int} {q2 : Bool} (J : DInv l r K D h (fun _ => False)) (hq0 : q2 = false → h = [] ∧ h3 = []) (hq1 : q2 = true → h.Perm (x2 :: h3) ∧ ∀ e ∈ h, x2.1 ≤ e.1) :
    (q2 = true → DInv l r K D (x2 :: h3) (fun _ => False) ∧ ∀ e ∈ x2 :: h3, x2.1 ≤ e.1) ∧ (q2 = false → DInv l r K D [] (fun _ => False)) :=
  ⟨fun e => ⟨J.perm (hq1 e).1, fun y hy => (hq1 e).2 y ((hq1 e).1.mem_iff.2 hy)⟩, fun e => by have := hq0 e; rw [this.1] at J; exact J⟩
def bI (q : Bool) : Nat := if q then 1 else 0
theorem take_len {h h3 : List (Int × Int)} {x2 : Int × Int} {q2 : Bool} (hq0 : q2 = false → h = [] ∧ h3 = []) (hq1 : q2 = true → h.Perm (x2 :: h3) ∧ ∀ e ∈ h, x2.1 ≤ e.1) : h3.length + bI q2 = h.length := by
  cases q2 with
  | false => rw [(hq0 rfl).1, (hq0 rfl).2]; rfl
  | true => rw [(hq1 rfl).1.length_eq]; simp [bI]
/- spf.Routes -/
def spf_Routes_r7_T : Bool × List (List Nat × List Nat) := (true, [([], []), ([], []), ([1], [1]), ([], []), ([], []), ([4], [4]), ([3, 5], [3, 5]), ([], []), ([7], [7]), ([6, 8], [6, 8]), ([0, 2, 9, 9, 0, 1, 2, 3, 4, 5, 6, 7, 8, 9], [0, 2, 9])])
def spf_Routes_r7_B : List Nat := [0, 0, 2, 0, 0, 16, 56, 0, 128, 504, 1023]
theorem spf_Routes_r7_t : Go.Proofs.YtmcannmjielalaaW.PrintLast.rtab .any (Go.Proofs.YtmcannmjielalaaW.PrintLast.opsOf Try.f43 7) = spf_Routes_r7_T := by kernel_rfl
theorem spf_Routes_r7_b : Go.Proofs.YtmcannmjielalaaW.PrintLast.waitsOk spf_Routes_r7_T.2 spf_Routes_r7_B = true := by kernel_rfl
def spf_Routes_r13_T : Bool × List (List Nat × List Nat) := (true, [([], []), ([0], [0]), ([1], [1]), ([2], [2]), ([], []), ([4], [4]), ([3, 5], [3, 5]), ([6], [6])])
def spf_Routes_r13_B : List Nat := [0, 1, 3, 7, 0, 16, 63, 127]
theorem spf_Routes_r13_t : Go.Proofs.YtmcannmjielalaaW.PrintLast.rtab .any (Go.Proofs.YtmcannmjielalaaW.PrintLast.opsOf Try.f43 13) = spf_Routes_r13_T := by kernel_rfl
theorem spf_Routes_r13_b : Go.Proofs.YtmcannmjielalaaW.PrintLast.waitsOk spf_Routes_r13_T.2 spf_Routes_r13_B = true := by kernel_rfl
def spf_Routes_r14_T : Bool × List (List Nat × List Nat) := (true, [([], []), ([0], [0]), ([1], [1]), ([2], [2]), ([], []), ([4], [4]), ([3, 5, 0, 1, 2, 3, 4, 5], [3, 5])])
def spf_Routes_r14_B : List Nat := [0, 1, 3, 7, 0, 16, 63]
theorem spf_Routes_r14_t : Go.Proofs.YtmcannmjielalaaW.PrintLast.rtab .any (Go.Proofs.YtmcannmjielalaaW.PrintLast.opsOf Try.f43 14) = spf_Routes_r14_T := by kernel_rfl
theorem spf_Routes_r14_b : Go.Proofs.YtmcannmjielalaaW.PrintLast.waitsOk spf_Routes_r14_T.2 spf_Routes_r14_B = true := by kernel_rfl
set_option maxRecDepth 100000 in
set_option maxHeartbeats 8000000 in
theorem spf_Routes {l : List Arc} {r : Int} (hll : l.length ≤ 400000 := by omega) : Triple Try.prog 43 [.sl 3 (l.map arcC), .int r] [] (Own 49 3 ((if arcsB none l then routesM l r else []).map rtC) []) := by
  refine triple_of Try.func43 rfl (by kernel_rfl) rfl (by simp) ?_
  refine aSeq ?_
  refine aReg ?_
  refine sp pMa ?_
  refine oNil ?_
  refine aSeq ?_
  refine aSeq ?_
  refine aReg ?_
  refine sp pM ?_
  refine sq ?_
  refine cv rfl rfl rfl (lents_refl _) graph_Check ?_
  refine sp pB ?_
  refine oNil ?_
  refine aCondNe rfl (fun c16 => ?_) (fun c16 => ?_)
  · skip
    refine aSeq ?_
    refine aWeak (weak_nil 49 3) ?_
    refine aReg ?_
    refine sp pMa ?_
    refine oNil ?_
    refine aRet ?_
    refine finOwn rfl ?_
    have hno : arcsB none l = false := by cases h : arcsB none l <;> simp_all
    rw [hno]
    rfl
  · skip
    refine aSkip ?_
    refine aSeq ?_
    have hyes : arcsB none l = true := by cases h : arcsB none l <;> simp_all
    have hlA := arcs_ok hyes
    have hsA := arcsB_sorted hyes
    refine aReg ?_
    refine sq ?_
    refine qMakeMap rfl rfl (by decide) (fun b17 => ?_)
    refine sp pMa ?_
    refine oNil ?_
    refine aSeq ?_
    refine aSeq ?_
    refine aReg ?_
    refine sp pM ?_
    refine sp (by first | exact pLm sl_22 | exact pLs sl_22) ?_
    refine sp pM ?_
    refine oNil ?_
    refine aBlock ?_
    refine aLoopI (α := Nat × List (Int × SlE Arc)) (fun (i, m) => i ≤ l.length ∧ ∀ k, (slAt m k).l = (l.take i).filter fun a => a.f == k) (fun (i, m) => ([(1, .int r), (5, .v (.map (some b17))), (18, .sl 3 (l.map arcC)), (19, .int l.length), (20, .int i)], .map b17 (kvM slE m) :: msH 36 3 arcC m)) (fun (i, m) => l.length - i) (0, []) ?_ ?_ ?_
    · skip
      exact ⟨by omega, fun k => by simp [slAt, mGet, sl0]⟩
    · skip
      exact weak_env ⟨rfl, rfl, rfl, gInt rfl (by simp), rfl, trivial⟩
    · rintro ⟨i, m⟩ ⟨hi, hM⟩
      skip
      refine aSeq ?_
      refine aReg ?_
      refine sp pB ?_
      refine oNil ?_
      refine aSeq ?_
      refine aCondDec rfl (fun c21 => ?_) (fun c21 => ?_)
      · skip
        refine aSkip ?_
        refine aSeq ?_
        refine aBlock ?_
        refine aSeq ?_
        obtain ⟨a, ha⟩ : ∃ a, l[i]? = some a := ⟨_, List.getElem?_eq_getElem (by omega)⟩
        refine aReg ?_
        first | refine sp (pIx es_22) ?_ | (refine obtSN 18 20 rfl rfl (by omega) (fun x22 hx22 => ?_); refine sp (pIs es_22 hx22) ?_) | (refine obtS 18 20 rfl rfl (by omega) (by omega) (fun x22 hx22 => ?_); refine sp (pIs es_22 hx22) ?_) | refine sp (pIo es_22) ?_
        refine sr (by first | exact rSW ty_36 rfl | exact rSA ty_36 | exact rBWa ty_36 | exact rBW ty_36 | exact rBA ty_36 | exact rArA ty_36 (fun _ => rfl)) ?_
        refine sq ?_
        refine qAlloc rfl rfl (by decide) ze_36 rfl (fun b7 => ?_)
        refine sa ?_
        refine oStW rfl rfl rfl rfl (by repeat constructor) ty_36 ?_
        refine oNil ?_
        have hsl : (slAt m a.f).l.length ≤ 1000000 := by rw [hM]; have := filter_len (p := fun b : Arc => b.f == a.f) (l := l) (i := i); omega
        refine aWeak (weak_takeS (h0 := [_, _]) a.f) ?_
        dsimp only [List.cons_append, List.nil_append]
        refine aDrawS (h1 := [.box b7 _, .map b17 _]) spf_Routes_r7_t spf_Routes_r7_b [10] 11 #[false, false, false, false, false, false, false, false, false, false, false] (by kernel_rfl) rfl rfl (.cons (by repeat constructor) (.cons (by repeat constructor) .nil)) (fun HT => ?_)
        refine ep HT 0 rfl pM ?_
        refine ep HT 1 rfl (pFb fd_36_0) ?_
        refine er HT 2 rfl (rB1 ty_3) ?_
        refine ep HT 3 rfl pM ?_
        refine ep HT 4 rfl (pFb fd_36_0) ?_
        refine er HT 5 rfl (rB1 ty_3) ?_
        refine er HT 6 rfl (rMG mo_156 ze_22 (sl0 : SlE Arc) .refl) ?_
        refine er HT 7 rfl (by first | exact rBWa ty_36 | exact rBW ty_36 | exact rBA ty_36) ?_
        refine e1 HT 8 rfl ?_
        refine qLit (l := [_]) rfl rfl (by decide) us_22 ty_36 ze_36 rfl (by decide) (by decide) rfl rfl rfl (fun b32 => ?_)
        refine eOneS (i := 9) #[true, true, true, true, true, true, true, true, true, true, false] rfl (HT.one (by kernel_rfl)) (by decide) ?_
        · skip
          refine stA (hx := [.sl (slAt m a.f).g _ _ _ _, .sl (some b32) _ _ _ _]) (wantN rfl) (fun t ht => by cases ht <;> decide) (.cons (by repeat constructor) (.cons (by repeat constructor) .nil)) (by repeat constructor) ?_
          refine oAppT ([a] : List Arc) rfl rfl (by repeat constructor) (srcOwn rfl (by repeat constructor) rfl) el_22 sl_22 (fun g33 k33 => ?_)
          refine undel (d := 33) rfl ?_
          dsimp only [List.cons_append, List.nil_append]
          refine eLast ?_
          refine f1 HT 10 rfl ?_
          refine oMP (c := slE) (v := ⟨g33, k33, (slAt m a.f).l ++ [a]⟩) rfl rfl rfl rfl mo_156 ?_
          refine fE HT ?_
          clear HT
          refine aReg ?_
          refine sp pAd ?_
          refine sp pM ?_
          refine oNil ?_
          refine ⟨(i + 1, mPut m a.f ⟨g33, k33, (slAt m a.f).l ++ [a]⟩), ⟨by omega, fun k => ?_⟩, by show l.length - (i + 1) < l.length - i; omega, ?_⟩
          rotate_left
          · refine Weak.trans ?_ (weak_putS (h0 := [_]))
            exact weak_sub ⟨rfl, rfl, rfl, rfl, gInt rfl (by simp), trivial⟩ (.cons (by repeat constructor) (.cons (by repeat constructor) (tk_after (l := [_, _]))))
          rw [slAt_put, filter_take ha]
          by_cases e : k = a.f
          · subst e; simp [hM]
          · rw [if_neg e, hM, if_neg (by simpa using fun e' => e e'.symm), List.append_nil]
      · skip
        refine aExit rfl ?_
        refine aSeq ?_
        rw [take_all (by omega)] at hM
        refine aWeak weak_settleMS ?_
        refine aReg ?_
        refine sp pM ?_
        refine sq ?_
        refine qMakeMap rfl rfl (by decide) (fun b36 => ?_)
        refine sq ?_
        refine qMM boA rfl (fun b37 => ?_)
        refine sp pM ?_
        refine sp (pBuild rfl st_162 ze_162 rfl rfl rfl rfl) ?_
        refine sq ?_
        refine qLit (l := [_]) rfl rfl (by decide) us_261 ty_162 ze_162 rfl (by decide) (by decide) rfl rfl rfl (fun b40 => ?_)
        refine oWeak (weak_settle (k := 40) (es := [(0, r)].map spC) rfl .hd rfl) ?_
        refine sa ?_
        refine ca rfl rfl rfl (heap_New [(0, r)] (by simp)) ?_
        rintro _ _ ⟨hb, g, c, h, rfl, rfl, hk, hpm⟩
        refine sp (pBuild rfl st_164 ze_164 rfl rfl rfl rfl) ?_
        refine sq ?_
        refine qBox rfl rfl (by decide) rfl rfl (fun b43 => ?_)
        refine sp pMa ?_
        refine oNil ?_
        refine aSeq ?_
        refine aSeq ?_
        refine aReg ?_
        refine sp pM ?_
        refine sp pNv ?_
        refine sp (pFb fd_164_3) ?_
        refine sr (rB1 ty_159) ?_
        refine sa ?_
        refine ca rfl rfl rfl (heap_Take hb g c h hk (by have := hpm.length_eq; simp at this; omega)) ?_
        rintro _ _ ⟨x, q, h1, g1, c1, rfl, rfl, hk1, hq0, hq1⟩
        refine sp pM ?_
        refine sp pX ?_
        refine sp pX ?_
        refine sq ?_
        refine qAlloc rfl rfl (by decide) ze_162 rfl (fun b9 => ?_)
        refine sa ?_
        refine oStW rfl rfl rfl rfl (by repeat constructor) ty_162 ?_
        refine sp pMa ?_
        refine oNil ?_
        refine aBlock ?_
        refine loopF (α := List (Int × Rt) × List (Int × Bool) × (Int × Int) × Bool × Option Nat × Nat × List (Int × Int) × Nat) (kept := [(5, _), (8, _)]) (fun (km, dm, x, q, g, c, h, b) => HeapOk h ∧ KI km ∧ (q = true → DInv l r (kF km) (DF dm) (x :: h) (fun _ => False) ∧ ∀ e ∈ x :: h, x.1 ≤ e.1) ∧ (q = false → DInv l r (kF km) (DF dm) [] (fun _ => False)) ∧ h.length + bI q + cntA l (DF dm) ≤ l.length + 1) (fun (km, dm, x, q, g, c, h, b) => [(9, .v (.pointer (some ⟨b, 0, none⟩))), (10, .v (.bool q))]) (fun (km, dm, x, q, g, c, h, b) => [.box b43 [.int r, .v (.map (some b36)), .v (.map (some b37)), .v (.pointer (some ⟨hb, 0, none⟩))], .map b36 (kvM rtA (km)), .map b37 (kvM boA (dm)), .box hb [.v (slV g (h).length c)], .sl g c 162 2 ((h).map spC), .box b (spC x)]) (fun (km, dm, x, q, g, c, h, b) => h.length + bI q + cntA l (DF dm)) ([], [], x, q, g1, c1, h1, b9) ?_ ⟨rfl, rfl, rfl, rfl, trivial⟩ (by repeat constructor) ?_
        · skip
          have hN : DInv l r (kF []) (DF []) h (fun _ => False) := (dinv_new l r).perm hpm.symm
          have hnx := loop_next hN hq0 hq1
          have htl := take_len hq0 hq1
          have hpl := hpm.length_eq
          simp at hpl
          exact ⟨hk1, ⟨by simp [mKeys], fun v x hx => by simp [mGet] at hx⟩, hnx.1, hnx.2, by have : cntA l (DF []) ≤ l.length := List.length_filter_le _ _; omega⟩
        · rintro ⟨km, dm, x, q, g, c, h, b⟩ ⟨hk, K, hQ1, hQ0, hB⟩
          refine aSeq ?_
          refine aSeq ?_
          refine aReg ?_
          refine sp pM ?_
          refine oNil ?_
          refine aCond rfl (fun c52 => ?_) (fun c52 => ?_)
          · skip
            refine aSkip ?_
            refine aSeq ?_
            refine aBlock ?_
            refine aSeq ?_
            obtain ⟨I, hmin⟩ := hQ1 (by assumption)
            refine aDrawT spf_Routes_r13_t spf_Routes_r13_b [] 8 #[false, false, false, false, false, false, false, false] (by kernel_rfl) rfl rfl (fun HT => ?_)
            refine dp HT 0 rfl pM ?_
            refine dp HT 1 rfl pNv ?_
            refine dp HT 2 rfl (pFb fd_164_2) ?_
            refine dr HT 3 rfl (rB1 ty_144) ?_
            refine dp HT 4 rfl (by first | exact pFb fd_162_1 | exact pFs fd_162_1) ?_
            refine dr HT 5 rfl (by first | exact rS1 ty_3 | exact rB1 ty_3 | exact rAr ty_3 | exact rArL ty_3 | exact rArR2 ty_3) ?_
            refine dr HT 6 rfl (rMGb mo_144 ze_4) ?_
            refine dp HT 7 rfl pNo ?_
            refine dE HT ?_
            clear HT
            refine aCondNot rfl (fun c68 => ?_) (fun c68 => ?_)
            · skip
              refine aSeq ?_
              refine aDrawT spf_Routes_r14_t spf_Routes_r14_b [6] 7 #[false, false, false, false, false, false, false] (by kernel_rfl) rfl rfl (fun HT => ?_)
              refine dp HT 0 rfl pM ?_
              refine dp HT 1 rfl pNv ?_
              refine dp HT 2 rfl (pFb fd_164_2) ?_
              refine dr HT 3 rfl (rB1 ty_144) ?_
              refine dp HT 4 rfl (by first | exact pFb fd_162_1 | exact pFs fd_162_1) ?_
              refine dr HT 5 rfl (by first | exact rS1 ty_3 | exact rB1 ty_3 | exact rAr ty_3 | exact rArL ty_3 | exact rArR2 ty_3) ?_
              refine dGo ?_
              refine eLast ?_
              refine f1 HT 6 rfl ?_
              first | refine oMP rfl rfl rfl rfl mo_144 ?_ | refine oMapSet rfl rfl rfl rfl rfl (by repeat constructor) mo_144 ?_
              refine fE HT ?_
              clear HT
              refine aReg ?_
              refine sp pM ?_
              refine sp pM ?_
              refine sp (by first | exact pFb fd_162_1 | exact pFs fd_162_1) ?_
              refine sr (by first | exact rS1 ty_3 | exact rB1 ty_3 | exact rAr ty_3 | exact rArL ty_3 | exact rArR2 ty_3) ?_
              refine sr (rMG (c := slS 3 arcC) mo_156 ze_22 ([] : List Arc) cast_nil) ?_
              rw [show slS 3 arcC ((mGet (msL m) x.2).getD []) = .sl 3 ((l.filter fun a => a.f == x.2).map arcC) by rw [← hM x.2, msL_get, slAt]; cases mGet m x.2 <;> rfl]
              refine sp (by first | exact pFb fd_162_1 | exact pFs fd_162_1) ?_
              refine sr (by first | exact rS1 ty_3 | exact rB1 ty_3 | exact rAr ty_3 | exact rArL ty_3 | exact rArR2 ty_3) ?_
              have hnd : DF dm x.2 = false := by assumption
              have Itk : DInv l r (kF km) (DF (mPut dm x.2 true)) h (fun a => a.f = x.2) := by rw [DF_put]; exact I.take hlA hsA (.refl _) hmin hnd
              have hcnt := cntA_done (l := l) hnd
              rw [← DF_put (b := true)] at hcnt
              refine sa ?_
              refine ca rfl rfl rfl (spf_spread hlA hsA (by omega) b43 b36 b37 hb km (mPut dm x.2 true) g c h x.2 (l.filter fun a => a.f == x.2) rfl hk (by omega) Itk (by rw [DF_put, updF_same]) K) ?_
              rintro _ _ ⟨km', g', c', h', rfl, rfl, hk', I', K', hl'⟩
              refine oNil ?_
              refine aSeq ?_
              refine aSeq ?_
              refine aReg ?_
              refine sr (by first | exact rSW ty_162 rfl | exact rSA ty_162 | exact rBWa ty_162 | exact rBW ty_162 | exact rBA ty_162 | exact rArA ty_162 (fun _ => rfl)) ?_
              refine oNil ?_
              refine aReg ?_
              refine sq ?_
              refine qAlloc rfl rfl (by decide) ze_162 rfl (fun b9 => ?_)
              refine sa ?_
              refine oStW rfl rfl rfl rfl (by repeat constructor) ty_162 ?_
              refine oNil ?_
              refine aReg ?_
              refine sp pM ?_
              refine sp pNv ?_
              refine sp (pFb fd_164_3) ?_
              refine sr (rB1 ty_159) ?_
              refine sa ?_
              first | refine ca rfl rfl rfl (heap_Take hb g' c' h' hk' (by omega)) ?_ | refine ca rfl rfl rfl (heap_Take hb g c h hk (by omega)) ?_
              rintro _ _ ⟨x2, q2, h3, g3, c3, rfl, rfl, hk3, hq0', hq1'⟩
              have hlt := take_len hq0' hq1'
              refine sp pM ?_
              refine sp pX ?_
              refine sp pX ?_
              refine sa ?_
              refine oStW rfl rfl rfl rfl (by repeat constructor) ty_162 ?_
              refine sp pMa ?_
              refine oNil ?_
              have hbq : bI q = 1 := by rw [show q = true by assumption]; rfl
              first
                | (refine ⟨(km', mPut dm x.2 true, x2, q2, g3, c3, h3, _), ?_, by (try dsimp only); omega, ⟨rfl, rfl, rfl, rfl, trivial⟩, _, (by repeat constructor)⟩
                   have hnx := loop_next I' hq0' hq1'
                   exact ⟨hk3, K', hnx.1, hnx.2, by omega⟩)
                | (refine ⟨(km, dm, x2, q2, g3, c3, h3, _), ?_, by (try dsimp only); omega, ⟨rfl, rfl, rfl, rfl, trivial⟩, _, (by repeat constructor)⟩
                   have hdn : DF dm x.2 = true := by assumption
                   have hnx := loop_next (I.old (.refl _) hdn) hq0' hq1'
                   exact ⟨hk3, K, hnx.1, hnx.2, by omega⟩)
            · skip
              refine aSkip ?_
              refine aSeq ?_
              refine aSeq ?_
              refine aReg ?_
              refine sr (by first | exact rSW ty_162 rfl | exact rSA ty_162 | exact rBWa ty_162 | exact rBW ty_162 | exact rBA ty_162 | exact rArA ty_162 (fun _ => rfl)) ?_
              refine oNil ?_
              refine aReg ?_
              refine sq ?_
              refine qAlloc rfl rfl (by decide) ze_162 rfl (fun b9 => ?_)
              refine sa ?_
              refine oStW rfl rfl rfl rfl (by repeat constructor) ty_162 ?_
              refine oNil ?_
              refine aReg ?_
              refine sp pM ?_
              refine sp pNv ?_
              refine sp (pFb fd_164_3) ?_
              refine sr (rB1 ty_159) ?_
              refine sa ?_
              first | refine ca rfl rfl rfl (heap_Take hb g' c' h' hk' (by omega)) ?_ | refine ca rfl rfl rfl (heap_Take hb g c h hk (by omega)) ?_
              rintro _ _ ⟨x2, q2, h3, g3, c3, rfl, rfl, hk3, hq0', hq1'⟩
              have hlt := take_len hq0' hq1'
              refine sp pM ?_
              refine sp pX ?_
              refine sp pX ?_
              refine sa ?_
              refine oStW rfl rfl rfl rfl (by repeat constructor) ty_162 ?_
              refine sp pMa ?_
              refine oNil ?_
              have hbq : bI q = 1 := by rw [show q = true by assumption]; rfl
              first
                | (refine ⟨(km', mPut dm x.2 true, x2, q2, g3, c3, h3, _), ?_, by (try dsimp only); omega, ⟨rfl, rfl, rfl, rfl, trivial⟩, _, (by repeat constructor)⟩
                   have hnx := loop_next I' hq0' hq1'
                   exact ⟨hk3, K', hnx.1, hnx.2, by omega⟩)
                | (refine ⟨(km, dm, x2, q2, g3, c3, h3, _), ?_, by (try dsimp only); omega, ⟨rfl, rfl, rfl, rfl, trivial⟩, _, (by repeat constructor)⟩
                   have hdn : DF dm x.2 = true := by assumption
                   have hnx := loop_next (I.old (.refl _) hdn) hq0' hq1'
                   exact ⟨hk3, K, hnx.1, hnx.2, by omega⟩)
          · skip
            refine aExit rfl ?_
            refine aSeq ?_
            refine aReg ?_
            refine sp pMa ?_
            refine oNil ?_
            refine aSeq ?_
            refine aSeq ?_
            refine aWeak (weak_nil 49 3) ?_
            have hE := kend_of hlA K (hQ0 (by assumption))
            refine aReg ?_
            refine sp pM ?_
            refine sp pNv ?_
            refine sp (pFb fd_164_1) ?_
            refine sr (rB1 ty_158) ?_
            refine sa ?_
            refine ca rfl rfl rfl (keys_mir b36) ?_
            rintro _ _ ⟨pb, rfl, rfl⟩
            refine sa ?_
            refine cai rfl rfl rfl (sorted_int_s _ _ (kvM rtA km) _ (keys1_mir_iter b36 pb (kvM rtA km)) (by rw [kvM_len]; have := hE.n; omega)) ?_
            rw [kvM_keys, hE.s]
            have hkl := rKeys_len l r
            refine sp (by first | exact pLm sl_25 | exact pLs sl_25 | exact pLv sl_25) ?_
            refine sp pM ?_
            refine oNil ?_
            refine aBlock ?_
            refine loopF (α := Nat × List Rt × Option Nat × Nat) (kept := [(8, _), (89, _), (90, _)]) (fun (i, out, g, c) => i ≤ (rKeys l r).length ∧ out = ((rKeys l r).take i).map fun v => ⟨v, viaM l r v, dF l r v⟩) (fun (i, out, g, c) => [(91, .int i), (11, .v (slV g out.length c))]) (fun (i, out, g, c) => [.sl g c 49 3 (out.map rtC)]) (fun (i, out, g, c) => (rKeys l r).length - i) (0, [], _, _) ?_ ⟨gInt rfl (by first | rfl | omega | simp), gLen rfl (by first | rfl | simp | (simp; omega)), rfl, rfl, rfl, trivial⟩ (by repeat constructor) ?_
            · skip
              exact ⟨by omega, rfl⟩
            · rintro ⟨i, out, g, c⟩ ⟨hi, ho⟩
              refine aSeq ?_
              refine aReg ?_
              refine sp pB ?_
              refine oNil ?_
              refine aSeq ?_
              refine aCondDec rfl (fun c92 => ?_) (fun c92 => ?_)
              · skip
                refine aSkip ?_
                refine aSeq ?_
                refine aBlock ?_
                refine aSeq ?_
                obtain ⟨nn, hnn⟩ : ∃ n, (rKeys l r)[i]? = some n := ⟨_, List.getElem?_eq_getElem (by omega)⟩
                have hget := hE.g nn (List.mem_of_getElem? hnn)
                refine aReg ?_
                first | refine sp (pIx es_25) ?_ | (refine obtSN 89 91 rfl rfl (by omega) (fun x93 hx93 => ?_); refine sp (pIs es_25 hx93) ?_) | (refine obtS 89 91 rfl rfl (by omega) (by omega) (fun x93 hx93 => ?_); refine sp (pIs es_25 hx93) ?_) | refine sp (pIo es_25) ?_
                refine sr (by first | exact rS1 ty_3 | exact rB1 ty_3 | exact rAr ty_3 | exact rArL ty_3 | exact rArR2 ty_3) ?_
                refine sp pMa ?_
                refine oNil ?_
                have hol : out.length ≤ 65 := by rw [ho, List.length_map, List.length_take]; omega
                refine aReg ?_
                refine sp pM ?_
                refine sp pM ?_
                refine sp pNv ?_
                refine sp (pFb fd_164_1) ?_
                refine sr (rB1 ty_158) ?_
                refine sp pM ?_
                refine sr (rMG mo_158 ze_49 (⟨0, 0, 0⟩ : Rt) cast_rt) ?_
                rw [hget]
                refine sq ?_
                refine qLit (l := [_]) rfl rfl (by decide) us_41 ty_49 ze_49 rfl (by decide) (by decide) rfl rfl rfl (fun b102 => ?_)
                refine sa ?_
                refine oAppT ([⟨nn, viaM l r nn, dF l r nn⟩] : List Rt) rfl rfl (by repeat constructor) (srcOwn rfl (by repeat constructor) rfl) el_41 sl_41 (fun g103 k103 => ?_)
                refine sp pMa ?_
                refine oNil ?_
                refine aReg ?_
                refine sp pAd ?_
                refine sp pM ?_
                refine oNil ?_
                refine ⟨(i + 1, _, _, _), ?_, by (try dsimp only); omega, ⟨gInt rfl (by first | rfl | omega | simp), gLen rfl (by first | rfl | simp | (simp; omega)), rfl, rfl, rfl, trivial⟩, _, (by repeat constructor)⟩
                refine ⟨by omega, ?_⟩
                rw [take_step hnn, List.map_append, ← ho]
                rfl
              · skip
                refine aExit rfl ?_
                refine aSeq ?_
                refine aReg ?_
                refine sp pM ?_
                refine sp pMa ?_
                refine oNil ?_
                refine aRet ?_
                refine finOwn rfl ?_
                rw [hyes, ho, take_all (by omega)]
                rfl
end A
end Go.Proofs.Ytmcannmjielalaa
set_option linter.unusedVariables false
set_option linter.unusedSimpArgs false
namespace Go.Proofs.Ytmcannmjielalaa
namespace A
theorem ar_174 : arrOf Try.prog 174 = some (65, 130) := by kernel_rfl
theorem es_41 : elemSize Try.prog 41 = some 3 := by kernel_rfl
theorem ty_174 : tyOf Try.prog 174 = some (8450, true) := by kernel_rfl
theorem ua_174 : Try.prog.underlying 174 = some (.array 65 172) := by kernel_rfl
theorem ze_174 : zeroOf Try.prog 174 = some (.agg Try.zeroCells174) := by kernel_rfl
def dstB (l : List Arc) (a b : Int) : Bool := arcsB none l && isF l a b
def dstM (l : List Arc) (a b : Int) : Int := if dstB l a b then dF l a b else 0
def rtsM (l : List Arc) (r : Int) : List Rt := if arcsB none l then routesM l r else []
theorem spf_Routes_s {l : List Arc} {r : Int} (hll : l.length ≤ 400000 := by omega) : Triple Try.prog 43 [.sl 3 (l.map arcC), .int r] [] (Is (.sl 3 ((rtsM l r).map rtC)) []) := (spf_Routes (l := l) (r := r) hll).settle
theorem routesM_eq (l : List Arc) (r : Int) : routesM l r = (rKeys l r).map fun v => ⟨v, viaM l r v, dF l r v⟩ := rfl
theorem rtsM_len (l : List Arc) (r : Int) : (rtsM l r).length ≤ 65 := by
  unfold rtsM
  split
  · rw [routesM_eq, List.length_map]; exact rKeys_len l r
  · simp
theorem rtsM_mem {l : List Arc} {r : Int} {x : Rt} (h : x ∈ rtsM l r) : arcsB none l = true ∧ x.nd ≠ r ∧ isF l r x.nd = true ∧ x = ⟨x.nd, viaM l r x.nd, dF l r x.nd⟩ := by
  unfold rtsM at h
  split at h
  · rename_i hok
    rw [routesM_eq, List.mem_map] at h
    obtain ⟨v, hv, rfl⟩ := h
    have := (rKeys_mem (arcs_ok hok)).1 hv
    exact ⟨hok, this.1, this.2, rfl⟩
  · simp at h
theorem rtsM_of {l : List Arc} {r v : Int} (hok : arcsB none l = true) (h1 : v ≠ r) (h2 : isF l r v = true) : (⟨v, viaM l r v, dF l r v⟩ : Rt) ∈ rtsM l r := by
  unfold rtsM
  rw [if_pos hok, routesM_eq, List.mem_map]
  exact ⟨v, (rKeys_mem (arcs_ok hok)).2 ⟨h1, h2⟩, rfl⟩
theorem viaDrop {l : List Arc} {r v : Int} {j : Nat} {a : Arc} (h : l[j]? = some a) : (((l.drop j).find? (viaP l r v)).map (·.t)).getD 0 = if viaP l r v a then a.t else (((l.drop (j + 1)).find? (viaP l r v)).map (·.t)).getD 0 := by
  rw [drop_step h, List.find?_cons]
  cases viaP l r v a <;> rfl
theorem rts_step {l : List Arc} {r : Int} {n : Nat} : ((List.range (n + 1 + 1)).map fun (i : Nat) => (i : Int)).filter (fun v => decide (v ≠ r) && isF l r v) = ((List.range (n + 1)).map fun (i : Nat) => (i : Int)).filter (fun v => decide (v ≠ r) && isF l r v) ++ if decide (((n + 1 : Nat) : Int) ≠ r) && isF l r ((n + 1 : Nat) : Int) then [((n + 1 : Nat) : Int)] else [] := by
  rw [List.range_succ, List.map_append, List.filter_append]
  congr 1
  rw [List.map_singleton, List.filter_cons, List.filter_nil]
theorem isF_zero {l : List Arc} (hl : ∀ a ∈ l, AOk a) {r : Int} : isF l r 0 = false := by
  cases h : isF l r 0 with
  | false => rfl
  | true =>
    by_cases hr : 1 ≤ r ∧ r ≤ 64
    · rcases (isF_wk hl h).rng hl with e | e <;> omega
    · rw [isF_none hl hr] at h; cases h
theorem rts_zero {l : List Arc} (hl : ∀ a ∈ l, AOk a) {r : Int} : ((List.range (0 + 1)).map fun (i : Nat) => (i : Int)).filter (fun v => decide (v ≠ r) && isF l r v) = [] := by
  simp [isF_zero hl]
/-- The zero value of 65 distances. -/
def chkZ : List Value → Nat → Bool
  | [], k => k == 8450
  | x :: t, k => (match x with | .int .u64 0 => decide (k % 130 < 65) | .bool false => decide (65 ≤ k % 130) | _ => false) && chkZ t (k + 1)
def cellZ (k : Nat) : Value := if k % 130 < 65 then .int .u64 0 else .bool false
theorem chkZ_get : ∀ {l : List Value} {k : Nat}, chkZ l k = true → k + l.length = 8450 ∧ ∀ j, j < l.length → l[j]? = some (cellZ (k + j))
  | [], k, h => by simp [chkZ] at h; exact ⟨by simpa using h, fun j hj => by simp at hj⟩
  | x :: t, k, h => by
    simp only [chkZ, Bool.and_eq_true] at h
    obtain ⟨h1, h2⟩ := chkZ_get h.2
    refine ⟨by simp; omega, fun j hj => ?_⟩
    have hx : x = cellZ k := by
      have h3 := h.1
      unfold cellZ
      split at h3
      · rw [if_pos (by simpa using h3)]
      · rw [if_neg (by simp at h3; omega)]
      · cases h3
    cases j with
    | zero => simp [hx]
    | succ j =>
      have := h2 j (by simpa using hj)
      simp only [List.getElem?_cons_succ]
      rw [this, show k + 1 + j = k + (j + 1) by omega]
theorem distZ_get {j : Nat} (h : j < 130) : (distC ((fun _ => false, fun _ => 0) : DS))[j]? = some (.v (cellZ j)) := by
  unfold distC cellZ
  by_cases hj : j < 65
  · rw [List.getElem?_append_left (by rw [arrF_len one_len]; omega), if_pos (by omega)]
    have := arrF_get (c := fun x => [u64A x]) (n := 65) (m := j) (j := 0) (f := fun _ => (0 : Int)) one_len (by omega) (by omega)
    simpa using this
  · rw [List.getElem?_append_right (by rw [arrF_len one_len]; omega), if_neg (by omega), arrF_len one_len]
    have := arrF_get (c := fun x => [boA x]) (n := 65) (m := j - 65 * 1) (j := 0) (f := fun _ => false) one_len (by omega) (by omega)
    simpa using this
theorem allZ : Try.zeroCells174.toList.map AV.v = arrF 65 distC (fun (_ : Int) => ((fun _ => false, fun _ => 0) : DS)) := by
  have hc : chkZ Try.zeroCells174.toList 0 = true := by kernel_rfl
  obtain ⟨h1, h2⟩ := chkZ_get hc
  have hl : (arrF 65 distC (fun (_ : Int) => ((fun _ => false, fun _ => 0) : DS))).length = 8450 := by rw [arrF_len distC_len]
  apply List.ext_getElem?
  intro j
  by_cases hj : j < 8450
  · rw [List.getElem?_map, h2 j (by omega), Nat.zero_add]
    have := arrF_get (c := distC) (n := 65) (m := j / 130) (j := j % 130) (f := fun (_ : Int) => ((fun _ => false, fun _ => 0) : DS)) distC_len (by omega) (by omega)
    rw [show j / 130 * 130 + j % 130 = j by omega, distZ_get (by omega)] at this
    rw [this]
    unfold cellZ
    rw [show j % 130 % 130 = j % 130 by omega]
    rfl
  · rw [List.getElem?_eq_none (by rw [List.length_map]; omega), List.getElem?_eq_none (by omega)]
theorem upd_all {F : Int → DS} {l m : List Arc} {r : Int} {x : Arc} (h : ∀ a ∈ m, a.f = r → F a.t = bfD l a.t) (hx : x.f = r) : ∀ a ∈ m ++ [x], a.f = r → updF F x.t (bfD l x.t) a.t = bfD l a.t := fun a ha hf => by
  by_cases e : a.t = x.t
  · rw [e, updF_same]
  · rw [updF_ne _ _ e]
    rcases List.mem_append.1 ha with ha | ha
    · exact h a ha hf
    · rw [List.mem_singleton.1 ha] at e; exact absurd rfl e
/- waymarkref25.Routes -/
def ref25_Routes_r8_T : Bool × List (List Nat × List Nat) := (true, [([], []), ([], []), ([0, 1], [0, 1]), ([2], [2]), ([3], [3]), ([], []), ([], []), ([], []), ([6, 7], [6, 7]), ([8], [8]), ([9], [9]), ([5, 10], [5, 10]), ([4, 0, 1, 2, 3, 4, 5, 6, 7, 8, 9, 10, 11], [4]), ([12, 11, 11, 0, 1, 2, 3, 4, 5, 6, 7, 8, 9, 10, 11], [11, 12])])
def ref25_Routes_r8_B : List Nat := [0, 0, 3, 7, 15, 0, 0, 0, 192, 448, 960, 2016, 4095, 8191]
theorem ref25_Routes_r8_t : Go.Proofs.YtmcannmjielalaaW.PrintLast.rtab .any (Go.Proofs.YtmcannmjielalaaW.PrintLast.opsOf Try.f45 8) = ref25_Routes_r8_T := by kernel_rfl
theorem ref25_Routes_r8_b : Go.Proofs.YtmcannmjielalaaW.PrintLast.waitsOk ref25_Routes_r8_T.2 ref25_Routes_r8_B = true := by kernel_rfl
def ref25_Routes_r18_T : Bool × List (List Nat × List Nat) := (true, [([], []), ([], []), ([0, 1], [0, 1]), ([2], [2]), ([3], [3]), ([], []), ([4, 5], [4, 5]), ([6], [6]), ([7], [7]), ([7], [7]), ([9, 8, 7], [7, 8, 9]), ([10, 7], [7, 10]), ([7, 11], [7, 11]), ([12, 7], [12]), ([13], [13]), ([13], [13]), ([14, 15, 13], [13, 14, 15]), ([16, 13], [13, 16]), ([17, 13], [13, 17]), ([18, 13], [13, 18]), ([13], [13]), ([13], [13]), ([21, 20, 13], [13, 20, 21]), ([22, 13], [13, 22]), ([19, 23, 13, 13], [13, 19, 23]), ([13], [13]), ([13], [13]), ([26, 25, 13], [13, 25, 26]), ([27, 13], [13, 27]), ([24, 28, 13], [13, 24, 28]), ([13, 29], [13, 29])])
def ref25_Routes_r18_B : List Nat := [0, 0, 3, 7, 15, 0, 63, 127, 255, 255, 1023, 2047, 4095, 8191, 16383, 16383, 65535, 131071, 262143, 524287, 16383, 16383, 3162111, 7356415, 16777215, 16383, 16383, 100679679, 234897407, 536870911, 1073741823]
theorem ref25_Routes_r18_t : Go.Proofs.YtmcannmjielalaaW.PrintLast.rtab .any (Go.Proofs.YtmcannmjielalaaW.PrintLast.opsOf Try.f45 18) = ref25_Routes_r18_T := by kernel_rfl
theorem ref25_Routes_r18_b : Go.Proofs.YtmcannmjielalaaW.PrintLast.waitsOk ref25_Routes_r18_T.2 ref25_Routes_r18_B = true := by kernel_rfl
set_option maxRecDepth 100000 in
set_option maxHeartbeats 4000000 in
theorem ref25_Routes {l : List Arc} {r : Int} (hll : l.length ≤ 400000 := by omega) (hok : ∀ a ∈ l, AOk a) : Triple Try.prog 45 [.sl 3 (l.map arcC), .int r] [] (Own 49 3 ((routesM l r).map rtC) []) := by
  refine triple_of Try.func45 rfl (by kernel_rfl) rfl (by simp) ?_
  refine aSeq ?_
  refine aReg ?_
  refine sp pMa ?_
  refine oNil ?_
  refine aSeq ?_
  refine aReg ?_
  refine sq ?_
  refine qLit (l := []) rfl rfl (by decide) us_41 ty_49 ze_49 rfl (by decide) (by decide) rfl rfl rfl (fun b13 => ?_)
  refine sp pMa ?_
  refine oNil ?_
  refine aSeq ?_
  refine aReg ?_
  refine sp pM ?_
  refine sp pM ?_
  refine sq ?_
  refine ci rfl rfl rfl (ref25_From (l := l) (r := r) (by omega) hok) ?_
  refine sq ?_
  refine qAlloc rfl rfl (by decide) ze_172 rfl (fun b6 => ?_)
  refine sa ?_
  refine oStW (hn := distC_len _) (h1 := distC_one _) rfl rfl rfl rfl (by repeat constructor) ty_172 ?_
  rw [show avCells (.agg (distC (bfD l r))) = arrF 65 (fun x => [u64A x]) (bfD l r).2 ++ arrF 65 (fun x => [boA x]) (bfD l r).1 from rfl]
  refine oNil ?_
  refine aSeq ?_
  refine aReg ?_
  refine sp (pBuildA0 rfl ua_174 ty_172 ze_174 rfl) ?_
  refine sq ?_
  refine qAlloc rfl rfl (by decide) ze_174 rfl (fun b7 => ?_)
  refine sa ?_
  refine oStW rfl rfl rfl rfl (by repeat constructor) ty_174 ?_
  refine oNil ?_
  refine aSeq ?_
  refine aSeq ?_
  refine aWeak (weak_box (b := b7) (cs' := arrF 65 distC (fun (_ : Int) => ((fun _ => false, fun _ => 0) : DS))) (by repeat constructor) allZ) ?_
  refine aReg ?_
  refine sp pMa ?_
  refine oNil ?_
  refine aBlock ?_
  refine loopF (α := Nat × (Int → DS)) (kept := [(0, _), (1, _), (5, _), (6, _), (7, _)]) (fun (i, F) => i ≤ l.length ∧ ∀ a ∈ l.take i, a.f = r → F a.t = bfD l a.t) (fun (i, F) => [(8, .int i)]) (fun (i, F) => [.box b7 (arrF 65 distC F)]) (fun (i, F) => l.length - i) (0, (fun (_ : Int) => ((fun _ => false, fun _ => 0) : DS))) ?_ ⟨gInt rfl (by first | rfl | omega | simp), rfl, rfl, rfl, rfl, rfl, trivial⟩ (by repeat constructor) ?_
  · skip
    exact ⟨by omega, fun a ha => by simp at ha⟩
  · rintro ⟨i, F⟩ ⟨hi, hF⟩
    refine aSeq ?_
    refine aSeq ?_
    refine aReg ?_
    refine sp pM ?_
    refine sp pM ?_
    refine sp (by first | exact pLm sl_22 | exact pLs sl_22) ?_
    refine sp pB ?_
    refine oNil ?_
    refine aCondDec rfl (fun c21 => ?_) (fun c21 => ?_)
    · skip
      refine aSkip ?_
      refine aSeq ?_
      refine aBlock ?_
      refine aSeq ?_
      obtain ⟨x, hx⟩ : ∃ a, l[i]? = some a := ⟨_, List.getElem?_eq_getElem (by omega)⟩
      have hxk := hok x (List.mem_of_getElem? hx)
      unfold AOk at hxk
      refine aReg ?_
      refine sp pM ?_
      refine sp pM ?_
      first | refine sp (pIx es_22) ?_ | (refine obtSN 24 25 rfl rfl (by omega) (fun x26 hx26 => ?_); refine sp (pIs es_22 hx26) ?_) | (refine obtS 24 25 rfl rfl (by omega) (by omega) (fun x26 hx26 => ?_); refine sp (pIs es_22 hx26) ?_) | refine sp (pIo es_22) ?_
      refine sp (pFs fd_36_0) ?_
      refine sr (rS1 ty_3) ?_
      refine sp pM ?_
      refine sp pB ?_
      refine oNil ?_
      refine aCondEq rfl (fun c30 => ?_) (fun c30 => ?_)
      · skip
        refine aDrawT ref25_Routes_r8_t ref25_Routes_r8_b [13] 14 #[false, false, false, false, false, false, false, false, false, false, false, false, false, false] (by kernel_rfl) rfl rfl (fun HT => ?_)
        refine dp HT 0 rfl pM ?_
        refine dp HT 1 rfl pM ?_
        first | refine dp HT 2 rfl (pIx es_22) ?_ | (refine obtDN 31 32 rfl rfl (by omega) (fun x33 hx33 => ?_); refine dp HT 2 rfl (pIs es_22 hx33) ?_) | (refine obtD 31 32 rfl rfl (by omega) (by omega) (fun x33 hx33 => ?_); refine dp HT 2 rfl (pIs es_22 hx33) ?_) | refine dp HT 2 rfl (pIo es_22) ?_
        refine dp HT 3 rfl (pFs fd_36_1) ?_
        refine dr HT 4 rfl (rS1 ty_3) ?_
        refine dp HT 5 rfl pM ?_
        refine dp HT 6 rfl pM ?_
        refine dp HT 7 rfl pM ?_
        first | refine dp HT 8 rfl (pIx es_22) ?_ | (refine obtDN 37 38 rfl rfl (by omega) (fun x39 hx39 => ?_); refine dp HT 8 rfl (pIs es_22 hx39) ?_) | (refine obtD 37 38 rfl rfl (by omega) (by omega) (fun x39 hx39 => ?_); refine dp HT 8 rfl (pIs es_22 hx39) ?_) | refine dp HT 8 rfl (pIo es_22) ?_
        refine dp HT 9 rfl (pFs fd_36_1) ?_
        refine dr HT 10 rfl (rS1 ty_3) ?_
        refine dGo ?_
        refine e1 HT 11 rfl ?_
        refine ci rfl rfl rfl (ref25_From (l := l) (r := x.t) (by omega) hok) ?_
        refine ep HT 12 rfl (pIa ar_174) ?_
        refine eLast ?_
        refine f1 HT 13 rfl ?_
        refine oArA (c := distC) (v := bfD l x.t) (h1 := distC_one _) rfl rfl rfl (by repeat constructor) ty_172 distC_len ?_
        refine fE HT ?_
        clear HT
        refine aReg ?_
        refine sp pM ?_
        refine sp pAd ?_
        refine sp pMa ?_
        refine oNil ?_
        refine ⟨(i + 1, _), ?_, by (try dsimp only); omega, ⟨gInt rfl (by first | rfl | omega | simp), rfl, rfl, rfl, rfl, rfl, trivial⟩, _, (by repeat constructor)⟩
        dsimp only
        rw [take_step hx]
        first
          | (refine ⟨by omega, upd_all hF ?_⟩; assumption)
          | (refine ⟨by omega, fun a ha hf => ?_⟩
             rcases List.mem_append.1 ha with ha | ha
             · exact hF a ha hf
             · rw [List.mem_singleton.1 ha] at hf; exact absurd hf (by assumption))
      · skip
        refine aSkip ?_
        refine aReg ?_
        refine sp pM ?_
        refine sp pAd ?_
        refine sp pMa ?_
        refine oNil ?_
        refine ⟨(i + 1, _), ?_, by (try dsimp only); omega, ⟨gInt rfl (by first | rfl | omega | simp), rfl, rfl, rfl, rfl, rfl, trivial⟩, _, (by repeat constructor)⟩
        dsimp only
        rw [take_step hx]
        first
          | (refine ⟨by omega, upd_all hF ?_⟩; assumption)
          | (refine ⟨by omega, fun a ha hf => ?_⟩
             rcases List.mem_append.1 ha with ha | ha
             · exact hF a ha hf
             · rw [List.mem_singleton.1 ha] at hf; exact absurd hf (by assumption))
    · skip
      refine aExit rfl ?_
      refine aSeq ?_
      refine aSeq ?_
      rw [take_all (by omega)] at hF
      refine aReg ?_
      refine sp pMa ?_
      refine oNil ?_
      refine aBlock ?_
      refine loopF (α := Nat × List Rt × Option Nat × Nat) (kept := [(0, _), (1, _), (6, _), (7, _)]) (fun (n, out, g, c) => n ≤ 64 ∧ out = (((List.range (n + 1)).map fun (i : Nat) => (i : Int)).filter (fun v => decide (v ≠ r) && isF l r v)).map fun v => ⟨v, viaM l r v, dF l r v⟩) (fun (n, out, g, c) => [(9, .int ((n + 1 : Nat) : Int)), (5, .v (slV g out.length c))]) (fun (n, out, g, c) => [.sl g c 49 3 (out.map rtC)]) (fun (n, out, g, c) => 64 - n) (0, [], _, _) ?_ ⟨gInt rfl (by first | rfl | omega | simp), gLen rfl (by first | rfl | simp | (simp; omega)), rfl, rfl, rfl, rfl, trivial⟩ (by repeat constructor) ?_
      · skip
        exact ⟨by omega, by rw [rts_zero hok]; rfl⟩
      · rintro ⟨n, out, g, c⟩ ⟨hn, ho⟩
        refine aSeq ?_
        refine aSeq ?_
        refine aReg ?_
        refine sp pM ?_
        refine sp pB ?_
        refine oNil ?_
        refine aCondDec rfl (fun c45 => ?_) (fun c45 => ?_)
        · skip
          refine aSkip ?_
          refine aSeq ?_
          refine aBlock ?_
          refine aSeq ?_
          refine aSeq ?_
          refine aReg ?_
          refine sp pM ?_
          refine sp pM ?_
          refine sp pB ?_
          refine sp pM ?_
          refine oSplitEq 51 rfl (fun c51 => ?_) (fun c51 => ?_)
          · skip
            refine gf ?_
            refine gf ?_
            refine gf ?_
            refine gf ?_
            refine gf ?_
            refine sp pK ?_
            refine oNil ?_
            refine aCondT rfl ?_
            refine aExit rfl ?_
            refine aReg ?_
            refine sp pM ?_
            refine sp pAd ?_
            refine sp pMa ?_
            refine oNil ?_
            refine ⟨(n + 1, _, _, _), ?_, by (try dsimp only); omega, ⟨gInt rfl (by first | rfl | omega | simp), gLen rfl (by first | rfl | simp | (simp; omega)), rfl, rfl, rfl, rfl, trivial⟩, _, (by repeat constructor)⟩
            refine ⟨by omega, ?_⟩
            rw [rts_step, List.map_append, ← ho]
            first
              | (rw [if_neg (by simp_all [isF])]; simp; done)
              | (obtain rfl : j = 0 := by omega
                 rw [List.drop_zero] at hv
                 rw [if_pos (by simp_all [isF])]
                 rw [hv]
                 rfl)
          · skip
            refine gp pM ?_
            refine gp (pFb fd_172_1) ?_
            refine gp (pIa ar_170) ?_
            refine gr (by first | exact rAr ty_4 | exact rArL ty_4 | exact rArR2 ty_4 | exact rB1 ty_4) ?_
            refine gp pNo ?_
            refine sp pK ?_
            refine oNil ?_
            refine aCondNot rfl (fun c57 => ?_) (fun c57 => ?_)
            · skip
              refine aExit rfl ?_
              refine aReg ?_
              refine sp pM ?_
              refine sp pAd ?_
              refine sp pMa ?_
              refine oNil ?_
              refine ⟨(n + 1, _, _, _), ?_, by (try dsimp only); omega, ⟨gInt rfl (by first | rfl | omega | simp), gLen rfl (by first | rfl | simp | (simp; omega)), rfl, rfl, rfl, rfl, trivial⟩, _, (by repeat constructor)⟩
              refine ⟨by omega, ?_⟩
              rw [rts_step, List.map_append, ← ho]
              first
                | (rw [if_neg (by simp_all [isF])]; simp; done)
                | (obtain rfl : j = 0 := by omega
                   rw [List.drop_zero] at hv
                   rw [if_pos (by simp_all [isF])]
                   rw [hv]
                   rfl)
            · skip
              refine aSkip ?_
              refine aSeq ?_
              refine aReg ?_
              refine sp pMa ?_
              refine oNil ?_
              refine aSeq ?_
              refine aSeq ?_
              refine aReg ?_
              refine sp pM ?_
              refine sp (by first | exact pLm sl_22 | exact pLs sl_22) ?_
              refine sp pSu ?_
              refine sp pMa ?_
              refine oNil ?_
              refine aBlock ?_
              refine loopF (α := Nat × Int) (kept := [(0, _), (1, _), (5, _), (6, _), (7, _), (9, _)]) (fun (j, v) => j ≤ l.length ∧ v = (((l.drop j).find? (viaP l r ((n + 1 : Nat) : Int))).map (·.t)).getD 0) (fun (j, v) => [(11, .int ((j : Int) - 1)), (10, .int v)]) (fun (j, v) => []) (fun (j, v) => j) (l.length, 0) ?_ ⟨gInt rfl (by first | rfl | omega | simp), gInt rfl (by first | rfl | omega | simp), rfl, rfl, rfl, rfl, rfl, rfl, trivial⟩ (by repeat constructor) ?_
              · skip
                exact ⟨by omega, by simp⟩
              · rintro ⟨j, v⟩ ⟨hj, hv⟩
                refine aSeq ?_
                refine aSeq ?_
                refine aReg ?_
                refine sp pM ?_
                refine sp pB ?_
                refine oNil ?_
                refine aCondDec rfl (fun c62 => ?_) (fun c62 => ?_)
                · skip
                  refine aSkip ?_
                  refine aSeq ?_
                  refine aBlock ?_
                  refine aSeq ?_
                  obtain ⟨y, hy⟩ : ∃ y, l[j - 1]? = some y := ⟨_, List.getElem?_eq_getElem (by omega)⟩
                  have hy2 : l[((j : Int) - 1).toNat]? = some y := by rw [show ((j : Int) - 1).toNat = j - 1 by omega]; exact hy
                  have hyk := hok y (List.mem_of_getElem? hy)
                  unfold AOk at hyk
                  have hFy := hF y (List.mem_of_getElem? hy)
                  have hr1 : 0 ≤ (bfD l y.t).2 ((n + 1 : Nat) : Int) ∧ (bfD l y.t).2 ((n + 1 : Nat) : Int) ≤ 69793218560000000 := dF_range hok (by omega) y.t ((n + 1 : Nat) : Int)
                  have hvd := viaDrop (r := r) (v := ((n + 1 : Nat) : Int)) hy
                  refine aReg ?_
                  refine sp pM ?_
                  refine sp pM ?_
                  first | refine sp (pIx es_22) ?_ | (refine obtSN 65 66 rfl rfl (by omega) (fun x67 hx67 => ?_); refine sp (pIs es_22 hx67) ?_) | (refine obtS 65 66 rfl rfl (by omega) (by omega) (fun x67 hx67 => ?_); refine sp (pIs es_22 hx67) ?_) | refine sp (pIo es_22) ?_
                  refine sp (pFs fd_36_1) ?_
                  refine sr (rS1 ty_3) ?_
                  refine sp (pIa ar_174) ?_
                  refine sr (rArA ty_172 distC_len) ?_
                  refine sq ?_
                  refine qAlloc rfl rfl (by decide) ze_172 rfl (fun b12 => ?_)
                  refine sa ?_
                  refine oStW (hn := distC_len _) (h1 := distC_one _) rfl rfl rfl rfl (by repeat constructor) ty_172 ?_
                  rw [show avCells (.agg (distC (F y.t))) = arrF 65 (fun x => [u64A x]) (F y.t).2 ++ arrF 65 (fun x => [boA x]) (F y.t).1 from rfl]
                  refine oNil ?_
                  refine aSeq ?_
                  refine aDrawT ref25_Routes_r18_t ref25_Routes_r18_b [] 31 #[false, false, false, false, false, false, false, false, false, false, false, false, false, false, false, false, false, false, false, false, false, false, false, false, false, false, false, false, false, false, false] (by kernel_rfl) rfl rfl (fun HT => ?_)
                  refine dp HT 0 rfl pM ?_
                  refine dp HT 1 rfl pM ?_
                  first | refine dp HT 2 rfl (pIx es_22) ?_ | (refine obtDN 72 73 rfl rfl (by omega) (fun x74 hx74 => ?_); refine dp HT 2 rfl (pIs es_22 hx74) ?_) | (refine obtD 72 73 rfl rfl (by omega) (by omega) (fun x74 hx74 => ?_); refine dp HT 2 rfl (pIs es_22 hx74) ?_) | refine dp HT 2 rfl (pIo es_22) ?_
                  refine dp HT 3 rfl (pFs fd_36_0) ?_
                  refine dr HT 4 rfl (rS1 ty_3) ?_
                  refine dp HT 5 rfl pM ?_
                  refine dp HT 6 rfl pB ?_
                  refine dp HT 7 rfl pM ?_
                  refine dSplitEq 79 rfl (fun c79 => ?_) (fun c79 => ?_)
                  · skip
                    rw [hFy (by assumption)]
                    refine dpG HT 8 rfl pM ?_
                    refine dpG HT 9 rfl (pFb fd_172_1) ?_
                    refine dpG HT 10 rfl (pIa ar_170) ?_
                    refine drG HT 11 rfl (by first | exact rAr ty_4 | exact rArL ty_4 | exact rArR2 ty_4 | exact rB1 ty_4) ?_
                    refine dp HT 12 rfl pK ?_
                    refine dp HT 13 rfl pM ?_
                    refine dSplit 85 rfl (fun c85 => ?_) (fun c85 => ?_)
                    · skip
                      refine dpG HT 14 rfl pM ?_
                      refine dpG HT 15 rfl pM ?_
                      first | refine dpG HT 16 rfl (pIx es_22) ?_ | (refine obtDN 86 87 rfl rfl (by omega) (fun x88 hx88 => ?_); refine dpG HT 16 rfl (pIs es_22 hx88) ?_) | (refine obtD 86 87 rfl rfl (by omega) (by omega) (fun x88 hx88 => ?_); refine dpG HT 16 rfl (pIs es_22 hx88) ?_) | refine dpG HT 16 rfl (pIo es_22) ?_
                      refine dpG HT 17 rfl (pFs fd_36_2) ?_
                      refine drG HT 18 rfl (rS1 ty_3) ?_
                      refine dpG HT 19 rfl (by first | exact pCvK ik_3 ik_37 | exact pConv rfl rfl ik_3 ik_37 rfl) ?_
                      refine dpG HT 20 rfl pM ?_
                      refine dpG HT 21 rfl (pFb fd_172_0) ?_
                      refine dpG HT 22 rfl (pIa ar_169) ?_
                      refine drG HT 23 rfl (by first | exact rAr ty_37 | exact rArL ty_37 | exact rArR2 ty_37 | exact rB1 ty_37) ?_
                      refine dpG HT 25 rfl pM ?_
                      refine dpG HT 26 rfl (pFb fd_172_0) ?_
                      refine dpG HT 27 rfl (pIa ar_169) ?_
                      refine drG HT 28 rfl (by first | exact rAr ty_37 | exact rArL ty_37 | exact rArR2 ty_37 | exact rB1 ty_37) ?_
                      refine dGo ?_
                      refine e1G HT 24 rfl ?_
                      refine cv rfl rfl rfl (lents_refl _) (ref22_Add (by omega) (by omega) (by omega) (by omega)) ?_
                      rw [add_far (by omega)]
                      refine efG HT 29 rfl pB ?_
                      refine ef HT 30 rfl pK ?_
                      refine eE HT ?_
                      clear HT
                      refine aCondEq rfl (fun c102 => ?_) (fun c102 => ?_)
                      · skip
                        refine aReg ?_
                        refine sp pM ?_
                        refine sp pM ?_
                        first | refine sp (pIx es_22) ?_ | (refine obtSN 103 104 rfl rfl (by omega) (fun x105 hx105 => ?_); refine sp (pIs es_22 hx105) ?_) | (refine obtS 103 104 rfl rfl (by omega) (by omega) (fun x105 hx105 => ?_); refine sp (pIs es_22 hx105) ?_) | refine sp (pIo es_22) ?_
                        refine sp (pFs fd_36_1) ?_
                        refine sr (rS1 ty_3) ?_
                        refine sp pMa ?_
                        refine oNil ?_
                        refine aReg ?_
                        refine sp pM ?_
                        refine sp pSu ?_
                        refine sp pMa ?_
                        refine oNil ?_
                        refine ⟨(j - 1, _), ?_, by (try dsimp only); omega, ⟨gInt rfl (by first | rfl | omega | simp), gInt rfl (by first | rfl | omega | simp), rfl, rfl, rfl, rfl, rfl, rfl, trivial⟩, _, (by repeat constructor)⟩
                        rw [show j - 1 + 1 = j by omega] at hvd
                        refine ⟨by omega, ?_⟩
                        rw [hvd, ← hv]
                        first
                          | (rw [if_neg (by simp_all [viaP, isF, dF]; done)]; done)
                          | (rw [if_neg (by simp_all [viaP, isF, dF]; omega)]; done)
                          | (rw [if_pos (by simp_all [viaP, isF, dF]; done)]; done)
                          | (rw [if_pos (by simp_all [viaP, isF, dF]; omega)]; done)
                      · skip
                        refine aSkip ?_
                        refine aReg ?_
                        refine sp pM ?_
                        refine sp pSu ?_
                        refine sp pMa ?_
                        refine oNil ?_
                        refine ⟨(j - 1, _), ?_, by (try dsimp only); omega, ⟨gInt rfl (by first | rfl | omega | simp), gInt rfl (by first | rfl | omega | simp), rfl, rfl, rfl, rfl, rfl, rfl, trivial⟩, _, (by repeat constructor)⟩
                        rw [show j - 1 + 1 = j by omega] at hvd
                        refine ⟨by omega, ?_⟩
                        rw [hvd, ← hv]
                        first
                          | (rw [if_neg (by simp_all [viaP, isF, dF]; done)]; done)
                          | (rw [if_neg (by simp_all [viaP, isF, dF]; omega)]; done)
                          | (rw [if_pos (by simp_all [viaP, isF, dF]; done)]; done)
                          | (rw [if_pos (by simp_all [viaP, isF, dF]; omega)]; done)
                    · skip
                      refine dS HT 14 rfl ?_
                      refine dS HT 15 rfl ?_
                      refine dS HT 16 rfl ?_
                      refine dS HT 17 rfl ?_
                      refine dS HT 18 rfl ?_
                      refine dS HT 19 rfl ?_
                      refine dS HT 20 rfl ?_
                      refine dS HT 21 rfl ?_
                      refine dS HT 22 rfl ?_
                      refine dS HT 23 rfl ?_
                      refine dS HT 24 rfl ?_
                      refine dS HT 25 rfl ?_
                      refine dS HT 26 rfl ?_
                      refine dS HT 27 rfl ?_
                      refine dS HT 28 rfl ?_
                      refine dS HT 29 rfl ?_
                      refine dp HT 30 rfl pK ?_
                      refine dE HT ?_
                      clear HT
                      refine aCondF rfl ?_
                      refine aSkip ?_
                      refine aReg ?_
                      refine sp pM ?_
                      refine sp pSu ?_
                      refine sp pMa ?_
                      refine oNil ?_
                      refine ⟨(j - 1, _), ?_, by (try dsimp only); omega, ⟨gInt rfl (by first | rfl | omega | simp), gInt rfl (by first | rfl | omega | simp), rfl, rfl, rfl, rfl, rfl, rfl, trivial⟩, _, (by repeat constructor)⟩
                      rw [show j - 1 + 1 = j by omega] at hvd
                      refine ⟨by omega, ?_⟩
                      rw [hvd, ← hv]
                      first
                        | (rw [if_neg (by simp_all [viaP, isF, dF]; done)]; done)
                        | (rw [if_neg (by simp_all [viaP, isF, dF]; omega)]; done)
                        | (rw [if_pos (by simp_all [viaP, isF, dF]; done)]; done)
                        | (rw [if_pos (by simp_all [viaP, isF, dF]; omega)]; done)
                  · skip
                    refine dS HT 8 rfl ?_
                    refine dS HT 9 rfl ?_
                    refine dS HT 10 rfl ?_
                    refine dS HT 11 rfl ?_
                    refine dp HT 12 rfl pK ?_
                    refine dp HT 13 rfl pM ?_
                    refine dS HT 14 rfl ?_
                    refine dS HT 15 rfl ?_
                    refine dS HT 16 rfl ?_
                    refine dS HT 17 rfl ?_
                    refine dS HT 18 rfl ?_
                    refine dS HT 19 rfl ?_
                    refine dS HT 20 rfl ?_
                    refine dS HT 21 rfl ?_
                    refine dS HT 22 rfl ?_
                    refine dS HT 23 rfl ?_
                    refine dS HT 24 rfl ?_
                    refine dS HT 25 rfl ?_
                    refine dS HT 26 rfl ?_
                    refine dS HT 27 rfl ?_
                    refine dS HT 28 rfl ?_
                    refine dS HT 29 rfl ?_
                    refine dp HT 30 rfl pK ?_
                    refine dE HT ?_
                    clear HT
                    refine aCondF rfl ?_
                    refine aSkip ?_
                    refine aReg ?_
                    refine sp pM ?_
                    refine sp pSu ?_
                    refine sp pMa ?_
                    refine oNil ?_
                    refine ⟨(j - 1, _), ?_, by (try dsimp only); omega, ⟨gInt rfl (by first | rfl | omega | simp), gInt rfl (by first | rfl | omega | simp), rfl, rfl, rfl, rfl, rfl, rfl, trivial⟩, _, (by repeat constructor)⟩
                    rw [show j - 1 + 1 = j by omega] at hvd
                    refine ⟨by omega, ?_⟩
                    rw [hvd, ← hv]
                    first
                      | (rw [if_neg (by simp_all [viaP, isF, dF]; done)]; done)
                      | (rw [if_neg (by simp_all [viaP, isF, dF]; omega)]; done)
                      | (rw [if_pos (by simp_all [viaP, isF, dF]; done)]; done)
                      | (rw [if_pos (by simp_all [viaP, isF, dF]; omega)]; done)
                · skip
                  refine aExit rfl ?_
                  refine aReg ?_
                  refine sp pM ?_
                  refine sp pM ?_
                  refine sp pM ?_
                  refine sp pM ?_
                  refine sp (pFb fd_172_0) ?_
                  refine sp (pIa ar_169) ?_
                  refine sr (by first | exact rAr ty_37 | exact rArL ty_37 | exact rArR2 ty_37 | exact rB1 ty_37) ?_
                  refine sp (pBuild rfl st_49 ze_49 rfl rfl rfl rfl) ?_
                  refine sq ?_
                  refine qLit (l := [_]) rfl rfl (by decide) us_41 ty_49 ze_49 rfl (by decide) (by decide) rfl rfl rfl (fun b116 => ?_)
                  have hol : out.length ≤ 1000 := by
                    rw [ho, List.length_map]
                    refine Nat.le_trans (List.length_filter_le _ _) ?_
                    simp
                    omega
                  refine sa ?_
                  refine oAppT ([⟨((n + 1 : Nat) : Int), v, (bfD l r).2 ((n + 1 : Nat) : Int)⟩] : List Rt) rfl rfl (by repeat constructor) (srcOwn rfl (by repeat constructor) rfl) el_41 sl_41 (fun g117 k117 => ?_)
                  refine sp pMa ?_
                  refine oNil ?_
                  refine aReg ?_
                  refine sp pM ?_
                  refine sp pAd ?_
                  refine sp pMa ?_
                  refine oNil ?_
                  refine ⟨(n + 1, _, _, _), ?_, by (try dsimp only); omega, ⟨gInt rfl (by first | rfl | omega | simp), gLen rfl (by first | rfl | simp | (simp; omega)), rfl, rfl, rfl, rfl, trivial⟩, _, (by repeat constructor)⟩
                  refine ⟨by omega, ?_⟩
                  rw [rts_step, List.map_append, ← ho]
                  first
                    | (rw [if_neg (by simp_all [isF])]; simp; done)
                    | (obtain rfl : j = 0 := by omega
                       rw [List.drop_zero] at hv
                       rw [if_pos (by simp_all [isF])]
                       rw [hv]
                       rfl)
        · skip
          refine aExit rfl ?_
          refine aSeq ?_
          refine aReg ?_
          refine sp pM ?_
          refine sp pMa ?_
          refine oNil ?_
          refine aRet ?_
          refine finOwn rfl ?_
          obtain rfl : n = 64 := by omega
          rw [ho]
          rfl
end A
end Go.Proofs.Ytmcannmjielalaa
set_option linter.unusedVariables false
set_option linter.unusedSimpArgs false
namespace Go.Proofs.Ytmcannmjielalaa
namespace A
/-! ### The way hop by hop -/
def hopsF (l : List Arc) (td : Int) : Nat → Int → List Int
  | 0, v => [v]
  | k + 1, v => if v = td then [v] else v :: hopsF l td k (viaM l v td)
/-- A step of the way: an arc, and the distance falls by its cost. -/
theorem hop_step {l : List Arc} (hl : ∀ a ∈ l, AOk a) (hs : l.Pairwise ltA) {v td : Int} (h : isF l v td = true) (hne : td ≠ v) : ∃ a ∈ l, a.f = v ∧ a.t = viaM l v td ∧ isF l (viaM l v td) td = true ∧ a.c + dF l (viaM l v td) td = dF l v td := by
  obtain ⟨w, hw⟩ := fh_ex hl h hne
  have hv := viaM_is hl hs hw
  obtain ⟨a, ha, hf, ht, c, k, hc⟩ := hv.1
  have hok := hl a ha
  unfold AOk at hok
  have h1 := wk_isF hl (r := viaM l v td) (.inl (by omega)) k
  have h2 := wk_isF hl (r := v) (.inl (by omega)) (Wk.pre ha hf (by rw [ht]; exact isF_wk hl h1.1))
  exact ⟨a, ha, hf, ht, h1.1, by omega⟩
theorem isF_range {l : List Arc} (hl : ∀ a ∈ l, AOk a) {r v : Int} (h : isF l r v = true) : 1 ≤ r ∧ r ≤ 64 ∧ 1 ≤ v ∧ v ≤ 64 := by
  by_cases hr : 1 ≤ r ∧ r ≤ 64
  · rcases (isF_wk hl h).rng hl with e | e
    · omega
    · omega
  · rw [isF_none hl hr] at h; cases h
/-- What a way is: from node td node by arcs, nearer at each. -/
inductive HWay (l : List Arc) (td : Int) : Int → List Int → Prop
  | here : HWay l td td [td]
  | hop {v : Int} {a : Arc} {p : List Int} : a ∈ l → a.f = v → td ≠ v → isF l v td = true → a.c + dF l a.t td = dF l v td → HWay l td a.t p → HWay l td v (v :: p)
theorem hopsF_way {l : List Arc} (hl : ∀ a ∈ l, AOk a) (hs : l.Pairwise ltA) {td : Int} : ∀ (k : Nat) (v : Int) (L : List Int), isF l v td = true → L.Nodup → (∀ u ∈ L, 1 ≤ u ∧ u ≤ 64 ∧ dF l v td < dF l u td) → 64 ≤ L.length + k → HWay l td v (hopsF l td k v)
  | 0, v, L, h, hn, hL, hk => by
    have hr := isF_range hl h
    have h1 : (v :: L).Nodup := List.nodup_cons.2 ⟨fun hm => by have := (hL v hm).2.2; omega, hn⟩
    have h2 := nodup_len (l := (v :: L).map (· - 1)) (n := 64) (by
      rw [List.nodup_iff_pairwise_ne] at h1 ⊢
      rw [List.pairwise_map]
      exact h1.imp (fun h e => h (by omega))) (fun x hx => by
      obtain ⟨u, hu, rfl⟩ := List.mem_map.1 hx
      rcases List.mem_cons.1 hu with rfl | hu
      · omega
      · have := hL u hu; omega)
    simp at h2
    omega
  | k + 1, v, L, h, hn, hL, hk => by
    unfold hopsF
    by_cases e : v = td
    · rw [if_pos e, e]; exact .here
    · rw [if_neg e]
      obtain ⟨a, ha, hf, ht, hi, hd⟩ := hop_step hl hs h (fun e' => e e'.symm)
      have hok := hl a ha
      have hr := isF_range hl h
      unfold AOk at hok
      refine .hop ha hf (fun e' => e e'.symm) h (by rw [ht]; exact hd) ?_
      rw [ht]
      refine hopsF_way hl hs k _ (v :: L) hi (List.nodup_cons.2 ⟨fun hm => by have := (hL v hm).2.2; omega, hn⟩) (fun u hu => ?_) (by simp; omega)
      rcases List.mem_cons.1 hu with rfl | hu
      · exact ⟨by omega, by omega, by omega⟩
      · have := hL u hu; exact ⟨by omega, by omega, by omega⟩
theorem hops_way {l : List Arc} (hl : ∀ a ∈ l, AOk a) (hs : l.Pairwise ltA) {v td : Int} (h : isF l v td = true) : HWay l td v (hopsF l td 64 v) :=
  hopsF_way hl hs 64 v [] h .nil (fun u hu => by simp at hu) (by simp)
theorem HWay.lt {l : List Arc} (hl : ∀ a ∈ l, AOk a) {td v : Int} {p : List Int} (h : HWay l td v p) : (∀ u ∈ p, dF l u td ≤ dF l v td) ∧ p.Pairwise (fun a b => dF l b td < dF l a td) := by
  induction h with
  | here => simp
  | @hop v a p ha hf hne hi hd hp ih =>
    have hok := hl a ha
    unfold AOk at hok
    refine ⟨fun u hu => ?_, List.pairwise_cons.2 ⟨fun u hu => ?_, ih.2⟩⟩
    · rcases List.mem_cons.1 hu with rfl | hu
      · exact Int.le_refl _
      · have := ih.1 u hu; omega
    · have := ih.1 u hu; omega
theorem HWay.nodup {l : List Arc} (hl : ∀ a ∈ l, AOk a) {td v : Int} {p : List Int} (h : HWay l td v p) : p.Nodup :=
  (h.lt hl).2.imp (fun h e => by subst e; omega)
theorem HWay.ends {l : List Arc} {td v : Int} {p : List Int} (h : HWay l td v p) : p.head? = some v ∧ p.getLast? = some td := by
  induction h with
  | here => exact ⟨rfl, rfl⟩
  | @hop v a p ha hf hne hi hd hp ih =>
    refine ⟨rfl, ?_⟩
    rw [List.getLast?_cons, ih.2]
    rfl
/-- At each step: an arc, by whose cost the distance falls. -/
theorem HWay.arc {l : List Arc} {td v : Int} {p : List Int} (h : HWay l td v p) : ∀ (i : Nat) x y, p[i]? = some x → p[i + 1]? = some y → ∃ a ∈ l, a.f = x ∧ a.t = y ∧ a.c + dF l y td = dF l x td := by
  induction h with
  | here => intro i x y hx hy; simp at hy
  | @hop v a p ha hf hne hi hd hp ih =>
    intro i x y hx hy
    cases i with
    | zero =>
      simp at hx hy
      subst hx
      have he := hp.ends.1
      rw [List.head?_eq_getElem?] at he
      rw [he] at hy
      cases hy
      exact ⟨a, ha, hf, rfl, hd⟩
    | succ i =>
      exact ih i x y (by simpa using hx) (by simpa using hy)
end A
end Go.Proofs.Ytmcannmjielalaa
set_option linter.unusedVariables false
set_option linter.unusedSimpArgs false
namespace Go.Proofs.Ytmcannmjielalaa
namespace A
/-- A route's via: an arc goes to it, and the distance from it is less by what that costs. -/
theorem rts_via {l : List Arc} {r : Int} {x : Rt} (h : x ∈ rtsM l r) : ∃ a ∈ l, a.f = r ∧ a.t = x.via ∧ 1 ≤ a.c ∧ a.c ≤ 1073741824 ∧ dstB l x.via x.nd = true ∧ a.c + dstM l x.via x.nd = x.c := by
  obtain ⟨hok, h1, h2, h3⟩ := rtsM_mem h
  obtain ⟨a, ha, hf, ht, hi, hd⟩ := hop_step (arcs_ok hok) (arcsB_sorted hok) h2 h1
  have hak := arcs_ok hok a ha
  unfold AOk at hak
  have hv : x.via = viaM l r x.nd := congrArg Rt.via h3
  have hc : x.c = dF l r x.nd := congrArg Rt.c h3
  have hb : dstB l x.via x.nd = true := by unfold dstB; rw [hok, hv, hi]; rfl
  refine ⟨a, ha, hf, by rw [hv]; exact ht, hak.2.2.2.2.2.1, hak.2.2.2.2.2.2, hb, ?_⟩
  unfold dstM
  rw [hb, if_pos rfl, hc, hv]
  exact hd
end A
end Go.Proofs.Ytmcannmjielalaa
set_option linter.unusedVariables false
set_option linter.unusedSimpArgs false
namespace Go.Proofs.Ytmcannmjielalaa
namespace A
theorem refGet_mem {db : List Lsa} {n : Int} : refGet db n ∈ db ∨ refGet db n = ⟨0, 0, []⟩ := by
  unfold refGet
  cases hf : db.find? (fun l => l.o == n) with
  | none => exact .inr rfl
  | some x => exact .inl (List.mem_of_find?_eq_some hf)
theorem refGet_len {db : List Lsa} (hm : ∀ x ∈ db, x.ls.length ≤ 40) (n : Int) : (refGet db n).ls.length ≤ 4000 := by
  rcases refGet_mem (db := db) (n := n) with h | h
  · have := hm _ h; omega
  · rw [h]; simp
theorem fm_take {α β : Type} {f : α → Option β} {l : List α} {i : Nat} {a : α} (h : l[i]? = some a) : (l.take (i + 1)).filterMap f = (l.take i).filterMap f ++ (f a).toList := by rw [take_step h, List.filterMap_append]; cases hq : f a <;> simp [hq]
theorem flat_take {α β : Type} {f : α → List β} {l : List α} {i : Nat} {a : α} (h : l[i]? = some a) : (l.take (i + 1)).flatMap f = (l.take i).flatMap f ++ f a := by rw [take_step h, List.flatMap_append]; simp
/- waymarkref24.Arcs -/
def ref24_Arcs_r9_T : Bool × List (List Nat × List Nat) := (true, [([], []), ([], []), ([1], [1]), ([0, 2], [0, 2]), ([], []), ([], []), ([4, 5], [4, 5]), ([6], [6]), ([7], [7]), ([3, 8, 3], [3, 8]), ([9], [9])])
def ref24_Arcs_r9_B : List Nat := [0, 0, 2, 7, 0, 0, 48, 112, 240, 511, 1023]
theorem ref24_Arcs_r9_t : Go.Proofs.YtmcannmjielalaaW.PrintLast.rtab .any (Go.Proofs.YtmcannmjielalaaW.PrintLast.opsOf Try.f58 9) = ref24_Arcs_r9_T := by kernel_rfl
theorem ref24_Arcs_r9_b : Go.Proofs.YtmcannmjielalaaW.PrintLast.waitsOk ref24_Arcs_r9_T.2 ref24_Arcs_r9_B = true := by kernel_rfl
def ref24_Arcs_r10_T : Bool × List (List Nat × List Nat) := (true, [([], []), ([], []), ([], []), ([1, 2], [1, 2]), ([3], [3]), ([4], [4]), ([], []), ([6], [6]), ([], []), ([8], [8]), ([5, 7, 9], [5, 7, 9]), ([10], [10]), ([0, 11], [0, 11]), ([12, 12, 0, 1, 2, 3, 4, 5, 6, 7, 8, 9, 10, 11, 12], [0, 12])])
def ref24_Arcs_r10_B : List Nat := [0, 0, 0, 6, 14, 30, 0, 64, 0, 256, 1022, 2046, 4095, 8191]
theorem ref24_Arcs_r10_t : Go.Proofs.YtmcannmjielalaaW.PrintLast.rtab .any (Go.Proofs.YtmcannmjielalaaW.PrintLast.opsOf Try.f58 10) = ref24_Arcs_r10_T := by kernel_rfl
theorem ref24_Arcs_r10_b : Go.Proofs.YtmcannmjielalaaW.PrintLast.waitsOk ref24_Arcs_r10_T.2 ref24_Arcs_r10_B = true := by kernel_rfl
set_option maxRecDepth 100000 in
set_option maxHeartbeats 2000000 in
theorem ref24_Arcs (db : List Lsa) (hl : db.length ≤ 70) (hm : ∀ x ∈ db, x.ls.length ≤ 40) : Triple Try.prog 58 [AV.sl 3 (db.map lsaC)] [] (fun r h' => ∃ g c, r = .v (slV g (refAll db).length c) ∧ h' = [.sl g c 36 3 ((refAll db).map arcC)]) := by
  refine triple_of Try.func58 rfl (by kernel_rfl) rfl (by simp) ?_
  refine aSeq ?_
  refine aReg ?_
  refine sp pMa ?_
  refine oNil ?_
  refine aSeq ?_
  refine aReg ?_
  refine sq ?_
  refine qLit (l := []) rfl rfl (by decide) us_22 ty_36 ze_36 rfl (by decide) (by decide) rfl rfl rfl (fun b7 => ?_)
  refine sp pMa ?_
  refine oNil ?_
  refine aSeq ?_
  refine aSeq ?_
  refine aReg ?_
  refine sp pMa ?_
  refine oNil ?_
  refine aBlock ?_
  refine aLoopI (α := Nat × Option Nat × Nat) (fun (i, g, c) => i ≤ db.length ∧ ((db.take i).flatMap (refArcs db)).length ≤ i * 40) (fun (i, g, c) => ([(0, AV.sl 3 (db.map lsaC)), (4, .int i), (3, .v (slV g ((db.take i).flatMap (refArcs db)).length c))], [.sl g c 36 3 (((db.take i).flatMap (refArcs db)).map arcC)])) (fun (i, g, c) => db.length - i) (0, some b7, 0) ?_ ?_ ?_
  · skip
    exact ⟨by omega, by simp⟩
  · skip
    exact weak_sub ⟨rfl, gInt rfl (by simp), rfl, trivial⟩ (by repeat constructor)
  · rintro ⟨i, g, c⟩ ⟨hi, hn⟩
    skip
    refine aSeq ?_
    refine aSeq ?_
    refine aReg ?_
    refine sp pM ?_
    refine sp pM ?_
    refine sp (by first | exact pLm sl_55 | exact pLs sl_55 | exact pLv sl_55) ?_
    refine sp pB ?_
    refine oNil ?_
    refine aCondDec rfl (fun c11 => ?_) (fun c11 => ?_)
    · skip
      refine aSkip ?_
      refine aSeq ?_
      refine aBlock ?_
      refine aSeq ?_
      refine aReg ?_
      refine sp pMa ?_
      refine oNil ?_
      refine aBlock ?_
      obtain ⟨l, hl2⟩ : ∃ l, db[i]? = some l := ⟨_, List.getElem?_eq_getElem (by omega)⟩
      have hl40 := hm l (List.mem_of_getElem? hl2)
      refine aLoopI (α := Nat × Option Nat × Nat) (fun (k, g', c') => k ≤ l.ls.length ∧ ((l.ls.take k).filterMap (refArc db l)).length ≤ k) (fun (k, g', c') => ([(0, AV.sl 3 (db.map lsaC)), (4, .int i), (5, .int k), (3, .v (slV g' ((db.take i).flatMap (refArcs db) ++ (l.ls.take k).filterMap (refArc db l)).length c'))], [.sl g' c' 36 3 (((db.take i).flatMap (refArcs db) ++ (l.ls.take k).filterMap (refArc db l)).map arcC)])) (fun (k, g', c') => l.ls.length - k) (0, g, c) ?_ ?_ ?_
      · skip
        exact ⟨by omega, by simp⟩
      · skip
        simp only [List.take_zero, List.filterMap_nil, List.append_nil]
        exact weak_sub ⟨rfl, rfl, gInt rfl (by simp), rfl, trivial⟩ (by repeat constructor)
      · rintro ⟨k, g', c'⟩ ⟨hk, hnk⟩
        skip
        refine aSeq ?_
        refine aSeq ?_
        refine aReg ?_
        refine sp pM ?_
        refine sp pM ?_
        refine sp pM ?_
        refine sp (pIdxS rfl rfl rfl es_55 (by omega) (map_get (f := lsaC) hl2)) ?_
        refine sp (by first | exact pFb fd_141_2 | exact pFs fd_141_2) ?_
        refine sr (by first | exact rS1 ty_139 | exact rB1 ty_139 | exact rAr ty_139 | exact rArL ty_139 | exact rArR2 ty_139) ?_
        refine sp (by first | exact pLm sl_139 | exact pLs sl_139 | exact pLv sl_139) ?_
        refine sp pB ?_
        refine oNil ?_
        refine aCondDec rfl (fun c21 => ?_) (fun c21 => ?_)
        · skip
          refine aSkip ?_
          refine aSeq ?_
          refine aBlock ?_
          refine aSeq ?_
          refine aReg ?_
          refine sp pM ?_
          refine sp pM ?_
          obtain ⟨x, hx⟩ : ∃ x, l.ls[k]? = some x := ⟨_, List.getElem?_eq_getElem (by omega)⟩
          refine sp (pIdxS rfl rfl rfl es_55 (by omega) (map_get (f := lsaC) hl2)) ?_
          refine sp (by first | exact pFb fd_141_2 | exact pFs fd_141_2) ?_
          refine sr (by first | exact rS1 ty_139 | exact rB1 ty_139 | exact rAr ty_139 | exact rArL ty_139 | exact rArR2 ty_139) ?_
          refine sp pM ?_
          refine sp (pIdxS rfl rfl rfl es_139 (by omega) (map_get (f := linkC) hx)) ?_
          refine sr (by first | exact rSW ty_138 rfl | exact rSA ty_138 | exact rBWa ty_138 | exact rBW ty_138 | exact rBA ty_138 | exact rArA ty_138 (fun _ => rfl)) ?_
          refine sq ?_
          refine qAlloc rfl rfl (by decide) ze_138 rfl (fun b6 => ?_)
          refine sa ?_
          refine oStW rfl rfl rfl rfl (by repeat constructor) ty_138 ?_
          refine oNil ?_
          refine aSeq ?_
          refine aDrawT ref24_Arcs_r9_t ref24_Arcs_r9_b [] 11 #[false, false, false, false, false, false, false, false, false, false, false] (by kernel_rfl) rfl rfl (fun HT => ?_)
          refine dp HT 0 rfl pM ?_
          refine dp HT 1 rfl (pFb fd_138_0) ?_
          refine dr HT 2 rfl (rB1 ty_3) ?_
          refine dp HT 4 rfl pM ?_
          refine dp HT 5 rfl pM ?_
          refine dp HT 6 rfl (pIdxS rfl rfl rfl es_55 (by omega) (map_get (f := lsaC) hl2)) ?_
          refine dp HT 7 rfl (by first | exact pFb fd_141_0 | exact pFs fd_141_0) ?_
          refine dr HT 8 rfl (by first | exact rS1 ty_3 | exact rB1 ty_3 | exact rAr ty_3 | exact rArL ty_3 | exact rArR2 ty_3) ?_
          refine dGo ?_
          refine e1 HT 3 rfl ?_
          refine qCall0 rfl rfl (by decide) rfl rfl (ref11_Get db x.t (by omega)) ?_
          rintro _ _ ⟨rfl, rfl⟩
          refine e1 HT 9 rfl ?_
          refine qCallV rfl rfl (by decide) rfl rfl (lents_refl _) (ref09_Cost (refGet db x.t) l.o (refGet_len hm _)) ?_
          refine ef HT 10 rfl pB ?_
          refine eE HT ?_
          clear HT
          refine aCondDec rfl (fun c42 => ?_) (fun c42 => ?_)
          · skip
            refine aDrawT ref24_Arcs_r10_t ref24_Arcs_r10_b [12] 14 #[false, false, false, false, false, false, false, false, false, false, false, false, false, false] (by kernel_rfl) rfl rfl (fun HT => ?_)
            refine dp HT 0 rfl pM ?_
            refine dp HT 1 rfl pM ?_
            refine dp HT 2 rfl pM ?_
            refine dp HT 3 rfl (pIdxS rfl rfl rfl es_55 (by omega) (map_get (f := lsaC) hl2)) ?_
            refine dp HT 4 rfl (by first | exact pFb fd_141_0 | exact pFs fd_141_0) ?_
            refine dr HT 5 rfl (by first | exact rS1 ty_3 | exact rB1 ty_3 | exact rAr ty_3 | exact rArL ty_3 | exact rArR2 ty_3) ?_
            refine dp HT 6 rfl (pFb fd_138_0) ?_
            refine dr HT 7 rfl (rB1 ty_3) ?_
            refine dp HT 8 rfl (pFb fd_138_1) ?_
            refine dr HT 9 rfl (rB1 ty_3) ?_
            refine dp HT 10 rfl (pBuild rfl st_36 ze_36 rfl rfl rfl rfl) ?_
            refine dGo ?_
            refine e1 HT 11 rfl ?_
            refine qLit (l := [_]) rfl rfl (by decide) us_22 ty_36 ze_36 rfl (by decide) (by decide) rfl rfl rfl (fun b54 => ?_)
            refine eLast ?_
            refine f1 HT 12 rfl ?_
            refine oApp rfl rfl (by decide) rfl (by repeat constructor) (by simp) (srcOwn rfl (by repeat constructor) (by first | rfl | simp)) el_22 sl_22 (by intro z hz; rcases List.mem_cons.1 hz with rfl | hz; rfl; cases hz) (by rw [List.length_map, List.length_append]; show _ + 1 ≤ _; omega) (by rw [List.length_map, List.length_append]; show (_ + 1) * 24 ≤ _; omega) (fun g55 k55 => ?_)
            refine fp HT 13 rfl pMa ?_
            refine fE HT ?_
            clear HT
            refine aReg ?_
            refine sp pM ?_
            refine sp pAd ?_
            refine sp pMa ?_
            refine oNil ?_
            have hst := fm_take (f := refArc db l) hx
            first
              | (have hq : refArc db l x = some ⟨l.o, x.t, x.c⟩ := by simp only [refArc]; rw [if_pos (by omega)]
                 rw [hq] at hst
                 refine ⟨(k + 1, g55, k55), ⟨by omega, ?_⟩, by show l.ls.length - (k + 1) < l.ls.length - k; omega, ?_⟩
                 · rw [hst, List.length_append]; simp; omega
                 · simp only [hst, Option.toList_some, ← List.append_assoc]
                   exact weak_sub ⟨rfl, rfl, gInt rfl (by simp), gLen rfl (by simp; omega), trivial⟩ (by rw [List.map_append (l₂ := [_])]; repeat constructor))
              | (have hq : refArc db l x = none := by simp only [refArc]; rw [if_neg (by omega)]
                 rw [hq] at hst
                 refine ⟨(k + 1, g', c'), ⟨by omega, ?_⟩, by show l.ls.length - (k + 1) < l.ls.length - k; omega, ?_⟩
                 · rw [hst, List.length_append]; simp; omega
                 · simp only [hst, Option.toList_none, List.append_nil]
                   exact weak_sub ⟨rfl, rfl, gInt rfl (by simp), rfl, trivial⟩ (by repeat constructor))
          · skip
            refine aSkip ?_
            refine aReg ?_
            refine sp pM ?_
            refine sp pAd ?_
            refine sp pMa ?_
            refine oNil ?_
            have hst := fm_take (f := refArc db l) hx
            first
              | (have hq : refArc db l x = some ⟨l.o, x.t, x.c⟩ := by simp only [refArc]; rw [if_pos (by omega)]
                 rw [hq] at hst
                 refine ⟨(k + 1, g55, k55), ⟨by omega, ?_⟩, by show l.ls.length - (k + 1) < l.ls.length - k; omega, ?_⟩
                 · rw [hst, List.length_append]; simp; omega
                 · simp only [hst, Option.toList_some, ← List.append_assoc]
                   exact weak_sub ⟨rfl, rfl, gInt rfl (by simp), gLen rfl (by simp; omega), trivial⟩ (by rw [List.map_append (l₂ := [_])]; repeat constructor))
              | (have hq : refArc db l x = none := by simp only [refArc]; rw [if_neg (by omega)]
                 rw [hq] at hst
                 refine ⟨(k + 1, g', c'), ⟨by omega, ?_⟩, by show l.ls.length - (k + 1) < l.ls.length - k; omega, ?_⟩
                 · rw [hst, List.length_append]; simp; omega
                 · simp only [hst, Option.toList_none, List.append_nil]
                   exact weak_sub ⟨rfl, rfl, gInt rfl (by simp), rfl, trivial⟩ (by repeat constructor))
        · skip
          refine aExit rfl ?_
          refine aReg ?_
          refine sp pM ?_
          refine sp pAd ?_
          refine sp pMa ?_
          refine oNil ?_
          have hke : k = l.ls.length := by omega
          have hstep := flat_take (f := refArcs db) hl2
          have hfl : refArcs db l = (l.ls.take k).filterMap (refArc db l) := by rw [hke, List.take_length]; rfl
          rw [hfl] at hstep
          refine ⟨(i + 1, g', c'), ⟨by omega, ?_⟩, by show db.length - (i + 1) < db.length - i; omega, ?_⟩
          · have := hm l (List.mem_of_getElem? hl2); rw [hstep, List.length_append]; omega
          · simp only [hstep]
            exact weak_sub ⟨rfl, gInt rfl (by simp), rfl, trivial⟩ (by repeat constructor)
    · skip
      refine aExit rfl ?_
      refine aSeq ?_
      refine aReg ?_
      refine sp pM ?_
      refine sp pMa ?_
      refine oNil ?_
      refine aRet ?_
      have hie : i = db.length := by omega
      refine ⟨_, [_], _, rfl, .cons .hd .nil, g, c, ?_, ?_⟩
      · rw [refAll, hie, List.take_length]; rfl
      · rw [refAll, hie, List.take_length]
end A
end Go.Proofs.Ytmcannmjielalaa
set_option linter.unusedVariables false
set_option linter.unusedSimpArgs false
namespace Go.Proofs.Ytmcannmjielalaa
namespace A
theorem lsdb_Check_v {db : List Lsa} (hl : db.length < 9223372036854775807 := by omega) : Triple Try.prog 137 [.sl 3 (db.map lsaC)] [] (Is (.v (.int .i64 (if lsdbB 0 db then 0 else 1))) []) := lsdb_Check db hl
theorem graph_Arcs_s {db : List Lsa} (hl : db.length < 9223372036854775807 := by omega) : Triple Try.prog 114 [.sl 3 (db.map lsaC)] [] (Is (.sl 3 ((arcsDb db).map arcC)) []) :=
  ((graph_Arcs db hl).mono (Q' := Own 36 3 ((arcsDb db).map arcC) []) fun q h' ⟨g, c, hq, hh⟩ => ⟨g, c, by rw [List.length_map]; exact hq, hh⟩).settle
theorem ref24_Arcs_s {db : List Lsa} (hl : db.length ≤ 70) (hm : ∀ x ∈ db, x.ls.length ≤ 40) : Triple Try.prog 58 [.sl 3 (db.map lsaC)] [] (Is (.sl 3 ((refAll db).map arcC)) []) :=
  ((ref24_Arcs db hl hm).mono (Q' := Own 36 3 ((refAll db).map arcC) []) fun q h' ⟨g, c, hq, hh⟩ => ⟨g, c, by rw [List.length_map]; exact hq, hh⟩).settle
theorem law19_Light_v {db : List Lsa} : Triple Try.prog 136 [.sl 3 (db.map lsaC)] [] (Is (.v (.bool (lightB db))) []) := law19_Light db
theorem ref19_May_v {db : List Lsa} (hl : db.length ≤ 4000) (hm : ∀ x ∈ db, x.ls.length ≤ 4000) : Triple Try.prog 55 [.sl 3 (db.map lsaC)] [] (Is (.v (.bool (lsdbB 0 db))) []) := ref19_May db hl hm
theorem dbArcs_len {db : List Lsa} (h : lsdbB 0 db = true) : (arcsDb db).length ≤ 4000 := arcs_len (by have := lsdb_len64 h; omega) (fun x hx => by have := lsa_links (lsdb_mem h x hx); omega)
theorem dbArcs_ok {db : List Lsa} (h : lsdbB 0 db = true) : arcsB none (arcsDb db) = true := by rw [arcsDb, if_pos h]; exact arcsAll_ok h
theorem dbArcs_ref {db : List Lsa} (h : lsdbB 0 db = true) : refAll db = arcsDb db := by rw [arcsDb, if_pos h]; exact (arcsAll_ref h).symm
def rtsDb (db : List Lsa) (me : Int) : List Rt := if lsdbB 0 db then rtsM (arcsDb db) me else []
theorem rtsDb_len (db : List Lsa) (me : Int) : (rtsDb db me).length ≤ 65 := by
  unfold rtsDb
  split
  · exact rtsM_len _ _
  · simp
/- route.Of -/
set_option maxRecDepth 100000 in
set_option maxHeartbeats 400000 in
theorem route_Of {db : List Lsa} {me : Int} (hdl : db.length < 9223372036854775807 := by omega) : Triple Try.prog 53 [.sl 3 (db.map lsaC), .int me] [] (Is (.sl 3 ((rtsDb db me).map rtC)) []) := by
  refine triple_of Try.func53 rfl (by kernel_rfl) rfl (by simp) ?_
  refine aSeq ?_
  refine aReg ?_
  refine sp pMa ?_
  refine oNil ?_
  refine aSeq ?_
  refine aSeq ?_
  refine aReg ?_
  refine sp pM ?_
  refine sq ?_
  refine cv rfl rfl rfl (lents_refl _) (lsdb_Check_v (db := db) hdl) ?_
  refine sp pB ?_
  refine oNil ?_
  refine aCondNe rfl (fun c7 => ?_) (fun c7 => ?_)
  · skip
    refine aSeq ?_
    have hno : lsdbB 0 db = false := by cases h : lsdbB 0 db <;> simp_all
    have hr : rtsDb db me = [] := by unfold rtsDb; rw [hno]; rfl
    refine aWeak (weak_nil 49 3) ?_
    refine aReg ?_
    refine sp pMa ?_
    refine oNil ?_
    refine aWeak (weak_settle (k := 4) rfl .hd rfl) ?_
    refine aRet ?_
    refine finIs rfl ?_
    rw [hr]
    rfl
  · skip
    refine aSkip ?_
    refine aSeq ?_
    have hyes : lsdbB 0 db = true := by cases h : lsdbB 0 db <;> simp_all
    have hal := dbArcs_len hyes
    refine aReg ?_
    refine sp pM ?_
    refine sq ?_
    refine ci rfl rfl rfl (graph_Arcs_s (db := db) hdl) ?_
    refine sp pM ?_
    refine sq ?_
    refine ci rfl rfl rfl (spf_Routes_s (l := arcsDb db) (r := me) (by omega)) ?_
    refine sp pMa ?_
    refine oNil ?_
    refine aRet ?_
    refine finIs rfl ?_
    unfold rtsDb
    rw [hyes]
    rfl
/- api.Route] -/
set_option maxRecDepth 100000 in
set_option maxHeartbeats 400000 in
theorem index_Route {f : FuncId} {caps : List AV} {p : Rt → Bool} (hf : ∀ x : Rt, Triple Try.prog f ([AV.agg (rtC x)] ++ caps) [] (Is (.v (.bool (p x))) [])) (l : List Rt) (hl : l.length ≤ 1000000) : Triple Try.prog 138 [.sl 3 (l.map rtC), .fn (.func f) caps] [] (Is (.v (.int .i64 (idxF p l))) []) := by
  refine triple_of Try.func138 rfl (by kernel_rfl) rfl (by simp) ?_
  refine aSeq ?_
  refine aReg ?_
  refine sp pMa ?_
  refine oNil ?_
  refine aSeq ?_
  refine aSeq ?_
  refine aReg ?_
  refine sp pM ?_
  refine sp (by first | exact pLm sl_41 | exact pLs sl_41) ?_
  refine sp pM ?_
  refine oNil ?_
  refine aBlock ?_
  refine loopF (α := Nat) (kept := [(0, _), (1, _), (7, _)]) (fun i => i ≤ l.length ∧ ∀ y ∈ l.take i, p y = false) (fun i => [(8, .int i)]) (fun i => []) (fun i => l.length - i) 0 ?_ ⟨gInt rfl (by first | rfl | omega | simp), rfl, rfl, rfl, trivial⟩ (by repeat constructor) ?_
  · skip
    exact ⟨by omega, fun y hy => by simp at hy⟩
  · rintro i ⟨hi, hv⟩
    refine aSeq ?_
    refine aReg ?_
    refine sp pB ?_
    refine oNil ?_
    refine aSeq ?_
    refine aCondDec rfl (fun c9 => ?_) (fun c9 => ?_)
    · skip
      refine aSkip ?_
      refine aSeq ?_
      refine aBlock ?_
      refine aSeq ?_
      refine aReg ?_
      refine sp pM ?_
      refine sp pMa ?_
      refine oNil ?_
      refine aSeq ?_
      obtain ⟨x, hx⟩ : ∃ x, l[i]? = some x := ⟨_, List.getElem?_eq_getElem (by omega)⟩
      refine aReg ?_
      refine sp pM ?_
      refine sp pM ?_
      refine sp pM ?_
      first | refine sp (pIx es_41) ?_ | (refine obtSN 12 13 rfl rfl (by omega) (fun x14 hx14 => ?_); refine sp (pIs es_41 hx14) ?_) | (refine obtS 12 13 rfl rfl (by omega) (by omega) (fun x14 hx14 => ?_); refine sp (pIs es_41 hx14) ?_) | refine sp (pIo es_41) ?_
      refine sr (by first | exact rSW ty_49 rfl | exact rSA ty_49) ?_
      refine sq ?_
      refine cv rfl rfl rfl (lents_refl _) (hf x) ?_
      refine oNil ?_
      refine aCond rfl (fun c16 => ?_) (fun c16 => ?_)
      · skip
        refine aSeq ?_
        refine aReg ?_
        refine sp pM ?_
        refine sp pMa ?_
        refine oNil ?_
        refine aRet ?_
        refine finIs rfl ?_
        show AV.int _ = AV.int _
        rw [(idxF_at hv hx (by simp_all)).1]
      · skip
        refine aSkip ?_
        refine aReg ?_
        refine sp pAd ?_
        refine sp pM ?_
        refine oNil ?_
        refine ⟨i + 1, ?_, by (try dsimp only); omega, ⟨gInt rfl (by first | rfl | omega | simp), rfl, rfl, rfl, trivial⟩, _, (by repeat constructor)⟩
        refine ⟨by omega, fun y hy => ?_⟩
        rw [take_step hx] at hy
        rcases List.mem_append.1 hy with hy | hy
        · exact hv y hy
        · rw [List.mem_singleton.1 hy]; simp_all
    · skip
      refine aExit rfl ?_
      refine aSeq ?_
      refine aReg ?_
      refine sp pMa ?_
      refine oNil ?_
      refine aRet ?_
      refine finIs rfl ?_
      show AV.int _ = AV.int _
      rw [take_all (by omega)] at hv
      rw [(idxF_no hv).1]
/- route.Find$1 -/
set_option maxRecDepth 100000 in
set_option maxHeartbeats 400000 in
theorem route_Find1 {x : Rt} {n : Int} : Triple Try.prog 139 [.agg (rtC x), .sp [.int n]] [] (Is (.v (.bool (x.nd == n))) []) := by
  refine triple_of Try.func139 rfl (by kernel_rfl) rfl (by simp) ?_
  refine aSeq ?_
  refine aReg ?_
  refine sq ?_
  refine qBox rfl rfl (by decide) rfl rfl (fun b2 => ?_)
  refine sp pMa ?_
  refine oNil ?_
  refine aSeq ?_
  refine aReg ?_
  refine sp (pFb fd_49_0) ?_
  refine sr (rB1 ty_3) ?_
  refine sr (rS1 ty_3) ?_
  refine sp pB ?_
  refine sp pMa ?_
  refine oNil ?_
  refine aRet ?_
  refine finIs rfl ?_
  rfl
def findR (rs : List Rt) (n : Int) : Option Rt := rs.find? fun x => x.nd == n
def findG (rs : List Rt) (n : Int) : Rt := (findR rs n).getD ⟨0, 0, 0⟩
def findT2 (rs : List Rt) (n : Int) : AV := .tup [.agg (rtC (findG rs n)), .v (.bool (findR rs n).isSome)]
theorem findR_none {rs : List Rt} {n : Int} (h : findR rs n = none) : ∀ x ∈ rs, x.nd ≠ n := fun x hx => by
  have := List.find?_eq_none.1 h x hx
  simpa using this
theorem findR_some {rs : List Rt} {n : Int} {x : Rt} (h : findR rs n = some x) : x ∈ rs ∧ x.nd = n := ⟨List.mem_of_find?_eq_some h, by simpa using List.find?_some h⟩
/- route.Find -/
set_option maxRecDepth 100000 in
set_option maxHeartbeats 400000 in
theorem route_Find {rs : List Rt} {n : Int} (hl : rs.length ≤ 1000000) : Triple Try.prog 54 [.sl 3 (rs.map rtC), .int n] [] (Is (findT2 rs n) []) := by
  refine triple_ofR Try.func54 rfl (by kernel_rfl) rfl (by simp) ?_
  refine aSeq ?_
  refine aReg ?_
  refine sq ?_
  refine qBox rfl rfl (by decide) rfl rfl (fun b3 => ?_)
  refine sq ?_
  refine qAlloc rfl rfl (by decide) ze_49 rfl (fun b4 => ?_)
  refine sp pMa ?_
  refine oNil ?_
  refine aSeq ?_
  refine aReg ?_
  refine sp pM ?_
  refine sp (pFn rfl rfl) ?_
  refine sq ?_
  refine cv rfl rfl rfl (.cons (.same _) (.cons (lent_fn1 (.sp (by repeat (first | exact List.mem_cons_self | apply List.mem_cons_of_mem)))) .nil)) (index_Route (p := fun x => x.nd == n) (fun x => route_Find1) rs hl) ?_
  refine sp pMa ?_
  refine oNil ?_
  refine aSeq ?_
  refine aSeq ?_
  refine aReg ?_
  refine sp pM ?_
  refine sp pB ?_
  refine oNil ?_
  refine aCondDec rfl (fun c11 => ?_) (fun c11 => ?_)
  · skip
    refine aSeq ?_
    refine aReg ?_
    refine sp (pBuild rfl st_49 ze_49 rfl rfl rfl rfl) ?_
    refine sa ?_
    refine oStW rfl rfl rfl rfl (by repeat constructor) ty_49 ?_
    refine sp pMa ?_
    refine oNil ?_
    refine aRet ?_
    refine finRIs (l := [.agg (rtC ⟨0, 0, 0⟩), .v (.bool false)]) (.cons (.cellA rfl (by repeat (first | exact List.mem_cons_self | apply List.mem_cons_of_mem)) ty_49) (.cons (.tmp rfl) .nil)) ?_
    have h2 : rs.find? (fun x : Rt => x.nd == n) = none := by
      rcases idxF_cases (fun x : Rt => x.nd == n) rs with ⟨h1, h2⟩ | ⟨i, x, h1, h2, h3⟩
      · exact h2
      · omega
    simp [findT2, findG, findR, h2, retOf]
  · skip
    refine aSkip ?_
    refine aSeq ?_
    obtain ⟨i, x, h1, h2, h3⟩ : ∃ i x, idxF (fun x : Rt => x.nd == n) rs = (i : Nat) ∧ rs[i]? = some x ∧ rs.find? (fun x : Rt => x.nd == n) = some x := by
      rcases idxF_cases (fun x : Rt => x.nd == n) rs with ⟨h1, h2⟩ | h
      · omega
      · exact h
    rw [h1] at *
    refine aReg ?_
    refine sp pM ?_
    refine sp pM ?_
    first | refine sp (pIx es_41) ?_ | (refine obtSN 13 14 rfl rfl (by omega) (fun x15 hx15 => ?_); refine sp (pIs es_41 hx15) ?_) | (refine obtS 13 14 rfl rfl (by omega) (by omega) (fun x15 hx15 => ?_); refine sp (pIs es_41 hx15) ?_) | refine sp (pIo es_41) ?_
    refine sr (by first | exact rSW ty_49 rfl | exact rSA ty_49) ?_
    refine sa ?_
    refine oStW rfl rfl rfl rfl (by repeat constructor) ty_49 ?_
    refine sp pMa ?_
    refine oNil ?_
    refine aRet ?_
    refine finRIs (l := [.agg (rtC x), .v (.bool true)]) (.cons (.cellA rfl (by repeat (first | exact List.mem_cons_self | apply List.mem_cons_of_mem)) ty_49) (.cons (.tmp rfl) .nil)) ?_
    simp [findT2, findG, findR, h3, retOf]
/- waymarkref26.Find -/
set_option maxRecDepth 100000 in
set_option maxHeartbeats 400000 in
theorem ref26_Find {rs : List Rt} {n : Int} (hl : rs.length ≤ 1000000) : Triple Try.prog 57 [.sl 3 (rs.map rtC), .int n] [] (Is (.agg (rtC (findG rs n))) []) := by
  refine triple_ofR Try.func57 rfl (by kernel_rfl) rfl (by simp) ?_
  refine aSeq ?_
  refine aReg ?_
  refine sq ?_
  refine qAlloc rfl rfl (by decide) ze_49 rfl (fun b4 => ?_)
  refine oNil ?_
  refine aSeq ?_
  refine aSeq ?_
  refine aReg ?_
  refine sp pMa ?_
  refine oNil ?_
  refine aBlock ?_
  refine loopF (α := Nat) (kept := [(0, _), (1, _), (4, _)]) (fun i => i ≤ rs.length ∧ ∀ y ∈ rs.take i, (y.nd == n) = false) (fun i => [(5, .int i)]) (fun i => []) (fun i => rs.length - i) 0 ?_ ⟨gInt rfl (by first | rfl | omega | simp), rfl, rfl, rfl, trivial⟩ (by repeat constructor) ?_
  · skip
    exact ⟨by omega, fun y hy => by simp at hy⟩
  · rintro i ⟨hi, hv⟩
    refine aSeq ?_
    refine aSeq ?_
    refine aReg ?_
    refine sp pM ?_
    refine sp pM ?_
    refine sp (by first | exact pLm sl_41 | exact pLs sl_41) ?_
    refine sp pB ?_
    refine oNil ?_
    refine aCondDec rfl (fun c9 => ?_) (fun c9 => ?_)
    · skip
      refine aSkip ?_
      refine aSeq ?_
      refine aBlock ?_
      refine aSeq ?_
      obtain ⟨r, hr⟩ : ∃ r, rs[i]? = some r := ⟨_, List.getElem?_eq_getElem (by omega)⟩
      refine aReg ?_
      refine sp pM ?_
      refine sp pM ?_
      first | refine sp (pIx es_41) ?_ | (refine obtSN 12 13 rfl rfl (by omega) (fun x14 hx14 => ?_); refine sp (pIs es_41 hx14) ?_) | (refine obtS 12 13 rfl rfl (by omega) (by omega) (fun x14 hx14 => ?_); refine sp (pIs es_41 hx14) ?_) | refine sp (pIo es_41) ?_
      refine sp (pFs fd_49_0) ?_
      refine sr (rS1 ty_3) ?_
      refine sp pM ?_
      refine sp pB ?_
      refine oNil ?_
      refine aCondEq rfl (fun c18 => ?_) (fun c18 => ?_)
      · skip
        refine aSeq ?_
        refine aReg ?_
        refine sp pM ?_
        refine sp pM ?_
        first | refine sp (pIx es_41) ?_ | (refine obtSN 19 20 rfl rfl (by omega) (fun x21 hx21 => ?_); refine sp (pIs es_41 hx21) ?_) | (refine obtS 19 20 rfl rfl (by omega) (by omega) (fun x21 hx21 => ?_); refine sp (pIs es_41 hx21) ?_) | refine sp (pIo es_41) ?_
        refine sr (by first | exact rSW ty_49 rfl | exact rSA ty_49) ?_
        refine sa ?_
        refine oStW rfl rfl rfl rfl (by repeat constructor) ty_49 ?_
        refine oNil ?_
        refine aRet ?_
        refine finRIs (l := [.agg (rtC r)]) (.cons (.cellA rfl (by repeat (first | exact List.mem_cons_self | apply List.mem_cons_of_mem)) ty_49) .nil) ?_
        have := (idxF_at (p := fun y : Rt => y.nd == n) hv hr (by simp_all)).2
        simp [findG, findR, this, retOf]
      · skip
        refine aSkip ?_
        refine aReg ?_
        refine sp pM ?_
        refine sp pAd ?_
        refine sp pMa ?_
        refine oNil ?_
        refine ⟨i + 1, ?_, by (try dsimp only); omega, ⟨gInt rfl (by first | rfl | omega | simp), rfl, rfl, rfl, trivial⟩, _, (by repeat constructor)⟩
        refine ⟨by omega, fun y hy => ?_⟩
        rw [take_step hr] at hy
        rcases List.mem_append.1 hy with hy | hy
        · exact hv y hy
        · rw [List.mem_singleton.1 hy]; simp_all
    · skip
      refine aExit rfl ?_
      refine aSeq ?_
      refine aReg ?_
      refine sp (pBuild rfl st_49 ze_49 rfl rfl rfl rfl) ?_
      refine sa ?_
      refine oStW rfl rfl rfl rfl (by repeat constructor) ty_49 ?_
      refine oNil ?_
      refine aRet ?_
      refine finRIs (l := [.agg (rtC ⟨0, 0, 0⟩)]) (.cons (.cellA rfl (by repeat (first | exact List.mem_cons_self | apply List.mem_cons_of_mem)) ty_49) .nil) ?_
      rw [take_all (by omega)] at hv
      have := (idxF_no (p := fun y : Rt => y.nd == n) hv).2
      simp [findG, findR, this, retOf]
/- waymarkref26.Of -/
set_option maxRecDepth 100000 in
set_option maxHeartbeats 400000 in
theorem ref26_Of {db : List Lsa} {me : Int} (hv : lsdbB 0 db = true) : Triple Try.prog 56 [.sl 3 (db.map lsaC), .int me] [] (Own 49 3 ((rtsDb db me).map rtC) []) := by
  have h64 := lsdb_len64 hv
  have hal := dbArcs_len hv
  have hre : rtsDb db me = routesM (arcsDb db) me := by unfold rtsDb rtsM; rw [if_pos hv, if_pos (dbArcs_ok hv)]
  refine triple_of Try.func56 rfl (by kernel_rfl) rfl (by simp) ?_
  refine aSeq ?_
  refine aReg ?_
  refine sp pMa ?_
  refine oNil ?_
  refine aSeq ?_
  refine aReg ?_
  refine sp pM ?_
  refine sq ?_
  refine ci rfl rfl rfl (ref24_Arcs_s (db := db) (by omega) (fun x hx => by have := lsa_links (lsdb_mem hv x hx); omega)) ?_
  rw [dbArcs_ref hv]
  refine sp pM ?_
  refine sa ?_
  first | refine coM rfl rfl rfl (ref25_Routes (l := arcsDb db) (r := me) (by omega) (arcs_ok (dbArcs_ok hv))) (fun g8 k8 => ?_) | refine co rfl rfl rfl (ref25_Routes (l := arcsDb db) (r := me) (by omega) (arcs_ok (dbArcs_ok hv))) (fun g8 k8 => ?_)
  refine sp pMa ?_
  refine oNil ?_
  refine aRet ?_
  refine finOwn rfl ?_
  rw [hre]
theorem ref26_Of_s {db : List Lsa} {me : Int} (hv : lsdbB 0 db = true) : Triple Try.prog 56 [.sl 3 (db.map lsaC), .int me] [] (Is (.sl 3 ((rtsDb db me).map rtC)) []) := (ref26_Of (db := db) (me := me) hv).settle
def fewB (db : List Lsa) : Bool := decide (db.length ≤ 8) && lightB db
theorem few_len {db : List Lsa} (h : fewB db = true) : db.length ≤ 8 ∧ ∀ x ∈ db, x.ls.length ≤ 40 := by
  unfold fewB at h
  rw [Bool.and_eq_true, decide_eq_true_eq] at h
  exact ⟨h.1, fun x hx => light_mem h.2 hx⟩
end A
end Go.Proofs.Ytmcannmjielalaa
set_option linter.unusedVariables false
set_option linter.unusedSimpArgs false
namespace Go.Proofs.Ytmcannmjielalaa
namespace A
theorem el_139 : elemOf Try.prog 139 = some (138, 2, 16) := by kernel_rfl
theorem eq_138 : eqType Try.prog 138 = some [(0, .i), (1, .i)] := by kernel_rfl
theorem ik_270 : intKindOf Try.prog 270 = some .u64 := by kernel_rfl
theorem us_139 : Try.prog.underlying 139 = some (.slice 138) := by kernel_rfl
def posL (l : List Lsa) (n : Int) : Nat := (l.filter fun x => decide (x.o < n)).length
def hasL (l : List Lsa) (n : Int) : Bool := l.any fun x => x.o == n
theorem sortL_at {l : List Lsa} (hs : l.Pairwise (fun x y => x.o < y.o)) {i j : Nat} {x y : Lsa} (hx : l[i]? = some x) (hy : l[j]? = some y) (h : i < j) : x.o < y.o := by
  obtain ⟨hi, rfl⟩ := List.getElem?_eq_some_iff.1 hx
  obtain ⟨hj, rfl⟩ := List.getElem?_eq_some_iff.1 hy
  exact List.pairwise_iff_getElem.1 hs i j hi hj h
theorem posL_is {l : List Lsa} {n : Int} {i : Nat} (hi : i ≤ l.length) (h1 : ∀ k x, k < i → l[k]? = some x → x.o < n) (h2 : ∀ k x, i ≤ k → l[k]? = some x → n ≤ x.o) : posL l n = i := by
  unfold posL
  rw [← List.take_append_drop i l, List.filter_append, List.length_append, List.filter_eq_self.2 (fun x hx => ?_), List.filter_eq_nil_iff.2 (fun x hx => ?_)]
  · rw [List.length_take, List.length_nil]; omega
  · obtain ⟨k, hk⟩ := List.mem_iff_getElem?.1 hx
    rw [List.getElem?_drop] at hk
    have := h2 (i + k) x (by omega) hk
    simp
    omega
  · obtain ⟨k, hk⟩ := List.mem_iff_getElem?.1 hx
    rw [List.getElem?_take] at hk
    split at hk
    · exact decide_eq_true (h1 k x (by assumption) hk)
    · cases hk
theorem hasL_pos {l : List Lsa} (hs : l.Pairwise (fun x y => x.o < y.o)) {n : Int} {i : Nat} (h1 : ∀ k x, k < i → l[k]? = some x → x.o < n) (h2 : ∀ k x, i ≤ k → l[k]? = some x → n ≤ x.o) : hasL l n = match l[i]? with | some x => x.o == n | none => false := by
  unfold hasL
  rw [Bool.eq_iff_iff, List.any_eq_true]
  constructor
  · rintro ⟨x, hx, hn⟩
    obtain ⟨k, hk⟩ := List.mem_iff_getElem?.1 hx
    have hn : x.o = n := by simpa using hn
    by_cases hlt : k < i
    · have := h1 k x hlt hk; omega
    · by_cases e : k = i
      · subst e; rw [hk]; simpa using hn
      · obtain ⟨hkl, _⟩ := List.getElem?_eq_some_iff.1 hk
        have hil : l[i]? = some l[i] := List.getElem?_eq_getElem (by omega)
        have := sortL_at hs hil hk (by omega)
        have := h2 i _ (Nat.le_refl _) hil
        omega
  · intro h
    split at h
    · rename_i x hx; exact ⟨x, List.mem_of_getElem? hx, h⟩
    · cases h
theorem hasL_get {l : List Lsa} (h : lsdbB 0 l = true) {n : Int} : (hasL l n = true → ∃ x, l[posL l n]? = some x ∧ getL l n = x) ∧ (hasL l n = false → getL l n = ⟨0, 0, []⟩) := by
  have hs := (lsdbB_spec h).2
  constructor
  · intro hh
    unfold hasL at hh
    obtain ⟨x, hx, hn⟩ := List.any_eq_true.1 hh
    have hn : x.o = n := by simpa using hn
    obtain ⟨k, hk⟩ := List.mem_iff_getElem?.1 hx
    have hp : posL l n = k := posL_is (by have := (List.getElem?_eq_some_iff.1 hk).1; omega) (fun j y hj hy => by have := sortL_at hs hy hk hj; omega) (fun j y hj hy => by
      by_cases e : k = j
      · subst e; rw [hk] at hy; cases hy; omega
      · have := sortL_at hs hk hy (by omega); omega)
    exact ⟨x, by rw [hp, hk], by rw [← hn]; exact getL_mem h hx⟩
  · intro hh
    unfold getL
    cases hf : l.reverse.find? (fun x => x.o == n) with
    | none => rfl
    | some x =>
      have h1 := List.find?_some hf
      have h2 := List.mem_of_find?_eq_some hf
      unfold hasL at hh
      rw [List.any_eq_false] at hh
      exact absurd h1 (hh x (by simpa using h2))
/- api.Link] -/
set_option maxRecDepth 100000 in
set_option maxHeartbeats 400000 in
theorem clone_Link {l : List Link} (hl : l.length ≤ 1000000 := by omega) : Triple Try.prog 235 [.sl 2 (l.map linkC)] [] (Own 138 2 (l.map linkC) []) := by
  refine triple_of Try.func235 rfl (by kernel_rfl) rfl (by simp) ?_
  refine aSeq ?_
  refine aReg ?_
  refine sp pMa ?_
  refine oNil ?_
  refine aSeq ?_
  refine aSeq ?_
  refine aReg ?_
  refine sp pM ?_
  refine sa ?_
  refine oSlNil rfl (.inl rfl) rfl sl_139 rfl (by decide) (fun q4 hq4 => ?_)
  refine oNil ?_
  refine aCond rfl (fun c4 => ?_) (fun c4 => ?_)
  · skip
    refine aSeq ?_
    refine aWeak (weak_nil 138 2) ?_
    refine aReg ?_
    refine sp pMa ?_
    refine oNil ?_
    refine aRet ?_
    have he : l = [] := by
      cases l with
      | nil => rfl
      | cons x l => have := hq4 (by simp); simp_all
    subst he
    exact ⟨_, _, _, rfl, .cons .hd .nil, none, 0, rfl, rfl⟩
  · skip
    refine aSkip ?_
    refine aSeq ?_
    refine aReg ?_
    refine sq ?_
    refine qLit (l := []) rfl rfl (by decide) us_139 ty_138 ze_138 rfl (by decide) (by decide) rfl rfl rfl (fun b5 => ?_)
    refine sp pM ?_
    refine sa ?_
    first | refine oAppT (out := []) _ rfl rfl (by repeat constructor) (.inl rfl) el_139 sl_139 (fun g7 k7 => ?_) | refine oAppT (out := []) _ rfl rfl (by repeat constructor) (srcOwn rfl (by repeat constructor) (by first | rfl | simp)) el_139 sl_139 (fun g7 k7 => ?_)
    refine sp pMa ?_
    refine oNil ?_
    refine aRet ?_
    refine finOwn rfl ?_
    rfl
/- lsa.Copy -/
set_option maxRecDepth 100000 in
set_option maxHeartbeats 400000 in
theorem lsa_CopyO {l : Lsa} (hl : l.ls.length ≤ 1000000 := by omega) : Triple Try.prog 149 [.agg (lsaC l)] [] (fun q h' => ∃ g c, q = .agg [.int l.o, .int l.s, .v (slV g l.ls.length c)] ∧ h' = [.sl g c 138 2 (l.ls.map linkC)]) := by
  refine triple_ofR Try.func149 rfl (by kernel_rfl) rfl (by simp) ?_
  refine aSeq ?_
  refine aReg ?_
  refine sq ?_
  refine qBox rfl rfl (by decide) rfl rfl (fun b1 => ?_)
  refine sq ?_
  refine qAlloc rfl rfl (by decide) ze_141 rfl (fun b2 => ?_)
  refine oNil ?_
  refine aSeq ?_
  refine aReg ?_
  refine sp (pFb fd_141_2) ?_
  refine sr (rB1 ty_139) ?_
  refine sa ?_
  first | refine coM rfl rfl rfl (clone_Link (l := l.ls) hl) (fun g5 k5 => ?_) | refine co rfl rfl rfl (clone_Link (l := l.ls) hl) (fun g5 k5 => ?_)
  refine sp (pFb fd_141_2) ?_
  refine sa ?_
  refine oStB rfl rfl rfl rfl (by repeat constructor) ty_139 rfl (Nat.le_of_ble_eq_true rfl) rfl ?_
  refine oNil ?_
  refine aSeq ?_
  refine aReg ?_
  refine sr (by first | exact rBWa ty_141 | exact rBW ty_141 | exact rBA ty_141) ?_
  refine sa ?_
  refine oStW rfl rfl rfl rfl (by repeat constructor) ty_141 ?_
  refine oNil ?_
  refine aRet ?_
  exact ⟨[.agg [.int l.o, .int l.s, .v (slV g5 l.ls.length k5)]], [.sl g5 k5 138 2 (l.ls.map linkC)], _, .cons (.cellA rfl (by repeat (first | exact List.mem_cons_self | apply List.mem_cons_of_mem)) ty_141) .nil, (by repeat constructor), g5, k5, rfl, rfl⟩
theorem lsa_Copy_s {l : Lsa} (hl : l.ls.length ≤ 1000000 := by omega) : Triple Try.prog 149 [.agg (lsaC l)] [] (Is (.agg (lsaC l)) []) :=
  (lsa_CopyO (l := l) hl).deep fun q h' ⟨g, c, hq, hh⟩ => ⟨_, [.sl g c 138 2 (l.ls.map linkC)], [], by subst hh; exact .cons .hd .nil, by subst hq; exact .agg (.same (.same (.sl List.mem_cons_self (by rw [List.length_map]) Deep.refl (.row .nil)))) (.row .nil), rfl, rfl⟩
/- lsdb.find$1 -/
set_option maxRecDepth 100000 in
set_option maxHeartbeats 400000 in
theorem lsdb_find1 {x : Lsa} {n : Int} : Triple Try.prog 273 [.agg (lsaC x), .int n] [] (Is (.v (.int .i64 (cmpI x.o n))) []) := by
  refine triple_of Try.func273 rfl (by kernel_rfl) rfl (by simp) ?_
  refine aSeq ?_
  refine aReg ?_
  refine sq ?_
  refine qBox rfl rfl (by decide) rfl rfl (fun b2 => ?_)
  refine sp pMa ?_
  refine oNil ?_
  refine aSeq ?_
  refine aReg ?_
  refine sp (pFb fd_141_0) ?_
  refine sr (rB1 ty_3) ?_
  refine sp pM ?_
  refine sq ?_
  refine cv rfl rfl rfl (lents_refl _) cmp_Compare ?_
  refine sp pMa ?_
  refine oNil ?_
  refine aRet ?_
  refine finIs rfl ?_
  rfl
/- api.Lsa,int] -/
set_option maxRecDepth 100000 in
set_option maxHeartbeats 2000000 in
theorem bs_Lsa {l : List Lsa} {n : Int} (hs : l.Pairwise (fun x y => x.o < y.o)) (hl : l.length ≤ 1000000) : Triple Try.prog 272 [.sl 3 (l.map lsaC), .int n, .fn (.func 273) []] [] (Is (.tup [.int (posL l n), .v (.bool (hasL l n))]) []) := by
  refine triple_of Try.func272 rfl (by kernel_rfl) rfl (by simp) ?_
  refine aSeq ?_
  refine aReg ?_
  refine sp pMa ?_
  refine sp pMa ?_
  refine oNil ?_
  refine aSeq ?_
  refine aReg ?_
  refine sp pM ?_
  refine sp (by first | exact pLm sl_55 | exact pLs sl_55) ?_
  refine sp pMa ?_
  refine oNil ?_
  refine aSeq ?_
  refine aReg ?_
  refine sp pM ?_
  refine sp pMa ?_
  refine sp pMa ?_
  refine oNil ?_
  refine aSeq ?_
  refine aBlock ?_
  refine loopF (α := Nat × Nat) (kept := [(0, _), (1, _), (2, _), (8, _)]) (fun (i, j) => i ≤ j ∧ j ≤ l.length ∧ (∀ k x, k < i → l[k]? = some x → x.o < n) ∧ (∀ k x, j ≤ k → l[k]? = some x → n ≤ x.o)) (fun (i, j) => [(9, .int i), (10, .int j)]) (fun (i, j) => []) (fun (i, j) => j - i) (0, l.length) ?_ ⟨gInt rfl (by first | rfl | omega | simp), gInt rfl (by first | rfl | omega | simp), rfl, rfl, rfl, rfl, trivial⟩ (by repeat constructor) ?_
  · skip
    exact ⟨by omega, by omega, fun k x hk _ => by omega, fun k x hk hx => by have := (List.getElem?_eq_some_iff.1 hx).1; omega⟩
  · rintro ⟨i, j⟩ ⟨hij, hj, h1, h2⟩
    refine aSeq ?_
    refine aSeq ?_
    refine aReg ?_
    refine sp pM ?_
    refine sp pM ?_
    refine sp pB ?_
    refine oNil ?_
    refine aCondDec rfl (fun c17 => ?_) (fun c17 => ?_)
    · skip
      refine aSkip ?_
      refine aBlock ?_
      refine aSeq ?_
      refine aReg ?_
      refine sp pM ?_
      refine sp pM ?_
      refine sp pAd ?_
      refine sp (pConv (n' := ((i + j : Nat) : Int)) rfl rfl ik_3 ik_270 (by rw [show (i : Int) + j = ((i + j : Nat) : Int) by omega]; exact wrap_u64 (by omega) (by omega))) ?_
      refine sp (pShrN (a := i + j) (r := 1) rfl rfl rfl rfl (by decide)) ?_
      refine sp (pConv (n' := (((i + j) / 2 : Nat) : Int)) rfl rfl ik_270 ik_3 (wrap_i64 (by omega) (by omega))) ?_
      refine sp pMa ?_
      refine oNil ?_
      refine aSeq ?_
      obtain ⟨m, hm⟩ : ∃ m, m = (i + j) / 2 := ⟨_, rfl⟩
      rw [← hm]
      obtain ⟨x, hx⟩ : ∃ z, l[m]? = some z := ⟨_, List.getElem?_eq_getElem (by omega)⟩
      refine aReg ?_
      refine sp pM ?_
      refine sp pM ?_
      refine sp pM ?_
      first | refine sp (pIx es_55) ?_ | (refine obtSN 25 26 rfl rfl (by omega) (fun x27 hx27 => ?_); refine sp (pIs es_55 hx27) ?_) | (refine obtS 25 26 rfl rfl (by omega) (by omega) (fun x27 hx27 => ?_); refine sp (pIs es_55 hx27) ?_) | refine sp (pIo es_55) ?_
      refine sr (by first | exact rSW ty_141 rfl | exact rSA ty_141) ?_
      refine sp pM ?_
      refine sq ?_
      refine cv rfl rfl rfl (lents_refl _) (lsdb_find1 (x := x) (n := n)) ?_
      refine sp pB ?_
      refine oNil ?_
      refine aCondDec rfl (fun c31 => ?_) (fun c31 => ?_)
      · skip
        refine aReg ?_
        refine sp pM ?_
        refine sp pAd ?_
        refine sp pMa ?_
        refine oNil ?_
        first
          | (refine ⟨(m + 1, j), ?_, by (try dsimp only); omega, ⟨gInt rfl (by first | rfl | omega | simp), gInt rfl (by first | rfl | omega | simp), rfl, rfl, rfl, rfl, trivial⟩, _, (by repeat constructor)⟩
             have hc := cmpI_lt (a := x.o) (b := n)
             refine ⟨by omega, by omega, fun k y hk hy => ?_, h2⟩
             have hxn : x.o < n := by omega
             by_cases e : k = m
             · subst e; rw [hx] at hy; cases hy; exact hxn
             · have := sortL_at hs hy hx (by omega); omega)
          | (refine ⟨(i, m), ?_, by (try dsimp only); omega, ⟨gInt rfl (by first | rfl | omega | simp), gInt rfl (by first | rfl | omega | simp), rfl, rfl, rfl, rfl, trivial⟩, _, (by repeat constructor)⟩
             have hc := cmpI_lt (a := x.o) (b := n)
             refine ⟨by omega, by omega, h1, fun k y hk hy => ?_⟩
             have hxn : n ≤ x.o := by omega
             by_cases e : k = m
             · subst e; rw [hx] at hy; cases hy; exact hxn
             · have := sortL_at hs hx hy (by omega); omega)
      · skip
        refine aReg ?_
        refine sp pM ?_
        refine sp pMa ?_
        refine oNil ?_
        first
          | (refine ⟨(m + 1, j), ?_, by (try dsimp only); omega, ⟨gInt rfl (by first | rfl | omega | simp), gInt rfl (by first | rfl | omega | simp), rfl, rfl, rfl, rfl, trivial⟩, _, (by repeat constructor)⟩
             have hc := cmpI_lt (a := x.o) (b := n)
             refine ⟨by omega, by omega, fun k y hk hy => ?_, h2⟩
             have hxn : x.o < n := by omega
             by_cases e : k = m
             · subst e; rw [hx] at hy; cases hy; exact hxn
             · have := sortL_at hs hy hx (by omega); omega)
          | (refine ⟨(i, m), ?_, by (try dsimp only); omega, ⟨gInt rfl (by first | rfl | omega | simp), gInt rfl (by first | rfl | omega | simp), rfl, rfl, rfl, rfl, trivial⟩, _, (by repeat constructor)⟩
             have hc := cmpI_lt (a := x.o) (b := n)
             refine ⟨by omega, by omega, h1, fun k y hk hy => ?_⟩
             have hxn : n ≤ x.o := by omega
             by_cases e : k = m
             · subst e; rw [hx] at hy; cases hy; exact hxn
             · have := sortL_at hs hx hy (by omega); omega)
    · skip
      refine aExit rfl ?_
      refine aSeq ?_
      obtain rfl : i = j := by omega
      have hpos := posL_is (by omega) h1 h2
      have hhas := hasL_pos hs h1 h2
      refine aReg ?_
      refine sp pM ?_
      refine sp pM ?_
      refine sp pM ?_
      refine sp pB ?_
      refine sp pM ?_
      refine oSplitDec 39 rfl (fun c39 => ?_) (fun c39 => ?_)
      · skip
        refine gp pM ?_
        refine gp pM ?_
        refine gp pM ?_
        first | refine gp (pIx es_55) ?_ | (refine obtSN 41 42 rfl rfl (by omega) (fun x43 hx43 => ?_); refine gp (pIs es_55 hx43) ?_) | (refine obtS 41 42 rfl rfl (by omega) (by omega) (fun x43 hx43 => ?_); refine gp (pIs es_55 hx43) ?_) | refine gp (pIo es_55) ?_
        refine gr (by first | exact rSW ty_141 rfl | exact rSA ty_141) ?_
        refine gp pM ?_
        refine ga ?_
        refine (cv rfl rfl rfl (lents_refl _) (lsdb_find1 (x := x43) (n := n)) ?_).op
        refine gp pB ?_
        refine sp pK ?_
        refine sp pMa ?_
        refine sp pMa ?_
        refine oNil ?_
        refine aRet ?_
        refine finIs rfl ?_
        rw [hpos, hhas]
        first
          | (have hc := cmpI_ne (a := x43.o) (b := n)
             simp_all [retOf]
             rw [Bool.eq_iff_iff]
             simp
             omega)
          | (simp_all [retOf]; done)
      · skip
        refine gf ?_
        refine gf ?_
        refine gf ?_
        refine gf ?_
        refine gf ?_
        refine gf ?_
        refine gf ?_
        refine gf ?_
        refine sp pK ?_
        refine sp pMa ?_
        refine sp pMa ?_
        refine oNil ?_
        refine aRet ?_
        refine finIs rfl ?_
        rw [hpos, hhas]
        first
          | (have hc := cmpI_ne (a := x43.o) (b := n)
             simp_all [retOf]
             rw [Bool.eq_iff_iff]
             simp
             omega)
          | (simp_all [retOf]; done)
/- lsdb.find -/
set_option maxRecDepth 100000 in
set_option maxHeartbeats 400000 in
theorem lsdb_find {l : List Lsa} {n : Int} (hs : l.Pairwise (fun x y => x.o < y.o)) (hl : l.length ≤ 1000000) : Triple Try.prog 236 [.sl 3 (l.map lsaC), .int n] [] (Is (.tup [.int (posL l n), .v (.bool (hasL l n))]) []) := by
  refine triple_of Try.func236 rfl (by kernel_rfl) rfl (by simp) ?_
  refine aSeq ?_
  refine aReg ?_
  refine sp pMa ?_
  refine sp pMa ?_
  refine oNil ?_
  refine aSeq ?_
  refine aReg ?_
  refine sp pM ?_
  refine sp pM ?_
  refine sq ?_
  refine ci rfl rfl rfl (bs_Lsa (l := l) (n := n) hs hl) ?_
  refine sp pX ?_
  refine sp pX ?_
  refine sp pMa ?_
  refine sp pMa ?_
  refine oNil ?_
  refine aRet ?_
  refine finIs rfl ?_
  rfl
/- lsdb.Get -/
set_option maxRecDepth 100000 in
set_option maxHeartbeats 1000000 in
theorem lsdb_Get {db : List Lsa} {n : Int} (hv : lsdbB 0 db = true) : Triple Try.prog 158 [.sl 3 (db.map lsaC), .int n] [] (Is (.tup [.agg (lsaC (getL db n)), .v (.bool (hasL db n))]) []) := by
  have h64 := lsdb_len64 hv
  obtain ⟨hg1, hg2⟩ := hasL_get hv (n := n)
  refine triple_ofR Try.func158 rfl (by kernel_rfl) rfl (by simp) ?_
  refine aSeq ?_
  refine aReg ?_
  refine sq ?_
  refine qAlloc rfl rfl (by decide) ze_141 rfl (fun b4 => ?_)
  refine sp pMa ?_
  refine oNil ?_
  refine aSeq ?_
  refine aSeq ?_
  refine aReg ?_
  refine sp pM ?_
  refine sq ?_
  refine cv rfl rfl rfl (lents_refl _) (lsdb_Check_v (db := db) (by omega)) ?_
  rw [hv]
  refine sp pB ?_
  refine oNil ?_
  refine aCondF rfl ?_
  refine aSkip ?_
  refine aSeq ?_
  refine aReg ?_
  refine sp pM ?_
  refine sp pM ?_
  refine sq ?_
  refine ci rfl rfl rfl (lsdb_find (l := db) (n := n) (lsdbB_spec hv).2 (by omega)) ?_
  refine sp pM ?_
  refine sp pX ?_
  refine sp pX ?_
  refine sp pMa ?_
  refine sp pMa ?_
  refine oNil ?_
  refine aSeq ?_
  refine aSeq ?_
  refine aReg ?_
  refine sp pM ?_
  refine sp pNo ?_
  refine oNil ?_
  refine aCondNot rfl (fun c19 => ?_) (fun c19 => ?_)
  · skip
    refine aSeq ?_
    refine aReg ?_
    refine sp (pBuild rfl st_141 ze_141 rfl rfl rfl rfl) ?_
    refine sa ?_
    refine oStW rfl rfl rfl rfl (by repeat constructor) ty_141 ?_
    refine sp pMa ?_
    refine oNil ?_
    refine aRet ?_
    refine finRIs (l := [.agg (lsaC ⟨0, 0, []⟩), .v (.bool false)]) (.cons ((.cast (a := .agg [.int 0, .int 0, .v (.slice none 0 0)]) (.cellA rfl (by repeat (first | exact List.mem_cons_self | apply List.mem_cons_of_mem)) ty_141) cast_lsa0)) (.cons (.tmp rfl) .nil)) ?_
    rw [hg2 (by simp_all)]
    simp_all [retOf]
  · skip
    refine aSkip ?_
    refine aSeq ?_
    obtain ⟨x, hx, hgx⟩ := hg1 (by simp_all)
    refine aReg ?_
    refine sp pM ?_
    refine sp pM ?_
    first | refine sp (pIx es_55) ?_ | (refine obtSN 21 22 rfl rfl (by omega) (fun x23 hx23 => ?_); refine sp (pIs es_55 hx23) ?_) | (refine obtS 21 22 rfl rfl (by omega) (by omega) (fun x23 hx23 => ?_); refine sp (pIs es_55 hx23) ?_) | refine sp (pIo es_55) ?_
    refine sr (by first | exact rSW ty_141 rfl | exact rSA ty_141) ?_
    refine sq ?_
    refine ci rfl rfl rfl (lsa_Copy_s (l := x) (by have := lsa_links (lsdb_mem hv x (List.mem_of_getElem? hx)); omega)) ?_
    refine sa ?_
    refine oStW rfl rfl rfl rfl (by repeat constructor) ty_141 ?_
    refine sp pMa ?_
    refine oNil ?_
    refine aRet ?_
    refine finRIs (l := [.agg (lsaC x), .v (.bool true)]) (.cons (.cellA rfl (by repeat (first | exact List.mem_cons_self | apply List.mem_cons_of_mem)) ty_141) (.cons (.tmp rfl) .nil)) ?_
    rw [hgx]
    simp_all [retOf]
/- api.Link] -/
def equal_Link_r6_T : Bool × List (List Nat × List Nat) := (true, [([], []), ([], []), ([0, 1], [0, 1]), ([2], [2]), ([], []), ([], []), ([4, 5], [4, 5]), ([6], [6]), ([3, 7], [3, 7])])
def equal_Link_r6_B : List Nat := [0, 0, 3, 7, 0, 0, 48, 112, 255]
theorem equal_Link_r6_t : Go.Proofs.YtmcannmjielalaaW.PrintLast.rtab .any (Go.Proofs.YtmcannmjielalaaW.PrintLast.opsOf Try.f239 6) = equal_Link_r6_T := by kernel_rfl
theorem equal_Link_r6_b : Go.Proofs.YtmcannmjielalaaW.PrintLast.waitsOk equal_Link_r6_T.2 equal_Link_r6_B = true := by kernel_rfl
set_option maxRecDepth 100000 in
set_option maxHeartbeats 400000 in
theorem equal_Link {a b : List Link} (ha : a.length < 9223372036854775807 := by omega) (hb : b.length < 9223372036854775807 := by omega) : Triple Try.prog 239 [.sl 2 (a.map linkC), .sl 2 (b.map linkC)] [] (Is (.v (.bool (decide (a = b)))) []) := by
  refine triple_of Try.func239 rfl (by kernel_rfl) rfl (by simp) ?_
  refine aSeq ?_
  refine aReg ?_
  refine sp pMa ?_
  refine oNil ?_
  refine aSeq ?_
  refine aSeq ?_
  refine aReg ?_
  refine sp pM ?_
  refine sp (by first | exact pLm sl_139 | exact pLs sl_139) ?_
  refine sp pM ?_
  refine sp (by first | exact pLm sl_139 | exact pLs sl_139) ?_
  refine sp pB ?_
  refine oNil ?_
  refine aCondNe rfl (fun c10 => ?_) (fun c10 => ?_)
  · skip
    refine aSeq ?_
    refine aReg ?_
    refine sp pMa ?_
    refine oNil ?_
    refine aRet ?_
    refine finIs rfl ?_
    rw [decide_eq_false (fun e => by subst e; simp_all)]
    rfl
  · skip
    refine aSkip ?_
    refine aSeq ?_
    refine aSeq ?_
    refine aReg ?_
    refine sp pM ?_
    refine sp (by first | exact pLm sl_139 | exact pLs sl_139) ?_
    refine sp pM ?_
    refine oNil ?_
    refine aBlock ?_
    refine loopF (α := Nat) (kept := [(0, _), (1, _), (12, _)]) (fun i => i ≤ a.length ∧ a.length = b.length ∧ a.take i = b.take i) (fun i => [(13, .int i)]) (fun i => []) (fun i => a.length - i) 0 ?_ ⟨gInt rfl (by first | rfl | omega | simp), rfl, rfl, rfl, trivial⟩ (by repeat constructor) ?_
    · skip
      exact ⟨by omega, by omega, rfl⟩
    · rintro i ⟨hi, hl, hv⟩
      refine aSeq ?_
      refine aReg ?_
      refine sp pB ?_
      refine oNil ?_
      refine aSeq ?_
      refine aCondDec rfl (fun c14 => ?_) (fun c14 => ?_)
      · skip
        refine aSkip ?_
        refine aSeq ?_
        refine aBlock ?_
        refine aSeq ?_
        refine aReg ?_
        refine sp pM ?_
        refine sp pMa ?_
        refine oNil ?_
        refine aSeq ?_
        refine aDrawT equal_Link_r6_t equal_Link_r6_b [] 9 #[false, false, false, false, false, false, false, false, false] (by kernel_rfl) rfl rfl (fun HT => ?_)
        refine dp HT 0 rfl pM ?_
        refine dp HT 1 rfl pM ?_
        first | refine dp HT 2 rfl (pIx es_139) ?_ | (refine obtDN 16 17 rfl rfl (by omega) (fun x18 hx18 => ?_); refine dp HT 2 rfl (pIs es_139 hx18) ?_) | (refine obtD 16 17 rfl rfl (by omega) (by omega) (fun x18 hx18 => ?_); refine dp HT 2 rfl (pIs es_139 hx18) ?_) | refine dp HT 2 rfl (pIo es_139) ?_
        refine dr HT 3 rfl (by first | exact rSW ty_138 rfl | exact rSA ty_138) ?_
        refine dp HT 4 rfl pM ?_
        refine dp HT 5 rfl pM ?_
        first | refine dp HT 6 rfl (pIx es_139) ?_ | (refine obtDN 20 21 rfl rfl (by omega) (fun x22 hx22 => ?_); refine dp HT 6 rfl (pIs es_139 hx22) ?_) | (refine obtD 20 21 rfl rfl (by omega) (by omega) (fun x22 hx22 => ?_); refine dp HT 6 rfl (pIs es_139 hx22) ?_) | refine dp HT 6 rfl (pIo es_139) ?_
        refine dr HT 7 rfl (by first | exact rSW ty_138 rfl | exact rSA ty_138) ?_
        refine dp HT 8 rfl (pEqAn eq_138) ?_
        refine dE HT ?_
        clear HT
        refine aCond rfl (fun c24 => ?_) (fun c24 => ?_)
        · skip
          refine aSeq ?_
          refine aReg ?_
          refine sp pMa ?_
          refine oNil ?_
          refine aRet ?_
          refine finIs rfl ?_
          rw [decide_eq_false (fun e => by subst e; obtain rfl := Option.some.inj (hx18.symm.trans hx22); simp_all)]
          rfl
        · skip
          refine aSkip ?_
          refine aReg ?_
          refine sp pAd ?_
          refine sp pM ?_
          refine oNil ?_
          refine ⟨i + 1, ?_, by (try dsimp only); omega, ⟨gInt rfl (by first | rfl | omega | simp), rfl, rfl, rfl, trivial⟩, _, (by repeat constructor)⟩
          have hxy : x18 = x22 := by
            cases x18
            cases x22
            simp_all
          exact ⟨by omega, hl, by rw [take_step hx18, take_step hx22, hv, hxy]⟩
      · skip
        refine aExit rfl ?_
        refine aSeq ?_
        refine aReg ?_
        refine sp pMa ?_
        refine oNil ?_
        refine aRet ?_
        refine finIs rfl ?_
        rw [take_all (by omega), take_all (by omega)] at hv
        rw [decide_eq_true hv]
        rfl
/- lsa.Same -/
set_option maxRecDepth 100000 in
set_option maxHeartbeats 400000 in
theorem lsa_Same {a b : Lsa} (ha : a.ls.length < 9223372036854775807 := by omega) (hb : b.ls.length < 9223372036854775807 := by omega) : Triple Try.prog 162 [.agg (lsaC a), .agg (lsaC b)] [] (Is (.v (.bool (decide (a = b)))) []) := by
  refine triple_of Try.func162 rfl (by kernel_rfl) rfl (by simp) ?_
  refine aSeq ?_
  refine aReg ?_
  refine sq ?_
  refine qBox rfl rfl (by decide) rfl rfl (fun b2 => ?_)
  refine sq ?_
  refine qBox rfl rfl (by decide) rfl rfl (fun b3 => ?_)
  refine sp pMa ?_
  refine oNil ?_
  refine aSeq ?_
  refine aReg ?_
  refine sp (pFb fd_141_0) ?_
  refine sr (rB1 ty_3) ?_
  refine sp (pFb fd_141_0) ?_
  refine sr (rB1 ty_3) ?_
  refine sp pB ?_
  refine sp pM ?_
  refine oSplitEq 10 rfl (fun c10 => ?_) (fun c10 => ?_)
  · skip
    refine gp (pFb fd_141_1) ?_
    refine gr (rB1 ty_3) ?_
    refine gp (pFb fd_141_1) ?_
    refine gr (rB1 ty_3) ?_
    refine gp pB ?_
    refine sp pK ?_
    refine sp pM ?_
    refine oSplitEq 17 rfl (fun c17 => ?_) (fun c17 => ?_)
    · skip
      refine gp (pFb fd_141_2) ?_
      refine gr (rB1 ty_139) ?_
      refine gp (pFb fd_141_2) ?_
      refine gr (rB1 ty_139) ?_
      refine ga ?_
      refine (cv rfl rfl rfl (lents_refl _) (equal_Link (a := a.ls) (b := b.ls) ha hb) ?_).op
      refine sp pK ?_
      refine sp pMa ?_
      refine oNil ?_
      refine aRet ?_
      refine finIs rfl ?_
      cases a
      cases b
      simp_all [retOf]
    · skip
      refine gf ?_
      refine gf ?_
      refine gf ?_
      refine gf ?_
      refine gf ?_
      refine sp pK ?_
      refine sp pMa ?_
      refine oNil ?_
      refine aRet ?_
      refine finIs rfl ?_
      cases a
      cases b
      simp_all [retOf]
  · skip
    refine gf ?_
    refine gf ?_
    refine gf ?_
    refine gf ?_
    refine gf ?_
    refine sp pK ?_
    refine sp pM ?_
    refine gf ?_
    refine gf ?_
    refine gf ?_
    refine gf ?_
    refine gf ?_
    refine sp pK ?_
    refine sp pMa ?_
    refine oNil ?_
    refine aRet ?_
    refine finIs rfl ?_
    cases a
    cases b
    simp_all [retOf]
/- api.Lsa] -/
set_option maxRecDepth 100000 in
set_option maxHeartbeats 400000 in
theorem equalF_Lsa {a b : List Lsa} (ha : a.length < 9223372036854775807 := by omega) (hb : b.length < 9223372036854775807 := by omega) (hma : ∀ x ∈ a, x.ls.length < 9223372036854775807) (hmb : ∀ x ∈ b, x.ls.length < 9223372036854775807) : Triple Try.prog 161 [.sl 3 (a.map lsaC), .sl 3 (b.map lsaC), .fn (.func 162) []] [] (Is (.v (.bool (decide (a = b)))) []) := by
  refine triple_of Try.func161 rfl (by kernel_rfl) rfl (by simp) ?_
  refine aSeq ?_
  refine aReg ?_
  refine sp pMa ?_
  refine oNil ?_
  refine aSeq ?_
  refine aSeq ?_
  refine aReg ?_
  refine sp pM ?_
  refine sp (by first | exact pLm sl_55 | exact pLs sl_55) ?_
  refine sp pM ?_
  refine sp (by first | exact pLm sl_55 | exact pLs sl_55) ?_
  refine sp pB ?_
  refine oNil ?_
  refine aCondNe rfl (fun c14 => ?_) (fun c14 => ?_)
  · skip
    refine aSeq ?_
    refine aReg ?_
    refine sp pMa ?_
    refine oNil ?_
    refine aRet ?_
    refine finIs rfl ?_
    rw [decide_eq_false (fun e => by subst e; simp_all)]
    rfl
  · skip
    refine aSkip ?_
    refine aSeq ?_
    refine aSeq ?_
    refine aReg ?_
    refine sp pM ?_
    refine sp (by first | exact pLm sl_55 | exact pLs sl_55) ?_
    refine sp pM ?_
    refine oNil ?_
    refine aBlock ?_
    refine loopF (α := Nat) (kept := [(1, _), (2, _), (15, _), (16, _)]) (fun i => i ≤ a.length ∧ a.length = b.length ∧ a.take i = b.take i) (fun i => [(17, .int i)]) (fun i => []) (fun i => a.length - i) 0 ?_ ⟨gInt rfl (by first | rfl | omega | simp), rfl, rfl, rfl, rfl, trivial⟩ (by repeat constructor) ?_
    · skip
      exact ⟨by omega, by omega, rfl⟩
    · rintro i ⟨hi, hl, hv⟩
      refine aSeq ?_
      refine aReg ?_
      refine sp pB ?_
      refine oNil ?_
      refine aSeq ?_
      refine aCondDec rfl (fun c18 => ?_) (fun c18 => ?_)
      · skip
        refine aSkip ?_
        refine aSeq ?_
        refine aBlock ?_
        refine aSeq ?_
        refine aReg ?_
        refine sp pM ?_
        first | refine sp (pIx es_55) ?_ | (refine obtSN 15 17 rfl rfl (by omega) (fun x20 hx20 => ?_); refine sp (pIs es_55 hx20) ?_) | (refine obtS 15 17 rfl rfl (by omega) (by omega) (fun x20 hx20 => ?_); refine sp (pIs es_55 hx20) ?_) | refine sp (pIo es_55) ?_
        refine sr (by first | exact rSW ty_141 rfl | exact rSA ty_141) ?_
        refine sq ?_
        refine qAlloc rfl rfl (by decide) ze_141 rfl (fun b8 => ?_)
        refine sp pMa ?_
        refine sa ?_
        refine oStW rfl rfl rfl rfl (by repeat constructor) ty_141 ?_
        refine oNil ?_
        refine aSeq ?_
        refine aReg ?_
        refine sp pM ?_
        refine sp pM ?_
        first | refine sp (pIx es_55) ?_ | (refine obtSN 22 23 rfl rfl (by omega) (fun x24 hx24 => ?_); refine sp (pIs es_55 hx24) ?_) | (refine obtS 22 23 rfl rfl (by omega) (by omega) (fun x24 hx24 => ?_); refine sp (pIs es_55 hx24) ?_) | refine sp (pIo es_55) ?_
        refine sr (by first | exact rSW ty_141 rfl | exact rSA ty_141) ?_
        refine sq ?_
        refine qAlloc rfl rfl (by decide) ze_141 rfl (fun b9 => ?_)
        refine sa ?_
        refine oStW rfl rfl rfl rfl (by repeat constructor) ty_141 ?_
        refine oNil ?_
        refine aSeq ?_
        refine aReg ?_
        refine sp pM ?_
        refine sr (by first | exact rBWa ty_141 | exact rBW ty_141 | exact rBA ty_141) ?_
        refine sr (by first | exact rBWa ty_141 | exact rBW ty_141 | exact rBA ty_141) ?_
        refine sq ?_
        refine cv rfl rfl rfl (lents_refl _) (lsa_Same (a := x20) (b := x24) (hma _ (List.mem_of_getElem? hx20)) (hmb _ (List.mem_of_getElem? hx24))) ?_
        refine sp pNo ?_
        refine oNil ?_
        refine aCondNot rfl (fun c30 => ?_) (fun c30 => ?_)
        · skip
          refine aSeq ?_
          refine aReg ?_
          refine sp pMa ?_
          refine oNil ?_
          refine aRet ?_
          refine finIs rfl ?_
          rw [decide_eq_false (fun e => by subst e; obtain rfl := Option.some.inj (hx20.symm.trans hx24); simp_all)]
          rfl
        · skip
          refine aSkip ?_
          refine aReg ?_
          refine sp pAd ?_
          refine sp pM ?_
          refine oNil ?_
          refine ⟨i + 1, ?_, by (try dsimp only); omega, ⟨gInt rfl (by first | rfl | omega | simp), rfl, rfl, rfl, rfl, trivial⟩, _, (by repeat constructor)⟩
          have hxy : x20 = x24 := by simp_all
          exact ⟨by omega, hl, by rw [take_step hx20, take_step hx24, hv, hxy]⟩
      · skip
        refine aExit rfl ?_
        refine aSeq ?_
        refine aReg ?_
        refine sp pMa ?_
        refine oNil ?_
        refine aRet ?_
        refine finIs rfl ?_
        rw [take_all (by omega), take_all (by omega)] at hv
        rw [decide_eq_true hv]
        rfl
end A
end Go.Proofs.Ytmcannmjielalaa
set_option linter.unusedVariables false
set_option linter.unusedSimpArgs false
namespace Go.Proofs.Ytmcannmjielalaa
namespace A
def basC (x : List Lsa) : List AV := [.sl 3 (x.map lsaC)]
def atB (b : List (List Lsa)) (n : Int) : List Lsa := b.getD (n - 1).toNat []
def baseM (b : List (List Lsa)) (n : Int) : List Lsa := if lsdbB 0 (atB b n) then atB b n else []
theorem base_ok (b : List (List Lsa)) (n : Int) : lsdbB 0 (baseM b n) = true := by
  unfold baseM
  split
  · assumption
  · rfl
theorem base_len (b : List (List Lsa)) (n : Int) : (baseM b n).length ≤ 64 := lsdb_len64 (base_ok b n)
theorem base_far {b : List (List Lsa)} {n : Int} (h : (b.length : Int) < n) : baseM b n = [] := by
  have : atB b n = [] := by
    unfold atB
    rw [List.getD, List.getElem?_eq_none (by omega)]
    rfl
  unfold baseM
  rw [this]
  split <;> rfl
theorem atB_at {b : List (List Lsa)} {n : Int} {x : List Lsa} (h : b[(n - 1).toNat]? = some x) : atB b n = x := by
  unfold atB
  rw [List.getD, h]
  rfl
theorem base_at {b : List (List Lsa)} {n : Int} {x : List Lsa} (h : b[(n - 1).toNat]? = some x) : baseM b n = if lsdbB 0 x then x else [] := by
  unfold baseM
  rw [atB_at h]
def goM (b : List (List Lsa)) (td : Int) : Nat → Int → List Int × Int
  | 0, v => if v = td then ([v], 1) else ([v], 3)
  | k + 1, v => if v = td then ([v], 1) else match findR (rtsDb (baseM b v) v) td with
    | none => ([v], 2)
    | some r => (v :: (goM b td k r.via).1, (goM b td k r.via).2)
theorem goM_here {b : List (List Lsa)} {td : Int} : ∀ {k : Nat}, goM b td k td = ([td], 1)
  | 0 => by rw [goM, if_pos rfl]
  | k + 1 => by rw [goM, if_pos rfl]
theorem goM_spent {b : List (List Lsa)} {td v : Int} (h : v ≠ td) : goM b td 0 v = ([v], 3) := by rw [goM, if_neg h]
theorem goM_lost {b : List (List Lsa)} {td v : Int} {k : Nat} (h : v ≠ td) (hf : (findR (rtsDb (baseM b v) v) td).isSome = false) : goM b td (k + 1) v = ([v], 2) := by
  rw [goM, if_neg h]
  cases hx : findR (rtsDb (baseM b v) v) td with
  | none => rfl
  | some r => rw [hx] at hf; cases hf
theorem goM_step {b : List (List Lsa)} {td v : Int} {k : Nat} (h : v ≠ td) (hf : (findR (rtsDb (baseM b v) v) td).isSome = true) : goM b td (k + 1) v = (v :: (goM b td k (findG (rtsDb (baseM b v) v) td).via).1, (goM b td k (findG (rtsDb (baseM b v) v) td).via).2) := by
  rw [goM, if_neg h]
  unfold findG
  cases hx : findR (rtsDb (baseM b v) v) td with
  | none => rw [hx] at hf; cases hf
  | some r => rfl
theorem find_via {db : List Lsa} {me td : Int} (h : (findR (rtsDb db me) td).isSome = true) : 1 ≤ (findG (rtsDb db me) td).via ∧ (findG (rtsDb db me) td).via ≤ 64 := by
  unfold findG
  cases hx : findR (rtsDb db me) td with
  | none => rw [hx] at h; cases h
  | some r =>
    obtain ⟨h1, h2⟩ := findR_some hx
    rw [Option.getD_some]
    unfold rtsDb at h1
    split at h1
    case isFalse => simp at h1
    rename_i hv
    obtain ⟨a, ha, _, h3, _⟩ := rts_via h1
    have := arcs_ok (dbArcs_ok hv) a ha
    unfold AOk at this
    omega
theorem findG_ok {db : List Lsa} {me td : Int} : (findR (rtsDb db me) td).isSome = true → 1 ≤ (findG (rtsDb db me) td).nd := fun h => by
  unfold findG
  cases hx : findR (rtsDb db me) td with
  | none => rw [hx] at h; cases h
  | some r =>
    obtain ⟨h1, h2⟩ := findR_some hx
    rw [Option.getD_some]
    unfold rtsDb at h1
    split at h1
    case isFalse => simp at h1
    rename_i hv
    obtain ⟨hok, _, h3, _⟩ := rtsM_mem h1
    have := isF_range (arcs_ok hok) h3
    omega
theorem findG_no {db : List Lsa} {me td : Int} (h : (findR (rtsDb db me) td).isSome = false) : findG (rtsDb db me) td = ⟨0, 0, 0⟩ := by
  unfold findG
  cases hx : findR (rtsDb db me) td with
  | none => rfl
  | some r => rw [hx] at h; cases h
theorem goM_len (b : List (List Lsa)) (td : Int) : ∀ (k : Nat) (v : Int), 1 ≤ (goM b td k v).1.length ∧ (goM b td k v).1.length ≤ k + 1
  | 0, v => by rw [goM]; split <;> simp
  | k + 1, v => by
    rw [goM]
    split
    · simp
    · split
      · simp
      · rename_i r _
        have := goM_len b td k r.via
        simp
        omega
theorem goM_rng {b : List (List Lsa)} {td : Int} : ∀ (k : Nat) (v : Int), 1 ≤ v → v ≤ 64 → ∀ u ∈ (goM b td k v).1, 1 ≤ u ∧ u ≤ 64
  | 0, v, h1, h2, u, hu => by
    have : u = v := by rw [goM] at hu; split at hu <;> simpa using hu
    omega
  | k + 1, v, h1, h2, u, hu => by
    by_cases e : v = td
    · rw [e, goM_here] at hu
      have : u = td := by simpa using hu
      omega
    · cases hs : (findR (rtsDb (baseM b v) v) td).isSome with
      | false => rw [goM_lost e hs] at hu; have : u = v := by simpa using hu
                 omega
      | true =>
        rw [goM_step e hs] at hu
        have hv := find_via hs
        rcases List.mem_cons.1 hu with rfl | hu
        · omega
        · exact goM_rng k _ hv.1 hv.2 u hu
def hopsN (h : Int) : Nat := (min (max h 0) 64).toNat
def goW (b : List (List Lsa)) (fr td hops : Int) : List Int × Int := if nodeB fr && nodeB td then goM b td (hopsN hops) fr else ([], 0)
theorem nodeB_iff {n : Int} : nodeB n = true ↔ 1 ≤ n ∧ n ≤ 64 := by unfold nodeB; simp
theorem goW_len (b : List (List Lsa)) (fr td hops : Int) : (goW b fr td hops).1.length ≤ 65 := by
  unfold goW
  split
  · have := goM_len b td (hopsN hops) fr
    have : hopsN hops ≤ 64 := by unfold hopsN; omega
    omega
  · simp
theorem goW_rng {b : List (List Lsa)} {fr td hops : Int} : ∀ u ∈ (goW b fr td hops).1, 1 ≤ u ∧ u ≤ 64 := fun u hu => by
  unfold goW at hu
  split at hu
  · rename_i h
    rw [Bool.and_eq_true] at h
    have := nodeB_iff.1 h.1
    exact goM_rng _ _ this.1 this.2 u hu
  · simp at hu
theorem goW_one {b : List (List Lsa)} {fr td hops : Int} (h : (goW b fr td hops).2 = 1) : 1 ≤ (goW b fr td hops).1.length ∧ 1 ≤ fr ∧ fr ≤ 64 := by
  unfold goW at h ⊢
  split
  · rename_i h2
    rw [Bool.and_eq_true] at h2
    exact ⟨(goM_len b td (hopsN hops) fr).1, nodeB_iff.1 h2.1⟩
  · rename_i h2
    rw [if_neg h2] at h
    cases h
/-! ### What a walk costs -/
def stepC (b : List (List Lsa)) (x y : Int) : Int := costL (getL (baseM b x) x).ls y
def sumI (b : List (List Lsa)) (L : List Int) : Nat → Int
  | 0 => 0
  | i + 1 => sumI b L i + stepC b (L.getD i 0) (L.getD (i + 1) 0)
theorem costL_range {db : List Lsa} (h : lsdbB 0 db = true) (n m : Int) : 0 ≤ costL (getL db n).ls m ∧ costL (getL db n).ls m ≤ 1073741824 := by
  unfold costL
  cases hf : (getL db n).ls.find? (fun x => x.t == m) with
  | none => exact ⟨Int.le_refl _, by decide⟩
  | some x =>
    have hx := List.mem_of_find?_eq_some hf
    unfold getL at hx
    cases hg : db.reverse.find? (fun l => l.o == n) with
    | none => rw [hg] at hx; simp at hx
    | some l =>
      rw [hg] at hx
      have hl := (lsdbB_spec h).1 l (by simpa using List.mem_of_find?_eq_some hg)
      have := (linksB_spec (lsaB_links hl.2)).1 x hx
      show 0 ≤ x.c ∧ x.c ≤ 1073741824
      omega
theorem stepC_range (b : List (List Lsa)) (x y : Int) : 0 ≤ stepC b x y ∧ stepC b x y ≤ 1073741824 := costL_range (base_ok b x) x y
theorem sumI_range (b : List (List Lsa)) (L : List Int) : ∀ i : Nat, 0 ≤ sumI b L i ∧ sumI b L i ≤ i * 1073741824
  | 0 => ⟨Int.le_refl _, by simp [sumI]⟩
  | i + 1 => by
    have h1 := sumI_range b L i
    have h2 := stepC_range b (L.getD i 0) (L.getD (i + 1) 0)
    unfold sumI
    omega
theorem sumI_step {b : List (List Lsa)} {L : List Int} {i : Nat} {x y : Int} (hx : L[i]? = some x) (hy : L[i + 1]? = some y) : sumI b L (i + 1) = sumI b L i + stepC b x y := by
  rw [sumI, List.getD, List.getD, hx, hy]
  rfl
/-! ### Have nodes the same base -/
def agP (b : List (List Lsa)) (n0 n : Int) : Bool := decide (1 ≤ n) && decide (n ≤ (b.length : Int)) && lsdbB 0 (atB b n) && decide (atB b n = baseM b n0)
def agreeM (b : List (List Lsa)) (l : List Int) : Bool := l.all fun n => nodeB n && agP b (l.getD 0 0) n
theorem all_step {l : List Int} {p : Int → Bool} {i : Nat} {x : Int} (h : l[i]? = some x) (hv : ∀ y ∈ l.take i, p y = true) (hp : p x = true) : ∀ y ∈ l.take (i + 1), p y = true := fun y hy => by
  rw [take_step h] at hy
  rcases List.mem_append.1 hy with hy | hy
  · exact hv y hy
  · rw [List.mem_singleton.1 hy]; exact hp
theorem all_bad {l : List Int} {p : Int → Bool} {i : Nat} {x : Int} (h : l[i]? = some x) (hp : p x = false) : l.all p = false := by
  rw [Bool.eq_false_iff]
  intro h2
  have := List.all_eq_true.1 h2 x (List.mem_of_getElem? h)
  rw [hp] at this
  cases this
end A
end Go.Proofs.Ytmcannmjielalaa
set_option linter.unusedVariables false
set_option linter.unusedSimpArgs false
namespace Go.Proofs.Ytmcannmjielalaa
namespace A
theorem op_Link : OpC Try.prog 138 2 Link linkC (fun _ => True) :=
  opMap (opStruct Try.underlying138 (by kernel_rfl) (fsCons rfl (by kernel_rfl) (opInt Try.underlying3) (fsCons rfl (by kernel_rfl) (opInt Try.underlying3) fsNil))) (fun x => ⟨x.1, x.2.1⟩) (fun _ => rfl) (fun _ _ => trivial)
theorem op_Lsa : OpC Try.prog 141 3 Lsa lsaC (fun _ => True) :=
  opMap (opStruct Try.underlying141 (by kernel_rfl) (fsCons rfl (by kernel_rfl) (opInt Try.underlying3) (fsCons rfl (by kernel_rfl) (opInt Try.underlying3) (fsCons rfl (by kernel_rfl) (opSlice Try.underlying139 (by kernel_rfl) (by decide) op_Link) fsNil)))) (fun x => ⟨x.1, x.2.1, x.2.2.1⟩) (fun _ => rfl) (fun _ _ => trivial)
theorem op_Trip : OpC Try.prog 83 3 (Int × Int × Int) (fun p => [.int p.1, .int p.2.1, .int p.2.2]) (fun _ => True) :=
  opMap (opStruct Try.underlying83 (by kernel_rfl) (fsCons rfl (by kernel_rfl) (opInt Try.underlying3) (fsCons rfl (by kernel_rfl) (opInt Try.underlying3) (fsCons rfl (by kernel_rfl) (opInt Try.underlying3) fsNil)))) (fun x => (x.1, x.2.1, x.2.2.1)) (fun _ => rfl) (fun _ _ => trivial)
end A
end Go.Proofs.Ytmcannmjielalaa
set_option linter.unusedVariables false
set_option linter.unusedSimpArgs false
namespace Go.Proofs.Ytmcannmjielalaa
namespace A
theorem es_81 : elemSize Try.prog 81 = some 1 := by kernel_rfl
theorem fd_86_0 : fieldOf Try.prog 86 0 = some (0, 1, false) := by kernel_rfl
theorem fd_86_1 : fieldOf Try.prog 86 1 = some (1, 1, false) := by kernel_rfl
theorem sl_81 : isSl Try.prog 81 = true := by kernel_rfl
theorem st_86 : structPlaces Try.prog 86 = some [(0, 1), (1, 1)] := by kernel_rfl
theorem ty_55 : tyOf Try.prog 55 = some (1, false) := by kernel_rfl
theorem ty_86 : tyOf Try.prog 86 = some (2, true) := by kernel_rfl
theorem ze_86 : zeroOf Try.prog 86 = some (.agg #[.slice none 0 0, .int .i64 0]) := by kernel_rfl
/- hop.node -/
set_option maxRecDepth 100000 in
set_option maxHeartbeats 400000 in
theorem hop_node {n : Int} : Triple Try.prog 156 [.int n] [] (Is (.v (.bool (nodeB n))) []) := by
  refine triple_of Try.func156 rfl (by kernel_rfl) rfl (by simp) ?_
  refine aSeq ?_
  refine aReg ?_
  refine sp pMa ?_
  refine oNil ?_
  refine aSeq ?_
  refine aReg ?_
  refine sp pM ?_
  refine sp pB ?_
  refine sp pM ?_
  refine oSplitDec 5 rfl (fun c5 => ?_) (fun c5 => ?_)
  · skip
    refine gp pM ?_
    refine gp pB ?_
    refine sp pK ?_
    refine sp pMa ?_
    refine oNil ?_
    refine aRet ?_
    refine finIs rfl ?_
    unfold nodeB
    simp_all [retOf]
    all_goals omega
  · skip
    refine gf ?_
    refine gf ?_
    refine sp pK ?_
    refine sp pMa ?_
    refine oNil ?_
    refine aRet ?_
    refine finIs rfl ?_
    unfold nodeB
    simp_all [retOf]
    all_goals omega
/- hop.base -/
set_option maxRecDepth 100000 in
set_option maxHeartbeats 400000 in
theorem hop_base {b : List (List Lsa)} {n : Int} (hn : 1 ≤ n) (hbl : b.length < 9223372036854775807) (hb : ∀ x ∈ b, x.length < 9223372036854775807) : Triple Try.prog 159 [.sl 1 (b.map basC), .int n] [] (Is (.sl 3 ((baseM b n).map lsaC)) []) := by
  refine triple_of Try.func159 rfl (by kernel_rfl) rfl (by simp) ?_
  refine aSeq ?_
  refine aReg ?_
  refine sp pMa ?_
  refine oNil ?_
  refine aSeq ?_
  refine aSeq ?_
  refine aReg ?_
  refine sp pM ?_
  refine sp pM ?_
  refine sp (by first | exact pLm sl_81 | exact pLs sl_81) ?_
  refine sp pB ?_
  refine sp pM ?_
  refine oSplitDec 9 rfl (fun c9 => ?_) (fun c9 => ?_)
  · skip
    refine gf ?_
    refine gf ?_
    refine gf ?_
    refine gf ?_
    refine gf ?_
    refine gf ?_
    refine gf ?_
    refine sp pK ?_
    refine oNil ?_
    refine aCondT rfl ?_
    refine aSeq ?_
    refine aReg ?_
    refine sp pMa ?_
    refine oNil ?_
    refine aWeak (weak_nil 141 3) ?_
    refine aWeak (weak_settle (k := 4) (n := 0) (g := none) (c := 0) rfl .hd rfl) ?_
    refine aRet ?_
    refine finIs rfl ?_
    first
      | (rw [base_far (by omega)]; rfl)
      | (rw [base_at hx13]
         have hno : lsdbB 0 x13 = false := by cases h : lsdbB 0 x13 <;> simp_all
         rw [hno]
         rfl)
  · skip
    refine gp pM ?_
    refine gp pM ?_
    refine gp pSu ?_
    first | refine gp (pIx es_81) ?_ | (refine obtSN 10 12 rfl rfl (by omega) (fun x13 hx13 => ?_); refine gp (pIs es_81 hx13) ?_) | (refine obtS 10 12 rfl rfl (by omega) (by omega) (fun x13 hx13 => ?_); refine gp (pIs es_81 hx13) ?_) | refine gp (pIo es_81) ?_
    refine gr (rS1 ty_55) ?_
    refine ga ?_
    refine (cv rfl rfl rfl (lents_refl _) (lsdb_Check_v (db := x13) (hb _ (List.mem_of_getElem? hx13))) ?_).op
    refine gp pB ?_
    refine sp pK ?_
    refine oNil ?_
    refine aCondNe rfl (fun c17 => ?_) (fun c17 => ?_)
    · skip
      refine aSeq ?_
      refine aReg ?_
      refine sp pMa ?_
      refine oNil ?_
      refine aWeak (weak_nil 141 3) ?_
      refine aWeak (weak_settle (k := 4) (n := 0) (g := none) (c := 0) rfl .hd rfl) ?_
      refine aRet ?_
      refine finIs rfl ?_
      first
        | (rw [base_far (by omega)]; rfl)
        | (rw [base_at hx13]
           have hno : lsdbB 0 x13 = false := by cases h : lsdbB 0 x13 <;> simp_all
           rw [hno]
           rfl)
    · skip
      refine aSkip ?_
      refine aSeq ?_
      refine aReg ?_
      refine sp pM ?_
      refine sp pM ?_
      refine sp pSu ?_
      first | refine sp (pIx es_81) ?_ | (refine obtSN 18 20 rfl rfl (by omega) (fun x21 hx21 => ?_); refine sp (pIs es_81 hx21) ?_) | (refine obtS 18 20 rfl rfl (by omega) (by omega) (fun x21 hx21 => ?_); refine sp (pIs es_81 hx21) ?_) | refine sp (pIo es_81) ?_
      refine sr (rS1 ty_55) ?_
      refine sp pMa ?_
      refine oNil ?_
      refine aRet ?_
      refine finIs rfl ?_
      rw [base_at hx13]
      have hyes : lsdbB 0 x13 = true := by cases h : lsdbB 0 x13 <;> simp_all
      rw [hyes]
      rfl
/- hop.via -/
set_option maxRecDepth 100000 in
set_option maxHeartbeats 400000 in
theorem hop_via {b : List (List Lsa)} {v td : Int} (hv : 1 ≤ v) (hbl : b.length < 9223372036854775807) (hb : ∀ x ∈ b, x.length < 9223372036854775807) : Triple Try.prog 157 [.sl 1 (b.map basC), .int v, .int td] [] (Is (findT2 (rtsDb (baseM b v) v) td) []) := by
  have hbm := base_len b v
  have hrl := rtsDb_len (baseM b v) v
  refine triple_ofR Try.func157 rfl (by kernel_rfl) rfl (by simp) ?_
  refine aSeq ?_
  refine aReg ?_
  refine sq ?_
  refine qAlloc rfl rfl (by decide) ze_49 rfl (fun b6 => ?_)
  refine sp pMa ?_
  refine oNil ?_
  refine aSeq ?_
  refine aReg ?_
  refine sp pM ?_
  refine sp pM ?_
  refine sq ?_
  refine ci rfl rfl rfl (hop_base (b := b) (n := v) hv hbl hb) ?_
  refine sp pM ?_
  refine sq ?_
  refine ci rfl rfl rfl (route_Of (db := baseM b v) (me := v) (by omega)) ?_
  refine sp pM ?_
  refine sq ?_
  refine ci rfl rfl rfl (route_Find (rs := rtsDb (baseM b v) v) (n := td) (by omega)) ?_
  unfold findT2
  refine sp pX ?_
  refine sp pX ?_
  refine sa ?_
  refine oStW rfl rfl rfl rfl (by repeat constructor) ty_49 ?_
  refine sp pMa ?_
  refine oNil ?_
  refine aRet ?_
  refine finRIs (l := [.agg (rtC (findG (rtsDb (baseM b v) v) td)), .v (.bool (findR (rtsDb (baseM b v) v) td).isSome)]) (.cons (.cellA rfl (by repeat (first | exact List.mem_cons_self | apply List.mem_cons_of_mem)) ty_49) (.cons (.tmp rfl) .nil)) ?_
  rfl
/- hop.Go -/
set_option maxRecDepth 100000 in
set_option maxHeartbeats 4000000 in
theorem hop_GoO {b : List (List Lsa)} {fr td hops : Int} (hbl : b.length < 9223372036854775807) (hb : ∀ x ∈ b, x.length < 9223372036854775807) : Triple Try.prog 76 [.sl 1 (b.map basC), .int fr, .int td, .int hops] [] (fun q h' => ∃ g c, q = .agg [.v (slV g (goW b fr td hops).1.length c), .int (goW b fr td hops).2] ∧ h' = [.sl g c 3 1 ((goW b fr td hops).1.map intA)]) := by
  refine triple_ofR Try.func76 rfl (by kernel_rfl) rfl (by simp) ?_
  refine aSeq ?_
  refine aReg ?_
  refine sq ?_
  refine qAlloc rfl rfl (by decide) ze_86 rfl (fun b8 => ?_)
  refine oNil ?_
  refine aSeq ?_
  refine aSeq ?_
  refine aReg ?_
  refine sp pM ?_
  refine sq ?_
  refine cv rfl rfl rfl (lents_refl _) hop_node ?_
  refine sp pNo ?_
  refine sp pM ?_
  refine oSplitNot 17 rfl (fun c17 => ?_) (fun c17 => ?_)
  · skip
    refine gf ?_
    refine gf ?_
    refine gf ?_
    refine sp pK ?_
    refine oNil ?_
    refine aCondT rfl ?_
    refine aSeq ?_
    have hno : (goW b fr td hops) = ([], 0) := by unfold goW; rw [if_neg (by simp_all)]
    refine aWeak (weak_nil 3 1) ?_
    refine aReg ?_
    refine sp (pBuild rfl st_86 ze_86 rfl rfl rfl rfl) ?_
    refine sa ?_
    refine oStW rfl rfl rfl rfl (by repeat constructor) ty_86 ?_
    refine oNil ?_
    refine aRet ?_
    exact ⟨[.agg [.v (slV none 0 0), .int 0]], [.sl none 0 3 1 ([])], _, .cons (.cellA rfl (by repeat (first | exact List.mem_cons_self | apply List.mem_cons_of_mem)) ty_86) .nil, (by repeat constructor), none, 0, by rw [hno]; rfl, by rw [hno]; rfl⟩
  · skip
    refine gp pM ?_
    refine ga ?_
    refine (cv rfl rfl rfl (lents_refl _) hop_node ?_).op
    refine gp pNo ?_
    refine sp pK ?_
    refine oNil ?_
    refine aCondNot rfl (fun c21 => ?_) (fun c21 => ?_)
    · skip
      refine aSeq ?_
      have hno : (goW b fr td hops) = ([], 0) := by unfold goW; rw [if_neg (by simp_all)]
      refine aWeak (weak_nil 3 1) ?_
      refine aReg ?_
      refine sp (pBuild rfl st_86 ze_86 rfl rfl rfl rfl) ?_
      refine sa ?_
      refine oStW rfl rfl rfl rfl (by repeat constructor) ty_86 ?_
      refine oNil ?_
      refine aRet ?_
      exact ⟨[.agg [.v (slV none 0 0), .int 0]], [.sl none 0 3 1 ([])], _, .cons (.cellA rfl (by repeat (first | exact List.mem_cons_self | apply List.mem_cons_of_mem)) ty_86) .nil, (by repeat constructor), none, 0, by rw [hno]; rfl, by rw [hno]; rfl⟩
    · skip
      refine aSkip ?_
      refine aSeq ?_
      have hyes : nodeB fr = true ∧ nodeB td = true := by simp_all
      have hfr := nodeB_iff.1 hyes.1
      refine aReg ?_
      refine sp pM ?_
      refine sq ?_
      refine qLit (l := [_]) rfl rfl (by decide) us_25 ty_3 ze_3 rfl (by decide) (by decide) rfl rfl rfl (fun b24 => ?_)
      refine sp (pBuild rfl st_86 ze_86 rfl rfl rfl rfl) ?_
      refine sq ?_
      refine qAlloc rfl rfl (by decide) ze_86 rfl (fun b9 => ?_)
      refine sa ?_
      refine oStW rfl rfl rfl rfl (by repeat constructor) ty_86 ?_
      refine oNil ?_
      refine aSeq ?_
      refine aReg ?_
      refine sp pM ?_
      refine sp pMax ?_
      refine sp pMin ?_
      refine sp pMa ?_
      refine oNil ?_
      refine aSeq ?_
      refine aSeq ?_
      refine aReg ?_
      refine sp pM ?_
      refine sp pMa ?_
      refine oNil ?_
      refine aBlock ?_
      refine loopF (α := List Int × Int × Int × Int × Option Nat × Nat) (kept := [(0, _), (2, _), (8, _), (9, _)]) (fun (L, v, lf, en, g, c) => L.length ≤ 65 ∧ -1 ≤ lf ∧ lf ≤ 64 ∧ (en = 0 ∧ 0 ≤ lf ∧ 1 ≤ v ∧ v ≤ 64 ∧ L.length + lf ≤ 65 ∧ (∃ p, L = p ++ [v] ∧ (goM b td (hopsN hops) fr) = (p ++ (goM b td lf.toNat v).1, (goM b td lf.toNat v).2)) ∨ 1 ≤ en ∧ (goM b td (hopsN hops) fr) = (L, en))) (fun (L, v, lf, en, g, c) => [(11, .int v), (10, .int lf)]) (fun (L, v, lf, en, g, c) => [.box b9 [.v (slV g L.length c), .int en], .sl g c 3 1 (L.map intA)]) (fun (L, v, lf, en, g, c) => (if en = 0 then lf.toNat + 1 else 0)) ([fr], fr, min (max hops 0) 64, 0, _, _) ?_ ⟨gInt rfl (by first | rfl | omega | simp), gInt rfl (by first | rfl | omega | simp), rfl, rfl, rfl, rfl, trivial⟩ (by repeat constructor) ?_
      · skip
        exact ⟨by simp, by omega, by omega, .inl ⟨rfl, by omega, hfr.1, hfr.2, by simp; omega, [], rfl, rfl⟩⟩
      · rintro ⟨L, v, lf, en, g, c⟩ ⟨hL, hlf1, hlf2, hst⟩
        refine aSeq ?_
        refine aSeq ?_
        refine aReg ?_
        refine sp (pFb fd_86_1) ?_
        refine sr (rB1 ty_3) ?_
        refine sp pB ?_
        refine oNil ?_
        refine aCondEq rfl (fun c32 => ?_) (fun c32 => ?_)
        · skip
          refine aSkip ?_
          refine aSeq ?_
          refine aBlock ?_
          refine aSeq ?_
          have hen : en = 0 := by assumption
          subst hen
          have hst0 : 0 ≤ lf ∧ 1 ≤ v ∧ v ≤ 64 ∧ L.length + lf ≤ 65 ∧ (∃ p, L = p ++ [v] ∧ (goM b td (hopsN hops) fr) = (p ++ (goM b td lf.toNat v).1, (goM b td lf.toNat v).2)) := by
            rcases hst with h | h
            · exact h.2
            · omega
          obtain ⟨hlf0, hv1, hv2, hLl, hst⟩ := hst0
          refine aReg ?_
          refine sp pM ?_
          refine sp pM ?_
          refine sp pM ?_
          refine sq ?_
          refine ci rfl rfl rfl (hop_via (b := b) (v := v) (td := td) (by omega) hbl hb) ?_
          unfold findT2
          refine sp pM ?_
          refine sp pX ?_
          refine sp pX ?_
          refine sq ?_
          refine qAlloc rfl rfl (by decide) ze_49 rfl (fun b12 => ?_)
          refine sa ?_
          refine oStW rfl rfl rfl rfl (by repeat constructor) ty_49 ?_
          refine sp pMa ?_
          refine oNil ?_
          refine aBlock ?_
          refine aSeq ?_
          refine aReg ?_
          refine sp pM ?_
          refine sp pM ?_
          refine sp pB ?_
          refine sp pMa ?_
          refine oNil ?_
          refine aCondEq rfl (fun c50 => ?_) (fun c50 => ?_)
          · skip
            refine aReg ?_
            refine sp (pFb fd_86_1) ?_
            refine sa ?_
            refine oStB rfl rfl rfl rfl (by repeat constructor) ty_3 rfl (Nat.le_of_ble_eq_true rfl) rfl ?_
            refine oNil ?_
            refine aReg ?_
            refine sp pM ?_
            refine sp pSu ?_
            refine sp pMa ?_
            refine oNil ?_
            first
              | (refine ⟨(L, v, lf - 1, 1, g, c), ?_, by (try dsimp only); (first | (rw [if_neg (by decide), if_pos rfl]; omega) | (rw [if_pos rfl, if_pos rfl]; omega)), ⟨gInt rfl (by first | rfl | omega | simp), gInt rfl (by first | rfl | omega | simp), rfl, rfl, rfl, rfl, trivial⟩, _, (by repeat constructor)⟩
                 refine ⟨by omega, by omega, by omega, .inr ⟨by omega, ?_⟩⟩
                 obtain ⟨p, hp, hR⟩ := hst
                 rw [hR, hp]
                 have e : v = td := by assumption
                 rw [e, goM_here])
              | (refine ⟨(L, v, lf - 1, 3, g, c), ?_, by (try dsimp only); (first | (rw [if_neg (by decide), if_pos rfl]; omega) | (rw [if_pos rfl, if_pos rfl]; omega)), ⟨gInt rfl (by first | rfl | omega | simp), gInt rfl (by first | rfl | omega | simp), rfl, rfl, rfl, rfl, trivial⟩, _, (by repeat constructor)⟩
                 refine ⟨by omega, by omega, by omega, .inr ⟨by omega, ?_⟩⟩
                 obtain ⟨p, hp, hR⟩ := hst
                 rw [hR, hp]
                 have e : lf.toNat = 0 := by omega
                 rw [e, goM_spent (by assumption)])
              | (refine ⟨(L, v, lf - 1, 2, g, c), ?_, by (try dsimp only); (first | (rw [if_neg (by decide), if_pos rfl]; omega) | (rw [if_pos rfl, if_pos rfl]; omega)), ⟨gInt rfl (by first | rfl | omega | simp), gInt rfl (by first | rfl | omega | simp), rfl, rfl, rfl, rfl, trivial⟩, _, (by repeat constructor)⟩
                 refine ⟨by omega, by omega, by omega, .inr ⟨by omega, ?_⟩⟩
                 obtain ⟨p, hp, hR⟩ := hst
                 rw [hR, hp]
                 have e : lf.toNat = (lf - 1).toNat + 1 := by omega
                 rw [e, goM_lost (by assumption) (by assumption)])
              | (refine ⟨(L ++ [(findG (rtsDb (baseM b v) v) td).via], (findG (rtsDb (baseM b v) v) td).via, lf - 1, 0, _, _), ?_, by (try dsimp only); (first | (rw [if_neg (by decide), if_pos rfl]; omega) | (rw [if_pos rfl, if_pos rfl]; omega)), ⟨gInt rfl (by first | rfl | omega | simp), gInt rfl (by first | rfl | omega | simp), rfl, rfl, rfl, rfl, trivial⟩, _, (by repeat constructor)⟩
                 have hsome : (findR (rtsDb (baseM b v) v) td).isSome = true := by assumption
                 have hvia := find_via hsome
                 obtain ⟨p, hp, hR⟩ := hst
                 refine ⟨by rw [List.length_append, List.length_singleton]; omega, by omega, by omega, .inl ⟨rfl, by omega, hvia.1, hvia.2, by rw [List.length_append, List.length_singleton]; omega, p ++ [v], by rw [hp], ?_⟩⟩
                 rw [hR, show lf.toNat = (lf - 1).toNat + 1 by omega, goM_step (by assumption) hsome]
                 simp)
          · skip
            refine aSeq ?_
            refine aReg ?_
            refine sp pM ?_
            refine sp pB ?_
            refine sp pMa ?_
            refine oNil ?_
            refine aCondEq rfl (fun c55 => ?_) (fun c55 => ?_)
            · skip
              refine aReg ?_
              refine sp (pFb fd_86_1) ?_
              refine sa ?_
              refine oStB rfl rfl rfl rfl (by repeat constructor) ty_3 rfl (Nat.le_of_ble_eq_true rfl) rfl ?_
              refine oNil ?_
              refine aReg ?_
              refine sp pM ?_
              refine sp pSu ?_
              refine sp pMa ?_
              refine oNil ?_
              first
                | (refine ⟨(L, v, lf - 1, 1, g, c), ?_, by (try dsimp only); (first | (rw [if_neg (by decide), if_pos rfl]; omega) | (rw [if_pos rfl, if_pos rfl]; omega)), ⟨gInt rfl (by first | rfl | omega | simp), gInt rfl (by first | rfl | omega | simp), rfl, rfl, rfl, rfl, trivial⟩, _, (by repeat constructor)⟩
                   refine ⟨by omega, by omega, by omega, .inr ⟨by omega, ?_⟩⟩
                   obtain ⟨p, hp, hR⟩ := hst
                   rw [hR, hp]
                   have e : v = td := by assumption
                   rw [e, goM_here])
                | (refine ⟨(L, v, lf - 1, 3, g, c), ?_, by (try dsimp only); (first | (rw [if_neg (by decide), if_pos rfl]; omega) | (rw [if_pos rfl, if_pos rfl]; omega)), ⟨gInt rfl (by first | rfl | omega | simp), gInt rfl (by first | rfl | omega | simp), rfl, rfl, rfl, rfl, trivial⟩, _, (by repeat constructor)⟩
                   refine ⟨by omega, by omega, by omega, .inr ⟨by omega, ?_⟩⟩
                   obtain ⟨p, hp, hR⟩ := hst
                   rw [hR, hp]
                   have e : lf.toNat = 0 := by omega
                   rw [e, goM_spent (by assumption)])
                | (refine ⟨(L, v, lf - 1, 2, g, c), ?_, by (try dsimp only); (first | (rw [if_neg (by decide), if_pos rfl]; omega) | (rw [if_pos rfl, if_pos rfl]; omega)), ⟨gInt rfl (by first | rfl | omega | simp), gInt rfl (by first | rfl | omega | simp), rfl, rfl, rfl, rfl, trivial⟩, _, (by repeat constructor)⟩
                   refine ⟨by omega, by omega, by omega, .inr ⟨by omega, ?_⟩⟩
                   obtain ⟨p, hp, hR⟩ := hst
                   rw [hR, hp]
                   have e : lf.toNat = (lf - 1).toNat + 1 := by omega
                   rw [e, goM_lost (by assumption) (by assumption)])
                | (refine ⟨(L ++ [(findG (rtsDb (baseM b v) v) td).via], (findG (rtsDb (baseM b v) v) td).via, lf - 1, 0, _, _), ?_, by (try dsimp only); (first | (rw [if_neg (by decide), if_pos rfl]; omega) | (rw [if_pos rfl, if_pos rfl]; omega)), ⟨gInt rfl (by first | rfl | omega | simp), gInt rfl (by first | rfl | omega | simp), rfl, rfl, rfl, rfl, trivial⟩, _, (by repeat constructor)⟩
                   have hsome : (findR (rtsDb (baseM b v) v) td).isSome = true := by assumption
                   have hvia := find_via hsome
                   obtain ⟨p, hp, hR⟩ := hst
                   refine ⟨by rw [List.length_append, List.length_singleton]; omega, by omega, by omega, .inl ⟨rfl, by omega, hvia.1, hvia.2, by rw [List.length_append, List.length_singleton]; omega, p ++ [v], by rw [hp], ?_⟩⟩
                   rw [hR, show lf.toNat = (lf - 1).toNat + 1 by omega, goM_step (by assumption) hsome]
                   simp)
            · skip
              refine aSeq ?_
              refine aReg ?_
              refine sp pM ?_
              refine sp pNo ?_
              refine sp pMa ?_
              refine oNil ?_
              refine aCondNot rfl (fun c59 => ?_) (fun c59 => ?_)
              · skip
                refine aReg ?_
                refine sp (pFb fd_86_1) ?_
                refine sa ?_
                refine oStB rfl rfl rfl rfl (by repeat constructor) ty_3 rfl (Nat.le_of_ble_eq_true rfl) rfl ?_
                refine oNil ?_
                refine aReg ?_
                refine sp pM ?_
                refine sp pSu ?_
                refine sp pMa ?_
                refine oNil ?_
                first
                  | (refine ⟨(L, v, lf - 1, 1, g, c), ?_, by (try dsimp only); (first | (rw [if_neg (by decide), if_pos rfl]; omega) | (rw [if_pos rfl, if_pos rfl]; omega)), ⟨gInt rfl (by first | rfl | omega | simp), gInt rfl (by first | rfl | omega | simp), rfl, rfl, rfl, rfl, trivial⟩, _, (by repeat constructor)⟩
                     refine ⟨by omega, by omega, by omega, .inr ⟨by omega, ?_⟩⟩
                     obtain ⟨p, hp, hR⟩ := hst
                     rw [hR, hp]
                     have e : v = td := by assumption
                     rw [e, goM_here])
                  | (refine ⟨(L, v, lf - 1, 3, g, c), ?_, by (try dsimp only); (first | (rw [if_neg (by decide), if_pos rfl]; omega) | (rw [if_pos rfl, if_pos rfl]; omega)), ⟨gInt rfl (by first | rfl | omega | simp), gInt rfl (by first | rfl | omega | simp), rfl, rfl, rfl, rfl, trivial⟩, _, (by repeat constructor)⟩
                     refine ⟨by omega, by omega, by omega, .inr ⟨by omega, ?_⟩⟩
                     obtain ⟨p, hp, hR⟩ := hst
                     rw [hR, hp]
                     have e : lf.toNat = 0 := by omega
                     rw [e, goM_spent (by assumption)])
                  | (refine ⟨(L, v, lf - 1, 2, g, c), ?_, by (try dsimp only); (first | (rw [if_neg (by decide), if_pos rfl]; omega) | (rw [if_pos rfl, if_pos rfl]; omega)), ⟨gInt rfl (by first | rfl | omega | simp), gInt rfl (by first | rfl | omega | simp), rfl, rfl, rfl, rfl, trivial⟩, _, (by repeat constructor)⟩
                     refine ⟨by omega, by omega, by omega, .inr ⟨by omega, ?_⟩⟩
                     obtain ⟨p, hp, hR⟩ := hst
                     rw [hR, hp]
                     have e : lf.toNat = (lf - 1).toNat + 1 := by omega
                     rw [e, goM_lost (by assumption) (by assumption)])
                  | (refine ⟨(L ++ [(findG (rtsDb (baseM b v) v) td).via], (findG (rtsDb (baseM b v) v) td).via, lf - 1, 0, _, _), ?_, by (try dsimp only); (first | (rw [if_neg (by decide), if_pos rfl]; omega) | (rw [if_pos rfl, if_pos rfl]; omega)), ⟨gInt rfl (by first | rfl | omega | simp), gInt rfl (by first | rfl | omega | simp), rfl, rfl, rfl, rfl, trivial⟩, _, (by repeat constructor)⟩
                     have hsome : (findR (rtsDb (baseM b v) v) td).isSome = true := by assumption
                     have hvia := find_via hsome
                     obtain ⟨p, hp, hR⟩ := hst
                     refine ⟨by rw [List.length_append, List.length_singleton]; omega, by omega, by omega, .inl ⟨rfl, by omega, hvia.1, hvia.2, by rw [List.length_append, List.length_singleton]; omega, p ++ [v], by rw [hp], ?_⟩⟩
                     rw [hR, show lf.toNat = (lf - 1).toNat + 1 by omega, goM_step (by assumption) hsome]
                     simp)
              · skip
                refine aSeq ?_
                refine aReg ?_
                refine sp (pFb fd_49_1) ?_
                refine sr (rB1 ty_3) ?_
                refine sp pMa ?_
                refine oNil ?_
                refine aReg ?_
                refine sp (pFb fd_86_0) ?_
                refine sr (rB1 ty_25) ?_
                refine sp pM ?_
                refine sq ?_
                refine qLit (l := [_]) rfl rfl (by decide) us_25 ty_3 ze_3 rfl (by decide) (by decide) rfl rfl rfl (fun b47 => ?_)
                refine sa ?_
                refine oAppT ([(findG (rtsDb (baseM b v) v) td).via] : List Int) rfl rfl (by repeat constructor) (srcOwn rfl (by repeat constructor) rfl) el_25 sl_25 (fun g48 k48 => ?_)
                refine sp (pFb fd_86_0) ?_
                refine sa ?_
                refine oStB rfl rfl rfl rfl (by repeat constructor) ty_25 rfl (Nat.le_of_ble_eq_true rfl) rfl ?_
                refine oNil ?_
                refine aReg ?_
                refine sp pM ?_
                refine sp pSu ?_
                refine sp pMa ?_
                refine oNil ?_
                first
                  | (refine ⟨(L, v, lf - 1, 1, g, c), ?_, by (try dsimp only); (first | (rw [if_neg (by decide), if_pos rfl]; omega) | (rw [if_pos rfl, if_pos rfl]; omega)), ⟨gInt rfl (by first | rfl | omega | simp), gInt rfl (by first | rfl | omega | simp), rfl, rfl, rfl, rfl, trivial⟩, _, (by repeat constructor)⟩
                     refine ⟨by omega, by omega, by omega, .inr ⟨by omega, ?_⟩⟩
                     obtain ⟨p, hp, hR⟩ := hst
                     rw [hR, hp]
                     have e : v = td := by assumption
                     rw [e, goM_here])
                  | (refine ⟨(L, v, lf - 1, 3, g, c), ?_, by (try dsimp only); (first | (rw [if_neg (by decide), if_pos rfl]; omega) | (rw [if_pos rfl, if_pos rfl]; omega)), ⟨gInt rfl (by first | rfl | omega | simp), gInt rfl (by first | rfl | omega | simp), rfl, rfl, rfl, rfl, trivial⟩, _, (by repeat constructor)⟩
                     refine ⟨by omega, by omega, by omega, .inr ⟨by omega, ?_⟩⟩
                     obtain ⟨p, hp, hR⟩ := hst
                     rw [hR, hp]
                     have e : lf.toNat = 0 := by omega
                     rw [e, goM_spent (by assumption)])
                  | (refine ⟨(L, v, lf - 1, 2, g, c), ?_, by (try dsimp only); (first | (rw [if_neg (by decide), if_pos rfl]; omega) | (rw [if_pos rfl, if_pos rfl]; omega)), ⟨gInt rfl (by first | rfl | omega | simp), gInt rfl (by first | rfl | omega | simp), rfl, rfl, rfl, rfl, trivial⟩, _, (by repeat constructor)⟩
                     refine ⟨by omega, by omega, by omega, .inr ⟨by omega, ?_⟩⟩
                     obtain ⟨p, hp, hR⟩ := hst
                     rw [hR, hp]
                     have e : lf.toNat = (lf - 1).toNat + 1 := by omega
                     rw [e, goM_lost (by assumption) (by assumption)])
                  | (refine ⟨(L ++ [(findG (rtsDb (baseM b v) v) td).via], (findG (rtsDb (baseM b v) v) td).via, lf - 1, 0, _, _), ?_, by (try dsimp only); (first | (rw [if_neg (by decide), if_pos rfl]; omega) | (rw [if_pos rfl, if_pos rfl]; omega)), ⟨gInt rfl (by first | rfl | omega | simp), gInt rfl (by first | rfl | omega | simp), rfl, rfl, rfl, rfl, trivial⟩, _, (by repeat constructor)⟩
                     have hsome : (findR (rtsDb (baseM b v) v) td).isSome = true := by assumption
                     have hvia := find_via hsome
                     obtain ⟨p, hp, hR⟩ := hst
                     refine ⟨by rw [List.length_append, List.length_singleton]; omega, by omega, by omega, .inl ⟨rfl, by omega, hvia.1, hvia.2, by rw [List.length_append, List.length_singleton]; omega, p ++ [v], by rw [hp], ?_⟩⟩
                     rw [hR, show lf.toNat = (lf - 1).toNat + 1 by omega, goM_step (by assumption) hsome]
                     simp)
        · skip
          refine aExit rfl ?_
          refine aSeq ?_
          refine aReg ?_
          refine sr (by first | exact rBWa ty_86 | exact rBW ty_86 | exact rBA ty_86) ?_
          refine sa ?_
          refine oStW rfl rfl rfl rfl (by repeat constructor) ty_86 ?_
          refine oNil ?_
          have hend : (goW b fr td hops) = (L, en) := by
            unfold goW
            rw [if_pos (by simp_all)]
            rcases hst with h | h
            · exact absurd h.1 (by assumption)
            · exact h.2
          refine aRet ?_
          exact ⟨[.agg [.v (slV g L.length c), .int en]], [.sl g c 3 1 (L.map intA)], _, .cons (.cellA rfl (by repeat (first | exact List.mem_cons_self | apply List.mem_cons_of_mem)) ty_86) .nil, (by repeat constructor), g, c, by rw [hend]; rfl, by rw [hend]⟩
theorem hop_Go_s {b : List (List Lsa)} {fr td hops : Int} (hbl : b.length < 9223372036854775807) (hb : ∀ x ∈ b, x.length < 9223372036854775807) : Triple Try.prog 76 [.sl 1 (b.map basC), .int fr, .int td, .int hops] [] (Is (.agg [.sl 1 ((goW b fr td hops).1.map intA), .int (goW b fr td hops).2]) []) :=
  (hop_GoO (b := b) (fr := fr) (td := td) (hops := hops) hbl hb).deep fun q h' ⟨g, c, hq, hh⟩ => ⟨_, [.sl g c 3 1 ((goW b fr td hops).1.map intA)], [], by subst hh; exact .cons .hd .nil, by subst hq; exact .agg (.sl List.mem_cons_self (by rw [List.length_map]) Deep.refl (.same (.row .nil))) (.row .nil), rfl, rfl⟩
def okW (b : List (List Lsa)) (fr td hops : Int) : Bool := decide ((goW b fr td hops).2 = 1)
def sumW (b : List (List Lsa)) (fr td hops : Int) : Int := if okW b fr td hops then sumI b (goW b fr td hops).1 ((goW b fr td hops).1.length - 1) else 0
def cosW (b : List (List Lsa)) (fr td hops : Int) : Int := if okW b fr td hops then (findG (rtsDb (baseM b fr) fr) td).c else 0
theorem okW_yes {b : List (List Lsa)} {fr td hops : Int} (h : (goW b fr td hops).2 = 1) : okW b fr td hops = true ∧ sumW b fr td hops = sumI b (goW b fr td hops).1 ((goW b fr td hops).1.length - 1) ∧ cosW b fr td hops = (findG (rtsDb (baseM b fr) fr) td).c := by
  have : okW b fr td hops = true := decide_eq_true h
  unfold sumW cosW
  rw [this]
  exact ⟨rfl, rfl, rfl⟩
theorem okW_no {b : List (List Lsa)} {fr td hops : Int} (h : (goW b fr td hops).2 ≠ 1) : okW b fr td hops = false ∧ sumW b fr td hops = 0 ∧ cosW b fr td hops = 0 := by
  have : okW b fr td hops = false := decide_eq_false h
  unfold sumW cosW
  rw [this]
  exact ⟨rfl, rfl, rfl⟩
/- hop.Stretch -/
def hop_Stretch_r9_T : Bool × List (List Nat × List Nat) := (true, [([], []), ([], []), ([], []), ([2], [2]), ([], []), ([4], [4]), ([3, 5], [3, 5]), ([6], [6]), ([1, 7], [1, 7]), ([8], [8]), ([0, 9, 8], [0, 9]), ([10, 10, 0, 1, 2, 3, 4, 5, 6, 7, 8, 9, 10], [0, 10])])
def hop_Stretch_r9_B : List Nat := [0, 0, 0, 4, 0, 16, 60, 124, 254, 510, 1023, 2047]
theorem hop_Stretch_r9_t : Go.Proofs.YtmcannmjielalaaW.PrintLast.rtab .any (Go.Proofs.YtmcannmjielalaaW.PrintLast.opsOf Try.f77 9) = hop_Stretch_r9_T := by kernel_rfl
theorem hop_Stretch_r9_b : Go.Proofs.YtmcannmjielalaaW.PrintLast.waitsOk hop_Stretch_r9_T.2 hop_Stretch_r9_B = true := by kernel_rfl
def hop_Stretch_r12_T : Bool × List (List Nat × List Nat) := (true, [([], []), ([], []), ([1], [1]), ([0, 0], [0]), ([2, 3, 0, 1, 2, 3], [2]), ([4, 0, 1, 2, 3, 4], [])])
def hop_Stretch_r12_B : List Nat := [0, 0, 2, 1, 15, 31]
theorem hop_Stretch_r12_t : Go.Proofs.YtmcannmjielalaaW.PrintLast.rtab .any (Go.Proofs.YtmcannmjielalaaW.PrintLast.opsOf Try.f77 12) = hop_Stretch_r12_T := by kernel_rfl
theorem hop_Stretch_r12_b : Go.Proofs.YtmcannmjielalaaW.PrintLast.waitsOk hop_Stretch_r12_T.2 hop_Stretch_r12_B = true := by kernel_rfl
set_option maxRecDepth 100000 in
set_option maxHeartbeats 2000000 in
theorem hop_Stretch {b : List (List Lsa)} {fr td hops : Int} (hbl : b.length < 9223372036854775807) (hb : ∀ x ∈ b, x.length < 9223372036854775807) : Triple Try.prog 77 [.sl 1 (b.map basC), .int fr, .int td, .int hops] [] (Is (.tup [.v (.int .u64 (sumW b fr td hops)), .v (.int .u64 (cosW b fr td hops)), .v (.bool (okW b fr td hops))]) []) := by
  have hWl := goW_len b fr td hops
  have hWr := goW_rng (b := b) (fr := fr) (td := td) (hops := hops)
  refine triple_of Try.func77 rfl (by kernel_rfl) rfl (by simp) ?_
  refine aSeq ?_
  refine aReg ?_
  refine sp pMa ?_
  refine sp pMa ?_
  refine sp pMa ?_
  refine oNil ?_
  refine aSeq ?_
  refine aReg ?_
  refine sp pM ?_
  refine sp pM ?_
  refine sp pM ?_
  refine sp pM ?_
  refine sq ?_
  refine ci rfl rfl rfl (hop_Go_s (b := b) (fr := fr) (td := td) (hops := hops) hbl hb) ?_
  refine sq ?_
  refine qAlloc rfl rfl (by decide) ze_86 rfl (fun b11 => ?_)
  refine sa ?_
  refine oStW rfl rfl rfl rfl (by repeat constructor) ty_86 ?_
  refine oNil ?_
  refine aSeq ?_
  refine aSeq ?_
  refine aReg ?_
  refine sp (pFb fd_86_1) ?_
  refine sr (rB1 ty_3) ?_
  refine sp pB ?_
  refine oNil ?_
  refine aCondNe rfl (fun c26 => ?_) (fun c26 => ?_)
  · skip
    refine aSeq ?_
    obtain ⟨ho1, ho2, ho3⟩ := okW_no (b := b) (fr := fr) (td := td) (hops := hops) (by assumption)
    refine aReg ?_
    refine sp pMa ?_
    refine sp pMa ?_
    refine sp pMa ?_
    refine oNil ?_
    refine aRet ?_
    refine finIs rfl ?_
    rw [ho1, ho2, ho3]
    rfl
  · skip
    refine aSkip ?_
    refine aSeq ?_
    have hone : (goW b fr td hops).2 = 1 := by simp_all
    obtain ⟨ho1, ho2, ho3⟩ := okW_yes hone
    have hW1 := goW_one hone
    refine aReg ?_
    refine sp pMa ?_
    refine oNil ?_
    refine aSeq ?_
    refine aSeq ?_
    refine aReg ?_
    refine sp (pFb fd_86_0) ?_
    refine sr (rB1 ty_25) ?_
    refine sp (pFb fd_86_0) ?_
    refine sr (rB1 ty_25) ?_
    refine sp (by first | exact pLm sl_25 | exact pLs sl_25 | exact pLv sl_25) ?_
    refine sp pSu ?_
    rw [show ((goW b fr td hops).1.length : Int) - 1 = (((goW b fr td hops).1.length - 1 : Nat) : Int) by omega]
    refine sp (pSlice rfl rfl es_25 (bdN rfl) (bdI rfl) (by first | omega | (simp only [List.length_map]; omega)) (by first | omega | (simp only [List.length_map]; omega))) ?_
    rw [show (((goW b fr td hops).1.map intA).drop 0).take ((goW b fr td hops).1.length - 1 - 0) = ((goW b fr td hops).1.take ((goW b fr td hops).1.length - 1)).map intA by rw [List.drop_zero, Nat.sub_zero, List.map_take]]
    refine sp (by first | exact pLm sl_25 | exact pLs sl_25 | exact pLv sl_25) ?_
    rw [show (List.take ((goW b fr td hops).1.length - 1) (goW b fr td hops).1).length = (goW b fr td hops).1.length - 1 by rw [List.length_take]; omega]
    refine sp pM ?_
    refine oNil ?_
    refine aBlock ?_
    refine loopF (α := Nat × Int) (kept := [(0, _), (1, _), (2, _), (11, _), (33, _), (34, _)]) (fun (i, s) => i ≤ (goW b fr td hops).1.length - 1 ∧ s = sumI b (goW b fr td hops).1 i) (fun (i, s) => [(35, .int i), (12, .v (.int .u64 s))]) (fun (i, s) => []) (fun (i, s) => (goW b fr td hops).1.length - i) (0, 0) ?_ ⟨gInt rfl (by first | rfl | omega | simp), rfl, rfl, rfl, rfl, rfl, rfl, rfl, trivial⟩ (by repeat constructor) ?_
    · skip
      exact ⟨by omega, rfl⟩
    · rintro ⟨i, s⟩ ⟨hi, hs⟩
      refine aSeq ?_
      refine aReg ?_
      refine sp pB ?_
      refine oNil ?_
      refine aSeq ?_
      refine aCondDec rfl (fun c36 => ?_) (fun c36 => ?_)
      · skip
        refine aSkip ?_
        refine aSeq ?_
        refine aBlock ?_
        refine aSeq ?_
        obtain ⟨x, hx⟩ : ∃ z, (goW b fr td hops).1[i]? = some z := ⟨_, List.getElem?_eq_getElem (by omega)⟩
        obtain ⟨y, hy⟩ : ∃ z, (goW b fr td hops).1[i + 1]? = some z := ⟨_, List.getElem?_eq_getElem (by omega)⟩
        have hxr := hWr x (List.mem_of_getElem? hx)
        have hst := sumI_step (b := b) hx hy
        have hs1 := sumI_range b (goW b fr td hops).1 i
        have hs2 : 0 ≤ costL (getL (baseM b x) x).ls y ∧ costL (getL (baseM b x) x).ls y ≤ 1073741824 := stepC_range b x y
        have hs3 : stepC b x y = costL (getL (baseM b x) x).ls y := rfl
        have hxt : ((goW b fr td hops).1.take ((goW b fr td hops).1.length - 1))[i]? = some x := by rw [List.getElem?_take, if_pos (by omega)]; exact hx
        refine aReg ?_
        refine sp pM ?_
        first | refine sp (pIx es_25) ?_ | (refine obtSN 33 35 rfl rfl (by omega) (fun x38 hx38 => ?_); refine sp (pIs es_25 hx38) ?_) | (refine obtS 33 35 rfl rfl (by omega) (by omega) (fun x38 hx38 => ?_); refine sp (pIs es_25 hx38) ?_) | refine sp (pIo es_25) ?_
        refine sr (by first | exact rS1 ty_3 | exact rB1 ty_3 | exact rAr ty_3 | exact rArL ty_3 | exact rArR2 ty_3) ?_
        refine sp pMa ?_
        refine sp pMa ?_
        refine oNil ?_
        refine aSeq ?_
        refine aReg ?_
        refine sp pM ?_
        refine sp pM ?_
        refine sq ?_
        refine ci rfl rfl rfl (hop_base (b := b) (n := x) (by omega) hbl hb) ?_
        refine sp pM ?_
        refine sq ?_
        refine ci rfl rfl rfl (lsdb_Get (db := baseM b x) (n := x) (base_ok b x)) ?_
        refine sp pM ?_
        refine sp pX ?_
        refine sp pX ?_
        refine sq ?_
        refine qAlloc rfl rfl (by decide) ze_141 rfl (fun b15 => ?_)
        refine sa ?_
        refine oStW rfl rfl rfl rfl (by repeat constructor) ty_141 ?_
        refine sp pMa ?_
        refine oNil ?_
        refine aDrawT hop_Stretch_r9_t hop_Stretch_r9_b [] 12 #[false, false, false, false, false, false, false, false, false, false, false, false] (by kernel_rfl) rfl rfl (fun HT => ?_)
        refine dp HT 0 rfl pM ?_
        refine dr HT 1 rfl (by first | exact rBWa ty_141 | exact rBW ty_141 | exact rBA ty_141) ?_
        refine dp HT 2 rfl (pFb fd_86_0) ?_
        refine dr HT 3 rfl (rB1 ty_25) ?_
        refine dp HT 4 rfl pM ?_
        refine dp HT 5 rfl pAd ?_
        first | refine dp HT 6 rfl (pIx es_25) ?_ | (refine obtDN 51 53 rfl rfl (by omega) (fun x54 hx54 => ?_); refine dp HT 6 rfl (pIs es_25 hx54) ?_) | (refine obtD 51 53 rfl rfl (by omega) (by omega) (fun x54 hx54 => ?_); refine dp HT 6 rfl (pIs es_25 hx54) ?_) | refine dp HT 6 rfl (pIo es_25) ?_
        refine dr HT 7 rfl (by first | exact rS1 ty_3 | exact rB1 ty_3 | exact rAr ty_3 | exact rArL ty_3 | exact rArR2 ty_3) ?_
        refine dGo ?_
        refine e1 HT 8 rfl ?_
        refine qCallV rfl rfl (by decide) rfl rfl (lents_refl _) (lsa_Cost (getL (baseM b x) x) y (by have := getL_len (base_ok b x) x; omega)) ?_
        refine ef HT 9 rfl (by first | exact pCvK ik_3 ik_37 | exact pConv rfl rfl ik_3 ik_37 rfl) ?_
        refine e1 HT 10 rfl ?_
        refine cv rfl rfl rfl (lents_refl _) (cost_Add (by omega) (by omega) (by omega) (by omega)) ?_
        rw [if_neg (by omega)]
        refine ePure (i := 11) #[true, true, true, true, true, true, true, true, true, true, true, true] rfl rfl rfl (HT.any (by kernel_rfl)) (by exact pMa) (by decide) ?_
        refine eE HT ?_
        clear HT
        refine aReg ?_
        refine sp pAd ?_
        refine sp pM ?_
        refine oNil ?_
        refine ⟨(i + 1, _), ?_, by (try dsimp only); omega, ⟨gInt rfl (by first | rfl | omega | simp), rfl, rfl, rfl, rfl, rfl, rfl, rfl, trivial⟩, _, (by repeat constructor)⟩
        refine ⟨by omega, ?_⟩
        omega
      · skip
        refine aExit rfl ?_
        refine aSeq ?_
        refine aReg ?_
        refine sp pM ?_
        refine sp pM ?_
        refine sp pM ?_
        refine sq ?_
        refine ci rfl rfl rfl (hop_via (b := b) (v := fr) (td := td) (by omega) hbl hb) ?_
        unfold findT2
        refine sp pM ?_
        refine sp pX ?_
        refine sp pX ?_
        refine sq ?_
        refine qAlloc rfl rfl (by decide) ze_49 rfl (fun b17 => ?_)
        refine sa ?_
        refine oStW rfl rfl rfl rfl (by repeat constructor) ty_49 ?_
        refine sp pMa ?_
        refine oNil ?_
        refine aSeq ?_
        refine aDrawT hop_Stretch_r12_t hop_Stretch_r12_b [] 6 #[false, false, false, false, false, false] (by kernel_rfl) rfl rfl (fun HT => ?_)
        refine dp HT 0 rfl pM ?_
        refine dp HT 1 rfl (pFb fd_49_2) ?_
        refine dr HT 2 rfl (rB1 ty_37) ?_
        refine dp HT 3 rfl pMa ?_
        refine dp HT 4 rfl pMa ?_
        refine dp HT 5 rfl pMa ?_
        refine dE HT ?_
        clear HT
        refine aRet ?_
        refine finIs rfl ?_
        obtain rfl : i = (goW b fr td hops).1.length - 1 := by omega
        rw [ho1, ho2, ho3, hs]
        rfl
theorem chk_yes {p : Bool} (h : (if p = true then (0 : Int) else 1) = 0) : p = true := by cases p; cases h; rfl
theorem chk_no {p : Bool} (h : (if p = true then (0 : Int) else 1) ≠ 0) : p = false := by cases p; rfl; exact absurd rfl h
theorem ag_bad1 {b : List (List Lsa)} {n0 n : Int} (h : nodeB n = false) : (nodeB n && agP b n0 n) = false := by rw [h]; rfl
theorem ag_bad2 {b : List (List Lsa)} {n0 n : Int} (h : (b.length : Int) < n) : agP b n0 n = false := by unfold agP; rw [decide_eq_false (p := n ≤ (b.length : Int)) (by omega)]; simp
theorem ag_bad3 {b : List (List Lsa)} {n0 n : Int} {x : List Lsa} (hx : b[(n - 1).toNat]? = some x) (h : lsdbB 0 x = false) : agP b n0 n = false := by unfold agP; rw [atB_at hx, h]; simp
theorem ag_bad4 {b : List (List Lsa)} {n0 n : Int} {x : List Lsa} (hx : b[(n - 1).toNat]? = some x) (h : decide (x = baseM b n0) = false) : agP b n0 n = false := by unfold agP; rw [atB_at hx, h]; simp
theorem ag_good {b : List (List Lsa)} {n0 n : Int} {x : List Lsa} (h1 : 1 ≤ n) (h2 : n ≤ (b.length : Int)) (hx : b[(n - 1).toNat]? = some x) (h : lsdbB 0 x = true) (h4 : decide (x = baseM b n0) = true) : agP b n0 n = true := by unfold agP; rw [atB_at hx, h, h4, decide_eq_true h1, decide_eq_true h2]; rfl
theorem and_bad {p q : Bool} (h : q = false) : (p && q) = false := by rw [h]; simp
/- hop.Agree -/
def hop_Agree_r4_T : Bool × List (List Nat × List Nat) := (true, [([], []), ([0], [0]), ([1], [1]), ([2, 1], [2]), ([3], [3]), ([3], [3]), ([5, 3], [3, 5]), ([4, 6, 3], [3, 4, 6]), ([3, 7], [3, 7]), ([8, 3], [8]), ([9], [9]), ([9], [9]), ([11, 9], [9, 11]), ([10, 12, 9], [9, 10, 12]), ([13, 9], [9, 13]), ([14, 9, 9], [9, 14]), ([15, 9], [9, 15]), ([9, 16], [9, 16]), ([17, 15], [17]), ([18], [18]), ([18], [18]), ([20, 18], [18, 20]), ([19, 21, 18], [18, 19, 21]), ([22, 18], [18, 22]), ([18], [18]), ([18], [18]), ([25, 18], [18, 25]), ([26, 18], [18, 26]), ([24, 27, 18, 18], [18, 24, 27]), ([23, 28, 28, 18], [18, 23, 28]), ([29, 18], [18, 29]), ([18, 30], [18, 30])])
def hop_Agree_r4_B : List Nat := [0, 1, 3, 7, 15, 15, 47, 127, 255, 511, 1023, 1023, 3071, 8191, 16383, 32767, 65535, 131071, 262143, 524287, 524287, 1572863, 4194303, 8388607, 524287, 524287, 34078719, 101187583, 252182527, 536870911, 1073741823, 2147483647]
theorem hop_Agree_r4_t : Go.Proofs.YtmcannmjielalaaW.PrintLast.rtab .any (Go.Proofs.YtmcannmjielalaaW.PrintLast.opsOf Try.f81 4) = hop_Agree_r4_T := by kernel_rfl
theorem hop_Agree_r4_b : Go.Proofs.YtmcannmjielalaaW.PrintLast.waitsOk hop_Agree_r4_T.2 hop_Agree_r4_B = true := by kernel_rfl
set_option maxRecDepth 100000 in
set_option maxHeartbeats 2000000 in
theorem hop_Agree {b : List (List Lsa)} {l : List Int} (hl : l.length ≤ 1000000) (hbl : b.length < 9223372036854775807) (hb : ∀ x ∈ b, x.length < 9223372036854775807 ∧ ∀ y ∈ x, y.ls.length < 9223372036854775807) : Triple Try.prog 81 [.sl 1 (b.map basC), .sl 1 (l.map intA)] [] (Is (.v (.bool (agreeM b l))) []) := by
  refine triple_of Try.func81 rfl (by kernel_rfl) rfl (by simp) ?_
  refine aSeq ?_
  refine aReg ?_
  refine sp pMa ?_
  refine oNil ?_
  refine aSeq ?_
  refine aSeq ?_
  refine aReg ?_
  refine sp pM ?_
  refine sp (by first | exact pLm sl_25 | exact pLs sl_25) ?_
  refine sp pM ?_
  refine oNil ?_
  refine aBlock ?_
  refine loopF (α := Nat) (kept := [(0, _), (1, _), (7, _), (8, _)]) (fun i => i ≤ l.length ∧ ∀ y ∈ l.take i, (nodeB y && agP b (l.getD 0 0) y) = true) (fun i => [(9, .int i)]) (fun i => []) (fun i => l.length - i) 0 ?_ ⟨gInt rfl (by first | rfl | omega | simp), rfl, rfl, rfl, rfl, trivial⟩ (by repeat constructor) ?_
  · skip
    exact ⟨by omega, fun y hy => by simp at hy⟩
  · rintro i ⟨hi, hv⟩
    refine aSeq ?_
    refine aReg ?_
    refine sp pB ?_
    refine oNil ?_
    refine aSeq ?_
    refine aCondDec rfl (fun c10 => ?_) (fun c10 => ?_)
    · skip
      refine aSkip ?_
      refine aSeq ?_
      refine aBlock ?_
      refine aSeq ?_
      obtain ⟨x, hx⟩ : ∃ z, l[i]? = some z := ⟨_, List.getElem?_eq_getElem (by omega)⟩
      refine aReg ?_
      first | refine sp (pIx es_25) ?_ | (refine obtSN 7 9 rfl rfl (by omega) (fun x11 hx11 => ?_); refine sp (pIs es_25 hx11) ?_) | (refine obtS 7 9 rfl rfl (by omega) (by omega) (fun x11 hx11 => ?_); refine sp (pIs es_25 hx11) ?_) | refine sp (pIo es_25) ?_
      refine sr (rS1 ty_3) ?_
      refine sp pMa ?_
      refine oNil ?_
      refine aSeq ?_
      have hn0 : nodeB x = true → 1 ≤ l.getD 0 0 := fun hxn => by
        have h0 : ∃ z, l[0]? = some z := ⟨_, List.getElem?_eq_getElem (by omega)⟩
        obtain ⟨z, hz⟩ := h0
        rw [List.getD, hz]
        show 1 ≤ z
        by_cases e : i = 0
        · subst e; rw [hz] at hx; cases hx; exact (nodeB_iff.1 hxn).1
        · have := hv z (List.mem_of_getElem? (i := 0) (by rw [List.getElem?_take, if_pos (by omega)]; exact hz))
          rw [Bool.and_eq_true] at this
          exact (nodeB_iff.1 this.1).1
      have hl0 : l[(0 : Int).toNat]? = some (l.getD 0 0) := by rw [List.getD, show (0 : Int).toNat = 0 from rfl, List.getElem?_eq_getElem (by omega)]; rfl
      refine aDrawT hop_Agree_r4_t hop_Agree_r4_b [] 32 #[false, false, false, false, false, false, false, false, false, false, false, false, false, false, false, false, false, false, false, false, false, false, false, false, false, false, false, false, false, false, false, false] (by kernel_rfl) rfl rfl (fun HT => ?_)
      refine dp HT 0 rfl pM ?_
      refine dGo ?_
      refine e1 HT 1 rfl ?_
      refine cv rfl rfl rfl (lents_refl _) hop_node ?_
      refine ef HT 2 rfl pNo ?_
      refine ef HT 3 rfl pM ?_
      refine eSplitNot 16 rfl (fun c16 => ?_) (fun c16 => ?_)
      · skip
        refine eS HT 4 rfl ?_
        refine eS HT 5 rfl ?_
        refine eS HT 6 rfl ?_
        refine eS HT 7 rfl ?_
        refine ef HT 8 rfl pK ?_
        refine ef HT 9 rfl pM ?_
        refine eS HT 10 rfl ?_
        refine eS HT 11 rfl ?_
        refine eS HT 12 rfl ?_
        refine eS HT 13 rfl ?_
        refine eS HT 14 rfl ?_
        refine eS HT 15 rfl ?_
        refine eS HT 16 rfl ?_
        refine ef HT 17 rfl pK ?_
        refine ef HT 18 rfl pM ?_
        refine eS HT 19 rfl ?_
        refine eS HT 20 rfl ?_
        refine eS HT 21 rfl ?_
        refine eS HT 22 rfl ?_
        refine eS HT 23 rfl ?_
        refine eS HT 24 rfl ?_
        refine eS HT 25 rfl ?_
        refine eS HT 26 rfl ?_
        refine eS HT 27 rfl ?_
        refine eS HT 28 rfl ?_
        refine eS HT 29 rfl ?_
        refine eS HT 30 rfl ?_
        refine ef HT 31 rfl pK ?_
        refine eE HT ?_
        clear HT
        refine aCondT rfl ?_
        refine aSeq ?_
        refine aReg ?_
        refine sp pMa ?_
        refine oNil ?_
        refine aRet ?_
        refine finIs rfl ?_
        have hbad : (nodeB x && agP b (l.getD 0 0) x) = false := by
          first
            | exact ag_bad1 (by assumption)
            | exact and_bad (ag_bad2 (by omega))
            | exact and_bad (ag_bad3 hx26 (chk_no (by assumption)))
            | exact and_bad (ag_bad4 hx26 (by assumption))
        rw [show agreeM b l = false from all_bad hx hbad]
        rfl
      · skip
        have hxr := nodeB_iff.1 (show nodeB x = true by assumption)
        refine epG HT 4 rfl pM ?_
        refine epG HT 5 rfl pM ?_
        refine epG HT 6 rfl (by first | exact pLm sl_81 | exact pLs sl_81) ?_
        refine epG HT 7 rfl pB ?_
        refine ef HT 8 rfl pK ?_
        refine ef HT 9 rfl pM ?_
        refine eSplitDec 22 rfl (fun c22 => ?_) (fun c22 => ?_)
        · skip
          refine eS HT 10 rfl ?_
          refine eS HT 11 rfl ?_
          refine eS HT 12 rfl ?_
          refine eS HT 13 rfl ?_
          refine eS HT 14 rfl ?_
          refine eS HT 15 rfl ?_
          refine eS HT 16 rfl ?_
          refine ef HT 17 rfl pK ?_
          refine ef HT 18 rfl pM ?_
          refine eS HT 19 rfl ?_
          refine eS HT 20 rfl ?_
          refine eS HT 21 rfl ?_
          refine eS HT 22 rfl ?_
          refine eS HT 23 rfl ?_
          refine eS HT 24 rfl ?_
          refine eS HT 25 rfl ?_
          refine eS HT 26 rfl ?_
          refine eS HT 27 rfl ?_
          refine eS HT 28 rfl ?_
          refine eS HT 29 rfl ?_
          refine eS HT 30 rfl ?_
          refine ef HT 31 rfl pK ?_
          refine eE HT ?_
          clear HT
          refine aCondT rfl ?_
          refine aSeq ?_
          refine aReg ?_
          refine sp pMa ?_
          refine oNil ?_
          refine aRet ?_
          refine finIs rfl ?_
          have hbad : (nodeB x && agP b (l.getD 0 0) x) = false := by
            first
              | exact ag_bad1 (by assumption)
              | exact and_bad (ag_bad2 (by omega))
              | exact and_bad (ag_bad3 hx26 (chk_no (by assumption)))
              | exact and_bad (ag_bad4 hx26 (by assumption))
          rw [show agreeM b l = false from all_bad hx hbad]
          rfl
        · skip
          refine epG HT 10 rfl pM ?_
          refine epG HT 11 rfl pM ?_
          refine epG HT 12 rfl pSu ?_
          first | refine epG HT 13 rfl (pIx es_81) ?_ | (refine obtEN 23 25 rfl rfl (by omega) (fun x26 hx26 => ?_); refine epG HT 13 rfl (pIs es_81 hx26) ?_) | (refine obtE 23 25 rfl rfl (by omega) (by omega) (fun x26 hx26 => ?_); refine epG HT 13 rfl (pIs es_81 hx26) ?_) | refine epG HT 13 rfl (pIo es_81) ?_
          refine erG HT 14 rfl (rS1 ty_55) ?_
          refine e1G HT 15 rfl ?_
          refine cv rfl rfl rfl (lents_refl _) (lsdb_Check_v (db := x26) (hb _ (List.mem_of_getElem? hx26)).1) ?_
          refine efG HT 16 rfl pB ?_
          refine ef HT 17 rfl pK ?_
          refine ef HT 18 rfl pM ?_
          refine eSplitNe 31 rfl (fun c31 => ?_) (fun c31 => ?_)
          · skip
            refine eS HT 19 rfl ?_
            refine eS HT 20 rfl ?_
            refine eS HT 21 rfl ?_
            refine eS HT 22 rfl ?_
            refine eS HT 23 rfl ?_
            refine eS HT 24 rfl ?_
            refine eS HT 25 rfl ?_
            refine eS HT 26 rfl ?_
            refine eS HT 27 rfl ?_
            refine eS HT 28 rfl ?_
            refine eS HT 29 rfl ?_
            refine eS HT 30 rfl ?_
            refine ef HT 31 rfl pK ?_
            refine eE HT ?_
            clear HT
            refine aCondT rfl ?_
            refine aSeq ?_
            refine aReg ?_
            refine sp pMa ?_
            refine oNil ?_
            refine aRet ?_
            refine finIs rfl ?_
            have hbad : (nodeB x && agP b (l.getD 0 0) x) = false := by
              first
                | exact ag_bad1 (by assumption)
                | exact and_bad (ag_bad2 (by omega))
                | exact and_bad (ag_bad3 hx26 (chk_no (by assumption)))
                | exact and_bad (ag_bad4 hx26 (by assumption))
            rw [show agreeM b l = false from all_bad hx hbad]
            rfl
          · skip
            refine epG HT 19 rfl pM ?_
            refine epG HT 20 rfl pM ?_
            refine epG HT 21 rfl pSu ?_
            first | refine epG HT 22 rfl (pIx es_81) ?_ | (refine obtEN 32 34 rfl rfl (by omega) (fun x35 hx35 => ?_); refine epG HT 22 rfl (pIs es_81 hx35) ?_) | (refine obtE 32 34 rfl rfl (by omega) (by omega) (fun x35 hx35 => ?_); refine epG HT 22 rfl (pIs es_81 hx35) ?_) | refine epG HT 22 rfl (pIo es_81) ?_
            refine erG HT 23 rfl (rS1 ty_55) ?_
            refine epG HT 24 rfl pM ?_
            refine epG HT 25 rfl pM ?_
            first | refine epG HT 26 rfl (pIx es_25) ?_ | refine epG HT 26 rfl (pIo es_25) ?_
            refine erG HT 27 rfl (rS1 ty_3) ?_
            refine e1G HT 28 rfl ?_
            refine ci rfl rfl rfl (hop_base (b := b) (n := l.getD 0 0) (hn0 (by assumption)) hbl (fun x hx => (hb x hx).1)) ?_
            refine e1G HT 29 rfl ?_
            refine cv rfl rfl rfl (lents_refl _) (equalF_Lsa (a := x26) (b := baseM b (l.getD 0 0)) (hb _ (List.mem_of_getElem? hx26)).1 (by have := base_len b (l.getD 0 0); omega) (hb _ (List.mem_of_getElem? hx26)).2 (fun z hz => by have := lsa_links (lsdb_mem (base_ok b (l.getD 0 0)) z hz); omega)) ?_
            refine efG HT 30 rfl pNo ?_
            refine ef HT 31 rfl pK ?_
            refine eE HT ?_
            clear HT
            refine aCondNot rfl (fun c44 => ?_) (fun c44 => ?_)
            · skip
              refine aSeq ?_
              refine aReg ?_
              refine sp pMa ?_
              refine oNil ?_
              refine aRet ?_
              refine finIs rfl ?_
              have hbad : (nodeB x && agP b (l.getD 0 0) x) = false := by
                first
                  | exact ag_bad1 (by assumption)
                  | exact and_bad (ag_bad2 (by omega))
                  | exact and_bad (ag_bad3 hx26 (chk_no (by assumption)))
                  | exact and_bad (ag_bad4 hx26 (by assumption))
              rw [show agreeM b l = false from all_bad hx hbad]
              rfl
            · skip
              refine aSkip ?_
              refine aReg ?_
              refine sp pAd ?_
              refine sp pM ?_
              refine oNil ?_
              refine ⟨i + 1, ?_, by (try dsimp only); omega, ⟨gInt rfl (by first | rfl | omega | simp), rfl, rfl, rfl, rfl, trivial⟩, _, (by repeat constructor)⟩
              refine ⟨by omega, all_step hx (p := fun y => nodeB y && agP b (l.getD 0 0) y) hv ?_⟩
              rw [show nodeB x = true by assumption, Bool.true_and]
              exact ag_good (by omega) (by omega) hx26 (chk_yes (by assumption)) (by assumption)
    · skip
      refine aExit rfl ?_
      refine aSeq ?_
      refine aReg ?_
      refine sp pMa ?_
      refine oNil ?_
      refine aRet ?_
      refine finIs rfl ?_
      rw [take_all (by omega)] at hv
      rw [show agreeM b l = true from List.all_eq_true.2 hv]
      rfl
end A
end Go.Proofs.Ytmcannmjielalaa
set_option linter.unusedVariables false
set_option linter.unusedSimpArgs false
namespace Go.Proofs.Ytmcannmjielalaa
namespace A
def lightM (b : List (List Lsa)) : Bool := decide (b.length ≤ 6) && b.all fewB
theorem light_yes {b : List (List Lsa)} (h : lightM b = true) : b.length ≤ 6 ∧ ∀ x ∈ b, x.length ≤ 8 ∧ ∀ y ∈ x, y.ls.length ≤ 40 := by
  unfold lightM at h
  rw [Bool.and_eq_true, decide_eq_true_eq, List.all_eq_true] at h
  exact ⟨h.1, fun x hx => few_len (h.2 x hx)⟩
theorem light_bad {b : List (List Lsa)} {x : List Lsa} (hx : x ∈ b) (h : fewB x = false) : lightM b = false := by
  unfold lightM
  have : b.all fewB = false := by
    rw [Bool.eq_false_iff]
    intro h2
    have := List.all_eq_true.1 h2 x hx
    rw [h] at this
    cases this
  rw [this]
  simp
theorem light_end {b : List (List Lsa)} {i : Nat} (hi : i ≤ b.length) (hv : ∀ y ∈ b.take i, fewB y = true) (h : b.length ≤ i ∨ 6 < i) : lightM b = decide (b.length ≤ 6) := by
  unfold lightM
  by_cases h6 : b.length ≤ 6
  · rw [take_all (by omega)] at hv
    rw [List.all_eq_true.2 hv]
    simp
  · rw [decide_eq_false h6]
    rfl
theorem few_bad1 {x : List Lsa} (h : 8 < x.length) : fewB x = false := by unfold fewB; rw [decide_eq_false (by omega)]; rfl
theorem few_bad2 {x : List Lsa} (h : lightB x = false) : fewB x = false := by unfold fewB; rw [h]; simp
theorem few_good {x : List Lsa} (h1 : x.length ≤ 8) (h : lightB x = true) : fewB x = true := by unfold fewB; rw [h, decide_eq_true h1]; rfl
theorem agree_yes {b : List (List Lsa)} {l : List Int} (h6 : b.length ≤ 64) (hv : ∀ y ∈ l, agP b (l.getD 0 0) y = true) : agreeM b l = true := by
  unfold agreeM
  refine List.all_eq_true.2 (fun y hy => ?_)
  have h1 := hv y hy
  rw [h1, Bool.and_true]
  unfold agP at h1
  simp only [Bool.and_eq_true, decide_eq_true_eq] at h1
  exact nodeB_iff.2 ⟨h1.1.1.1, by omega⟩
/-! ### All nodes have the same base -/
def repM (db : List Lsa) : List (List Lsa) := List.replicate 64 db
theorem rep_at {db : List Lsa} {n : Int} (h1 : 1 ≤ n) (h2 : n ≤ 64) : atB (repM db) n = db := by
  unfold atB repM
  rw [List.getD, List.getElem?_replicate, if_pos (by omega)]
  rfl
theorem rep_base {db : List Lsa} (hv : lsdbB 0 db = true) {n : Int} (h1 : 1 ≤ n) (h2 : n ≤ 64) : baseM (repM db) n = db := by
  unfold baseM
  rw [rep_at h1 h2, if_pos hv]
theorem rep_agree {db : List Lsa} (hv : lsdbB 0 db = true) {l : List Int} (hl : ∀ y ∈ l, 1 ≤ y ∧ y ≤ 64) : agreeM (repM db) l = true := by
  refine agree_yes (by unfold repM; simp) (fun y hy => ?_)
  have h0 : 1 ≤ l.getD 0 0 ∧ l.getD 0 0 ≤ 64 := by
    cases l with
    | nil => simp at hy
    | cons a t => exact hl a (by simp)
  have := hl y hy
  unfold agP
  rw [rep_at this.1 this.2, rep_base hv h0.1 h0.2, hv, decide_eq_true this.1, decide_eq_true (show y ≤ ((repM db).length : Int) by unfold repM; simp; omega)]
  simp
theorem find_isF {db : List Lsa} (hv : lsdbB 0 db = true) {v td : Int} (hne : v ≠ td) : (isF (arcsDb db) v td = true → (findR (rtsDb db v) td).isSome = true ∧ findG (rtsDb db v) td = ⟨td, viaM (arcsDb db) v td, dF (arcsDb db) v td⟩) ∧ (isF (arcsDb db) v td = false → (findR (rtsDb db v) td).isSome = false) := by
  have hok := dbArcs_ok hv
  have hr : rtsDb db v = rtsM (arcsDb db) v := by unfold rtsDb; rw [if_pos hv]
  rw [hr]
  constructor
  · intro h
    cases hf : findR (rtsM (arcsDb db) v) td with
    | none => exact absurd rfl (findR_none hf _ (rtsM_of hok (fun e => hne e.symm) h))
    | some x =>
      obtain ⟨h1, h2⟩ := findR_some hf
      obtain ⟨_, _, _, h3⟩ := rtsM_mem h1
      refine ⟨rfl, ?_⟩
      unfold findG
      rw [hf, Option.getD_some, h3, h2]
  · intro h
    cases hf : findR (rtsM (arcsDb db) v) td with
    | none => rfl
    | some x =>
      obtain ⟨h1, h2⟩ := findR_some hf
      obtain ⟨_, _, h3, _⟩ := rtsM_mem h1
      rw [h2, h] at h3
      cases h3
theorem find_self {db : List Lsa} {v : Int} : findG (rtsDb db v) v = ⟨0, 0, 0⟩ := by
  refine findG_no ?_
  cases hf : findR (rtsDb db v) v with
  | none => rfl
  | some x =>
    obtain ⟨h1, h2⟩ := findR_some hf
    unfold rtsDb at h1
    split at h1
    · exact absurd h2 (rtsM_mem h1).2.1
    · simp at h1
theorem goM_rep {db : List Lsa} (hv : lsdbB 0 db = true) {td : Int} : ∀ (k : Nat) (v : Int), 1 ≤ v → v ≤ 64 → HWay (arcsDb db) td v (hopsF (arcsDb db) td k v) → goM (repM db) td k v = (hopsF (arcsDb db) td k v, 1)
  | 0, v, h1, h2, h => by
    unfold hopsF at h ⊢
    cases h with
    | here => exact goM_here
    | hop _ _ _ _ _ h => have := h.ends.1; simp at this
  | k + 1, v, h1, h2, h => by
    by_cases e : v = td
    · subst e
      rw [goM_here]
      unfold hopsF
      rw [if_pos rfl]
    · have hf : hopsF (arcsDb db) td (k + 1) v = v :: hopsF (arcsDb db) td k (viaM (arcsDb db) v td) := by rw [hopsF, if_neg e]
      rw [hf] at h ⊢
      generalize hp : hopsF (arcsDb db) td k (viaM (arcsDb db) v td) = p at h
      cases h with
      | here => exact absurd rfl e
      | @hop _ a _ ha hfa hne hi hd h =>
        have hat : a.t = viaM (arcsDb db) v td := by
          have h3 := h.ends.1
          rw [← hp] at h3
          have : (hopsF (arcsDb db) td k (viaM (arcsDb db) v td)).head? = some (viaM (arcsDb db) v td) := by
            cases k with
            | zero => rfl
            | succ k => unfold hopsF; split <;> rfl
          rw [this] at h3
          exact (Option.some.inj h3).symm
        have hok := arcs_ok (dbArcs_ok hv) a ha
        unfold AOk at hok
        obtain ⟨h4, h5⟩ := (find_isF hv e).1 hi
        have hb := rep_base hv h1 h2
        rw [goM_step e (by rw [hb]; exact h4), hb, h5]
        show (v :: (goM (repM db) td k (viaM (arcsDb db) v td)).1, _) = _
        rw [goM_rep hv k _ (by omega) (by omega) (by rw [hp, ← hat]; exact h), hp]
theorem goW_rep {db : List Lsa} (hv : lsdbB 0 db = true) {fr td : Int} (h1 : 1 ≤ fr) (h2 : fr ≤ 64) (h3 : 1 ≤ td) (h4 : td ≤ 64) : goW (repM db) fr td 64 = if isF (arcsDb db) fr td then (hopsF (arcsDb db) td 64 fr, 1) else ([fr], 2) := by
  unfold goW
  rw [nodeB_iff.2 ⟨h1, h2⟩, nodeB_iff.2 ⟨h3, h4⟩, show hopsN 64 = 64 from rfl]
  simp only [Bool.and_self, if_true]
  have hok := dbArcs_ok hv
  cases hi : isF (arcsDb db) fr td with
  | true => rw [if_pos rfl]; exact goM_rep hv 64 fr h1 h2 (hops_way (arcs_ok hok) (arcsB_sorted hok) hi)
  | false =>
    have e : fr ≠ td := fun e => by
      subst e
      rw [(dF_root (arcs_ok hok) h1 h2).1] at hi
      cases hi
    rw [if_neg (by decide), goM_lost e (by rw [rep_base hv h1 h2]; exact (find_isF hv e).2 hi)]
theorem arc_cost {db : List Lsa} (hv : lsdbB 0 db = true) {a : Arc} (ha : a ∈ arcsDb db) : costL (getL db a.f).ls a.t = a.c := by
  unfold arcsDb at ha
  rw [if_pos hv] at ha
  obtain ⟨l, hl, x, hx, _, rfl⟩ := mem_arcsAll.1 ha
  show costL (getL db l.o).ls x.t = x.c
  rw [getL_mem hv hl]
  unfold costL
  have hs := (linksB_spec (lsaB_links ((lsdbB_spec hv).1 l hl).2)).2
  cases hf : l.ls.find? (fun y => y.t == x.t) with
  | none => rw [List.find?_eq_none] at hf; exact absurd (by simp) (hf x hx)
  | some y =>
    have h1 := List.mem_of_find?_eq_some hf
    have h2 : y.t = x.t := by simpa using List.find?_some hf
    rw [pw_inj hs y h1 x hx h2]
theorem sumI_rep {db : List Lsa} (hv : lsdbB 0 db = true) {fr td : Int} {L : List Int} (hw : HWay (arcsDb db) td fr L) (hr : ∀ u ∈ L, 1 ≤ u ∧ u ≤ 64) : ∀ (i : Nat) (x : Int), L[i]? = some x → sumI (repM db) L i = dF (arcsDb db) fr td - dF (arcsDb db) x td
  | 0, x, hx => by
    have := hw.ends.1
    rw [List.head?_eq_getElem?, hx] at this
    cases this
    simp [sumI]
  | i + 1, x, hx => by
    obtain ⟨w, hw1⟩ : ∃ z, L[i]? = some z := ⟨_, List.getElem?_eq_getElem (by have := (List.getElem?_eq_some_iff.1 hx).1; omega)⟩
    obtain ⟨a, ha, hf, ht, hc⟩ := hw.arc i w x hw1 hx
    rw [sumI_step hw1 hx, sumI_rep hv hw hr i w hw1]
    have hwr := hr w (List.mem_of_getElem? hw1)
    have : stepC (repM db) w x = a.c := by
      unfold stepC
      rw [rep_base hv hwr.1 hwr.2, ← hf, ← ht]
      exact arc_cost hv ha
    omega
theorem sum_rep {db : List Lsa} (hv : lsdbB 0 db = true) {fr td : Int} (h1 : 1 ≤ fr) (h2 : fr ≤ 64) (h3 : 1 ≤ td) (h4 : td ≤ 64) : sumW (repM db) fr td 64 = cosW (repM db) fr td 64 := by
  have hg := goW_rep hv h1 h2 h3 h4
  cases hi : isF (arcsDb db) fr td with
  | false =>
    rw [hi, if_neg (by decide)] at hg
    obtain ⟨_, e1, e2⟩ := okW_no (b := repM db) (fr := fr) (td := td) (hops := 64) (by rw [hg]; exact (by decide : (2 : Int) ≠ 1))
    rw [e1, e2]
  | true =>
    rw [hi, if_pos rfl] at hg
    obtain ⟨_, e1, e2⟩ := okW_yes (b := repM db) (fr := fr) (td := td) (hops := 64) (by rw [hg])
    have hok := dbArcs_ok hv
    have hw := hops_way (arcs_ok hok) (arcsB_sorted hok) hi
    have hr := goW_rng (b := repM db) (fr := fr) (td := td) (hops := 64)
    rw [hg] at hr
    have hl := hw.ends.2
    rw [List.getLast?_eq_getElem?] at hl
    rw [e1, e2, hg, sumI_rep hv hw hr _ _ hl, rep_base hv h1 h2, (dF_root (arcs_ok hok) h3 h4).2]
    by_cases e : fr = td
    · subst e
      rw [find_self, (dF_root (arcs_ok hok) h1 h2).2]
      rfl
    · rw [((find_isF hv e).1 hi).2]
      simp
theorem rep_nodup {db : List Lsa} (hv : lsdbB 0 db = true) {fr td : Int} (h1 : 1 ≤ fr) (h2 : fr ≤ 64) (h3 : 1 ≤ td) (h4 : td ≤ 64) : (goW (repM db) fr td 64).1.Nodup := by
  rw [goW_rep hv h1 h2 h3 h4]
  have hok := dbArcs_ok hv
  cases hi : isF (arcsDb db) fr td with
  | true => rw [if_pos rfl]; exact (hops_way (arcs_ok hok) (arcsB_sorted hok) hi).nodup (arcs_ok hok)
  | false => simp
def reachB (db : List Lsa) (fr td : Int) : Bool := fr == td || decide (0 < (findG (rtsDb db fr) td).nd)
theorem reach_eq {db : List Lsa} {fr td : Int} (h : fr = td) : reachB db fr td = true := by unfold reachB; simp [h]
theorem reach_ne {db : List Lsa} {fr td : Int} (h : fr ≠ td) : reachB db fr td = decide (0 < (findG (rtsDb db fr) td).nd) := by unfold reachB; simp [h]
theorem reach_isF {db : List Lsa} (hv : lsdbB 0 db = true) {fr td : Int} (h1 : 1 ≤ fr) (h2 : fr ≤ 64) : reachB db fr td = isF (arcsDb db) fr td := by
  unfold reachB
  have hok := dbArcs_ok hv
  by_cases e : fr = td
  · subst e
    rw [(dF_root (arcs_ok hok) h1 h2).1]
    simp
  · cases hi : isF (arcsDb db) fr td with
    | true =>
      have := ((find_isF hv e).1 hi)
      have hn := findG_ok this.1
      simp
      right
      omega
    | false =>
      rw [findG_no ((find_isF hv e).2 hi)]
      simp [e]
theorem rep_facts {db : List Lsa} (hv : lsdbB 0 db = true) {fr td : Int} (h1 : 1 ≤ fr) (h2 : fr ≤ 64) (h3 : 1 ≤ td) (h4 : td ≤ 64) : okW (repM db) fr td 64 = reachB db fr td ∧ (goW (repM db) fr td 64).2 = if reachB db fr td then 1 else 2 := by
  unfold okW
  rw [goW_rep hv h1 h2 h3 h4, reach_isF hv h1 h2]
  cases isF (arcsDb db) fr td <;> simp
end A
end Go.Proofs.Ytmcannmjielalaa
