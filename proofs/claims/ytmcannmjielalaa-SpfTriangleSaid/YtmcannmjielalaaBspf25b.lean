/- What functions of the program compute: spf25b -/
import Derived.Test.YtmcannmjielalaaBspf25
import Derived.Test.YtmcannmjielalaaProg
import Derived.KernelRfl
set_option linter.unusedVariables false
set_option linter.unusedSimpArgs false
namespace Go.Proofs.Ytmcannmjielalaa
namespace A

theorem fd_164_0 : fieldOf Try.prog 164 0 = some (0, 1, false) := by kernel_rfl
theorem fd_164_2 : fieldOf Try.prog 164 2 = some (2, 1, false) := by kernel_rfl
theorem st_49 : structPlaces Try.prog 49 = some [(0, 1), (1, 1), (2, 1)] := by kernel_rfl
theorem ze_4 : zeroOf Try.prog 4 = some (.bool false) := by kernel_rfl
theorem DInv.pend {l : List Arc} {r : Int} {known : Int → Option (Int × Int)} {done : Int → Bool} {hp : List (Int × Int)} {pend pend' : Arc → Prop} (I : DInv l r known done hp pend) (h : ∀ a ∈ l, pend a → pend' a) : DInv l r known done hp pend' :=
  ⟨I.k1, I.d1, fun a ha hd ht hp => I.d2 a ha hd ht (fun hpa => hp (h a ha hpa)), I.h1, I.hr, I.h2⟩
theorem at_hop {l : List Arc} {r n : Int} {km km0 : List (Int × Rt)} {D : Int → Bool} {h : List (Int × Int)} {pend : Arc → Prop} {a : Arc} (I : DInv l r (kF km) D h pend) (hm : mGet km n = mGet km0 n) (hf : a.f = n) :
    hopC r (kF km) a = ((mGet km0 n).getD ⟨0, 0, 0⟩).c + a.c ∧ hopV r (kF km) a = if n = r then a.t else ((mGet km0 n).getD ⟨0, 0, 0⟩).via := by
  unfold hopC hopV
  rw [hf, ← hm]
  by_cases e : n = r
  · rw [if_pos e, if_pos e, if_pos e]
    refine ⟨?_, rfl⟩
    have hno : mGet km n = none := by
      cases hg : mGet km n with
      | none => rfl
      | some x =>
        have := (I.k1 n (x.via, x.c) (by simp only [kF, hg, Option.map_some])).1
        exact absurd e this
    rw [hno]
    show a.c = 0 + a.c
    omega
  · rw [if_neg e, if_neg e, if_neg e]
    unfold kF
    cases mGet km n <;> exact ⟨rfl, rfl⟩
theorem drop_pend {α : Type} {xs : List α} {i : Nat} {a : α} (h : xs[i]? = some a) : ∀ b, b ∈ xs.drop i → b ∈ xs.drop (i + 1) ∨ b = a := fun b hb => by
  rw [drop_step h] at hb
  rcases List.mem_cons.1 hb with e | e
  · exact .inr e
  · exact .inl e

/- spf.walk).spread -/
def spf_spread_r4_T : Bool × List (List Nat × List Nat) := (true, [([], []), ([0], [0]), ([], []), ([2], [2]), ([3], [3]), ([4], [4]), ([1, 5], [1, 5]), ([6], [6]), ([7], [7]), ([8, 7], [7, 8]), ([9, 7], [7, 9]), ([10, 7], [7, 10]), ([7], [7]), ([12, 7], [7, 12]), ([11, 13, 7], [7, 11, 13]), ([7, 14], [7, 14])])
def spf_spread_r4_B : List Nat := [0, 1, 0, 4, 12, 28, 63, 127, 255, 511, 1023, 2047, 255, 4351, 16383, 32767]
theorem spf_spread_r4_t : Go.Proofs.YtmcannmjielalaaW.PrintLast.rtab .any (Go.Proofs.YtmcannmjielalaaW.PrintLast.opsOf Try.f127 4) = spf_spread_r4_T := by kernel_rfl
theorem spf_spread_r4_b : Go.Proofs.YtmcannmjielalaaW.PrintLast.waitsOk spf_spread_r4_T.2 spf_spread_r4_B = true := by kernel_rfl
def spf_spread_r8_T : Bool × List (List Nat × List Nat) := (true, [([], []), ([], []), ([1], [1]), ([], []), ([], []), ([4], [4]), ([], []), ([6], [6]), ([7], [7]), ([5, 8], [5, 8]), ([2, 3, 9], [2, 3, 9]), ([0, 10, 9], [0, 10])])
def spf_spread_r8_B : List Nat := [0, 0, 2, 0, 0, 16, 0, 64, 192, 496, 1022, 2047]
theorem spf_spread_r8_t : Go.Proofs.YtmcannmjielalaaW.PrintLast.rtab .any (Go.Proofs.YtmcannmjielalaaW.PrintLast.opsOf Try.f127 8) = spf_spread_r8_T := by kernel_rfl
theorem spf_spread_r8_b : Go.Proofs.YtmcannmjielalaaW.PrintLast.waitsOk spf_spread_r8_T.2 spf_spread_r8_B = true := by kernel_rfl
set_option maxRecDepth 100000 in
set_option maxHeartbeats 4000000 in
theorem spf_spread {l : List Arc} {r : Int} (hlA : ∀ a ∈ l, AOk a) (hsA : l.Pairwise ltA) (hll : l.length ≤ 1000000) (wb kb db hb : Nat) (km0 : List (Int × Rt)) (dm : List (Int × Bool)) (g0 : Option Nat) (c0 : Nat) (h0 : List (Int × Int)) (n : Int) (xs : List Arc) (hxs : xs = l.filter fun a => a.f == n) (hk0 : HeapOk h0) (hhl : h0.length + xs.length ≤ 1000000) (I0 : DInv l r (kF km0) (DF dm) h0 (fun a => a.f = n)) (hn : DF dm n = true) (K0 : KI km0) : Triple Try.prog 127 [(.v (.pointer (some ⟨wb, 0, none⟩))), .sl 3 (xs.map arcC), .int n] [.box wb [.int r, .v (.map (some kb)), .v (.map (some db)), .v (.pointer (some ⟨hb, 0, none⟩))], .map kb (kvM rtA (km0)), .map db (kvM boA dm), .box hb [.v (slV g0 (h0).length c0)], .sl g0 c0 162 2 ((h0).map spC)] (fun q h' => ∃ km g c h, q = .tup [] ∧ h' = [.box wb [.int r, .v (.map (some kb)), .v (.map (some db)), .v (.pointer (some ⟨hb, 0, none⟩))], .map kb (kvM rtA (km)), .map db (kvM boA dm), .box hb [.v (slV g (h).length c)], .sl g c 162 2 ((h).map spC)] ∧ HeapOk h ∧ DInv l r (kF km) (DF dm) h (fun _ => False) ∧ KI km ∧ h.length ≤ h0.length + xs.length) := by
  refine triple_of Try.func127 rfl (by kernel_rfl) rfl (by simp) ?_
  refine aSeq ?_
  refine aReg ?_
  refine sp pM ?_
  refine sp pNv ?_
  refine sp (pFb fd_164_1) ?_
  refine sr (rB1 ty_158) ?_
  refine sp pM ?_
  refine sr (rMG mo_158 ze_49 (⟨0, 0, 0⟩ : Rt) cast_rt) ?_
  refine sq ?_
  refine qAlloc rfl rfl (by decide) ze_49 rfl (fun b6 => ?_)
  refine sa ?_
  refine oStW rfl rfl rfl rfl (by repeat constructor) ty_49 ?_
  refine oNil ?_
  refine aSeq ?_
  refine aReg ?_
  refine sp pM ?_
  refine sp (by first | exact pLm sl_22 | exact pLs sl_22) ?_
  refine sp pM ?_
  refine oNil ?_
  refine aBlock ?_
  refine loopF (α := Nat × List (Int × Rt) × Option Nat × Nat × List (Int × Int)) (kept := [(0, _), (2, _), (6, _), (16, _), (17, _)]) (fun (i, km, g, c, h) => i ≤ xs.length ∧ HeapOk h ∧ DInv l r (kF km) (DF dm) h (fun b => b ∈ xs.drop i) ∧ KI km ∧ h.length ≤ h0.length + i ∧ mGet km n = mGet km0 n) (fun (i, km, g, c, h) => [(18, .int i)]) (fun (i, km, g, c, h) => [.box wb [.int r, .v (.map (some kb)), .v (.map (some db)), .v (.pointer (some ⟨hb, 0, none⟩))], .map kb (kvM rtA (km)), .map db (kvM boA dm), .box hb [.v (slV g (h).length c)], .sl g c 162 2 ((h).map spC)]) (fun (i, km, g, c, h) => xs.length - i) (0, km0, g0, c0, h0) ?_ ⟨gInt rfl (by first | rfl | omega | simp), rfl, rfl, rfl, rfl, rfl, trivial⟩ (by repeat constructor) ?_
  · skip
    exact ⟨by omega, hk0, I0.pend (fun a ha e => by rw [List.drop_zero, hxs, List.mem_filter]; exact ⟨ha, by simpa using e⟩), K0, by omega, rfl⟩
  · rintro ⟨i, km, g, c, h⟩ ⟨hi, hk, I, K, hlen, hm⟩
    refine aSeq ?_
    refine aReg ?_
    refine sp pB ?_
    refine oNil ?_
    refine aSeq ?_
    refine aCondDec rfl (fun c19 => ?_) (fun c19 => ?_)
    · skip
      refine aSkip ?_
      refine aSeq ?_
      refine aBlock ?_
      refine aSeq ?_
      obtain ⟨a, ha⟩ : ∃ a, xs[i]? = some a := ⟨_, List.getElem?_eq_getElem (by omega)⟩
      have hal : a ∈ l ∧ a.f = n := by
        have := List.mem_of_getElem? ha
        rw [hxs, List.mem_filter] at this
        exact ⟨this.1, by simpa using this.2⟩
      have hak := hlA a hal.1
      unfold AOk at hak
      have hop := at_hop (a := a) I hm hal.2
      have hopI := I.hop hlA hal.1 (by rw [hal.2]; exact hn)
      have hdr := dF_range hlA hll r a.f
      have hpe := drop_pend ha
      refine aReg ?_
      first | refine sp (pIx es_22) ?_ | (refine obtSN 16 18 rfl rfl (by omega) (fun x20 hx20 => ?_); refine sp (pIs es_22 hx20) ?_) | (refine obtS 16 18 rfl rfl (by omega) (by omega) (fun x20 hx20 => ?_); refine sp (pIs es_22 hx20) ?_) | refine sp (pIo es_22) ?_
      refine sr (by first | exact rSW ty_36 rfl | exact rSA ty_36) ?_
      refine sq ?_
      refine qAlloc rfl rfl (by decide) ze_36 rfl (fun b8 => ?_)
      refine sa ?_
      refine oStW rfl rfl rfl rfl (by repeat constructor) ty_36 ?_
      refine oNil ?_
      refine aSeq ?_
      refine aSeq ?_
      refine aDrawT spf_spread_r4_t spf_spread_r4_b [] 16 #[false, false, false, false, false, false, false, false, false, false, false, false, false, false, false, false] (by kernel_rfl) rfl rfl (fun HT => ?_)
      refine dp HT 0 rfl (pFb fd_36_1) ?_
      refine dr HT 1 rfl (rB1 ty_3) ?_
      refine dp HT 2 rfl pM ?_
      refine dp HT 3 rfl pNv ?_
      refine dp HT 4 rfl (pFb fd_164_0) ?_
      refine dr HT 5 rfl (rB1 ty_3) ?_
      refine dp HT 6 rfl pB ?_
      refine dp HT 7 rfl pM ?_
      refine dSplitEq 29 rfl (fun c29 => ?_) (fun c29 => ?_)
      · skip
        refine dS HT 8 rfl ?_
        refine dS HT 9 rfl ?_
        refine dS HT 10 rfl ?_
        refine dS HT 11 rfl ?_
        refine dS HT 12 rfl ?_
        refine dS HT 13 rfl ?_
        refine dS HT 14 rfl ?_
        refine dp HT 15 rfl pK ?_
        refine dE HT ?_
        clear HT
        refine aCondT rfl ?_
        refine aExit rfl ?_
        refine aReg ?_
        refine sp pAd ?_
        refine sp pM ?_
        refine oNil ?_
        refine ⟨(i + 1, _, _, _, _), ?_, by (try dsimp only); omega, ⟨gInt rfl (by first | rfl | omega | simp), rfl, rfl, rfl, rfl, rfl, trivial⟩, _, (by repeat constructor)⟩
        first
          | exact ⟨by omega, hk, I.skip hlA hsA hpe (.inl (by assumption)), K, by omega, hm⟩
          | exact ⟨by omega, hk, I.skip hlA hsA hpe (.inr (by assumption)), K, by omega, hm⟩
          | (have hnd : DF dm a.t = false := by assumption
             obtain ⟨q1, q2, q3, q4⟩ := better_step I hal.1 (by rw [hal.2]; exact hn) hpe (by assumption) hnd (by rw [hop.1, hop.2]; first | rw [if_pos (by assumption)] | rw [if_neg (by assumption)]) K hB
             exact ⟨by omega, hk2, q1, q2, by omega, by rw [q4 n (fun e => by rw [e, hnd] at hn; cases hn)]; exact hm⟩)
      · skip
        refine dpG HT 8 rfl pM ?_
        refine dpG HT 9 rfl pNv ?_
        refine dpG HT 10 rfl (pFb fd_164_2) ?_
        refine drG HT 11 rfl (rB1 ty_144) ?_
        refine dpG HT 12 rfl (pFb fd_36_1) ?_
        refine drG HT 13 rfl (rB1 ty_3) ?_
        refine drG HT 14 rfl (rMGb mo_144 ze_4) ?_
        refine dp HT 15 rfl pK ?_
        refine dE HT ?_
        clear HT
        refine aCond rfl (fun c37 => ?_) (fun c37 => ?_)
        · skip
          refine aExit rfl ?_
          refine aReg ?_
          refine sp pAd ?_
          refine sp pM ?_
          refine oNil ?_
          refine ⟨(i + 1, _, _, _, _), ?_, by (try dsimp only); omega, ⟨gInt rfl (by first | rfl | omega | simp), rfl, rfl, rfl, rfl, rfl, trivial⟩, _, (by repeat constructor)⟩
          first
            | exact ⟨by omega, hk, I.skip hlA hsA hpe (.inl (by assumption)), K, by omega, hm⟩
            | exact ⟨by omega, hk, I.skip hlA hsA hpe (.inr (by assumption)), K, by omega, hm⟩
            | (have hnd : DF dm a.t = false := by assumption
               obtain ⟨q1, q2, q3, q4⟩ := better_step I hal.1 (by rw [hal.2]; exact hn) hpe (by assumption) hnd (by rw [hop.1, hop.2]; first | rw [if_pos (by assumption)] | rw [if_neg (by assumption)]) K hB
               exact ⟨by omega, hk2, q1, q2, by omega, by rw [q4 n (fun e => by rw [e, hnd] at hn; cases hn)]; exact hm⟩)
        · skip
          refine aSkip ?_
          refine aSeq ?_
          refine aReg ?_
          refine sp (pFb fd_49_1) ?_
          refine sr (rB1 ty_3) ?_
          refine sp pMa ?_
          refine oNil ?_
          refine aSeq ?_
          refine aSeq ?_
          refine aReg ?_
          refine sp pM ?_
          refine sp pM ?_
          refine sp pNv ?_
          refine sp (pFb fd_164_0) ?_
          refine sr (rB1 ty_3) ?_
          refine sp pB ?_
          refine oNil ?_
          refine aCondEq rfl (fun c45 => ?_) (fun c45 => ?_)
          · skip
            refine aReg ?_
            refine sp (pFb fd_36_1) ?_
            refine sr (rB1 ty_3) ?_
            refine sp pMa ?_
            refine oNil ?_
            refine aDrawT spf_spread_r8_t spf_spread_r8_b [11] 12 #[false, false, false, false, false, false, false, false, false, false, false, false] (by kernel_rfl) rfl rfl (fun HT => ?_)
            refine dp HT 0 rfl pM ?_
            refine dp HT 1 rfl (pFb fd_36_1) ?_
            refine dr HT 2 rfl (rB1 ty_3) ?_
            refine dp HT 3 rfl pM ?_
            refine dp HT 4 rfl (pFb fd_49_2) ?_
            refine dr HT 5 rfl (rB1 ty_37) ?_
            refine dp HT 6 rfl (pFb fd_36_2) ?_
            refine dr HT 7 rfl (rB1 ty_3) ?_
            refine dp HT 8 rfl (by first | exact pCvK ik_3 ik_37 | exact pConv rfl rfl ik_3 ik_37 rfl) ?_
            refine dGo ?_
            refine e1 HT 9 rfl ?_
            refine cv rfl rfl rfl (lents_refl _) (cost_Add (by omega) (by omega) (by omega) (by omega)) ?_
            rw [if_neg (by omega)]
            refine ef HT 10 rfl (pBuild rfl st_49 ze_49 rfl rfl rfl rfl) ?_
            refine eLast ?_
            refine f1 HT 11 rfl ?_
            refine ca rfl rfl rfl (spf_better wb kb db hb r km dm g c h ⟨a.t, _, ((mGet km0 n).getD ⟨0, 0, 0⟩).c + a.c⟩ hk (by omega)) ?_
            rintro _ _ ⟨km', g', c', h2, rfl, rfl, hk2, hB⟩
            refine fE HT ?_
            clear HT
            refine aReg ?_
            refine sp pAd ?_
            refine sp pM ?_
            refine oNil ?_
            refine ⟨(i + 1, _, _, _, _), ?_, by (try dsimp only); omega, ⟨gInt rfl (by first | rfl | omega | simp), rfl, rfl, rfl, rfl, rfl, trivial⟩, _, (by repeat constructor)⟩
            first
              | exact ⟨by omega, hk, I.skip hlA hsA hpe (.inl (by assumption)), K, by omega, hm⟩
              | exact ⟨by omega, hk, I.skip hlA hsA hpe (.inr (by assumption)), K, by omega, hm⟩
              | (have hnd : DF dm a.t = false := by assumption
                 obtain ⟨q1, q2, q3, q4⟩ := better_step I hal.1 (by rw [hal.2]; exact hn) hpe (by assumption) hnd (by rw [hop.1, hop.2]; first | rw [if_pos (by assumption)] | rw [if_neg (by assumption)]) K hB
                 exact ⟨by omega, hk2, q1, q2, by omega, by rw [q4 n (fun e => by rw [e, hnd] at hn; cases hn)]; exact hm⟩)
          · skip
            refine aSkip ?_
            refine aDrawT spf_spread_r8_t spf_spread_r8_b [11] 12 #[false, false, false, false, false, false, false, false, false, false, false, false] (by kernel_rfl) rfl rfl (fun HT => ?_)
            refine dp HT 0 rfl pM ?_
            refine dp HT 1 rfl (pFb fd_36_1) ?_
            refine dr HT 2 rfl (rB1 ty_3) ?_
            refine dp HT 3 rfl pM ?_
            refine dp HT 4 rfl (pFb fd_49_2) ?_
            refine dr HT 5 rfl (rB1 ty_37) ?_
            refine dp HT 6 rfl (pFb fd_36_2) ?_
            refine dr HT 7 rfl (rB1 ty_3) ?_
            refine dp HT 8 rfl (by first | exact pCvK ik_3 ik_37 | exact pConv rfl rfl ik_3 ik_37 rfl) ?_
            refine dGo ?_
            refine e1 HT 9 rfl ?_
            refine cv rfl rfl rfl (lents_refl _) (cost_Add (by omega) (by omega) (by omega) (by omega)) ?_
            rw [if_neg (by omega)]
            refine ef HT 10 rfl (pBuild rfl st_49 ze_49 rfl rfl rfl rfl) ?_
            refine eLast ?_
            refine f1 HT 11 rfl ?_
            refine ca rfl rfl rfl (spf_better wb kb db hb r km dm g c h ⟨a.t, _, ((mGet km0 n).getD ⟨0, 0, 0⟩).c + a.c⟩ hk (by omega)) ?_
            rintro _ _ ⟨km', g', c', h2, rfl, rfl, hk2, hB⟩
            refine fE HT ?_
            clear HT
            refine aReg ?_
            refine sp pAd ?_
            refine sp pM ?_
            refine oNil ?_
            refine ⟨(i + 1, _, _, _, _), ?_, by (try dsimp only); omega, ⟨gInt rfl (by first | rfl | omega | simp), rfl, rfl, rfl, rfl, rfl, trivial⟩, _, (by repeat constructor)⟩
            first
              | exact ⟨by omega, hk, I.skip hlA hsA hpe (.inl (by assumption)), K, by omega, hm⟩
              | exact ⟨by omega, hk, I.skip hlA hsA hpe (.inr (by assumption)), K, by omega, hm⟩
              | (have hnd : DF dm a.t = false := by assumption
                 obtain ⟨q1, q2, q3, q4⟩ := better_step I hal.1 (by rw [hal.2]; exact hn) hpe (by assumption) hnd (by rw [hop.1, hop.2]; first | rw [if_pos (by assumption)] | rw [if_neg (by assumption)]) K hB
                 exact ⟨by omega, hk2, q1, q2, by omega, by rw [q4 n (fun e => by rw [e, hnd] at hn; cases hn)]; exact hm⟩)
    · skip
      refine aExit rfl ?_
      refine ⟨_, [.box wb [.int r, .v (.map (some kb)), .v (.map (some db)), .v (.pointer (some ⟨hb, 0, none⟩))], .map kb (kvM rtA (km)), .map db (kvM boA dm), .box hb [.v (slV g (h).length c)], .sl g c 162 2 ((h).map spC)], _, rfl, (.cons (by repeat constructor) (.cons (by repeat constructor) (.cons (by repeat constructor) (.cons (by repeat constructor) (.cons (by repeat constructor) .nil))))), km, g, c, h, rfl, rfl, hk, I.pend (fun a ha e => ?_), K, by omega⟩
      rw [List.drop_of_length_le (by omega)] at e
      simp at e

end A
end Go.Proofs.Ytmcannmjielalaa
