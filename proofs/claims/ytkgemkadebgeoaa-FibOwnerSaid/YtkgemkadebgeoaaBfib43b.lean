/- What functions of the program compute: fib43b -/
import Derived.Test.YtkgemkadebgeoaaBfib43
import Derived.Test.YtkgemkadebgeoaaProg
import Derived.KernelRfl
set_option linter.unusedVariables false
set_option linter.unusedSimpArgs false
namespace Go.Proofs.Ytkgemkadebgeoaa
namespace A

theorem fd_170_0 : fieldOf Try.prog 170 0 = some (0, 1, false) := by kernel_rfl
theorem fd_170_1 : fieldOf Try.prog 170 1 = some (1, 1, false) := by kernel_rfl
theorem um_167 : Try.prog.underlying 167 = some (.map 29 170) := by kernel_rfl
theorem us_103 : Try.prog.underlying 103 = some (.slice 3) := by kernel_rfl
theorem ze_3 : zeroOf Try.prog 3 = some (.int .i64 0) := by kernel_rfl
theorem bestM_take {me : Int} {rs : List Rt} {cs : List E42} {i : Nat} {e : E42} (h : cs[i]? = some e) : bestM me rs (cs.take (i + 1)) = stepM me rs (bestM me rs (cs.take i)) e := by
  unfold bestM
  rw [take_step h, List.foldl_append]
  rfl
def ltV (w u : Way) : Int := orI [cmpI w.c u.c, cmpI w.nd u.nd]
theorem ltV_lt {w u : Way} : ltV w u < 0 ↔ ltW w u = true := by
  simp only [ltV, orI, ltW]
  have h1 := cmpI_ne (a := w.c) (b := u.c)
  have h2 := cmpI_lt (a := w.c) (b := u.c)
  have h3 := cmpI_ne (a := w.nd) (b := u.nd)
  have h4 := cmpI_lt (a := w.nd) (b := u.nd)
  simp only [Bool.or_eq_true, Bool.and_eq_true, decide_eq_true_eq, beq_iff_eq]
  split
  · omega
  · split <;> omega
theorem step_skip {me : Int} {rs : List Rt} {m : List (PfxK × Way)} {e : E42} (h : okP e.b e.n = false ∨ e.tv < 1 ∨ 64 < e.tv) : stepM me rs m e = m := by
  unfold stepM toOk
  rw [if_neg]
  simp only [Bool.and_eq_true, decide_eq_true_eq]
  rintro ⟨h1, h2, h3⟩
  rcases h with h | h | h
  · rw [h1] at h; cases h
  · omega
  · omega
theorem step_put {me : Int} {rs : List Rt} {m : List (PfxK × Way)} {e : E42} (h0 : okP e.b e.n = true) (h1 : 1 ≤ e.tv) (h2 : e.tv ≤ 64) (hb : reachB me rs e.tv = true) (h : (kGet m (e.b, e.n)).isSome = false ∨ ltV (reachA me rs e.tv) ((kGet m (e.b, e.n)).getD ⟨0, 0, 0⟩) < 0) : stepM me rs m e = kPut m (e.b, e.n) (reachA me rs e.tv) := by
  unfold stepM toOk
  rw [if_pos (by simp [h0, h1, h2]), reach_some hb]
  simp only
  rw [ltV_lt] at h
  cases hg : kGet m (e.b, e.n) with
  | none => rfl
  | some u =>
    rw [hg] at h
    simp only at h ⊢
    rw [if_pos (by rcases h with h | h; cases h; exact h)]
theorem step_no {me : Int} {rs : List Rt} {m : List (PfxK × Way)} {e : E42} (h : reachB me rs e.tv = false ∨ ((kGet m (e.b, e.n)).isSome = true ∧ ¬ ltV (reachA me rs e.tv) ((kGet m (e.b, e.n)).getD ⟨0, 0, 0⟩) < 0)) : stepM me rs m e = m := by
  unfold stepM
  split
  · cases hr : reachB me rs e.tv with
    | false => rw [reach_none hr]
    | true =>
      rw [reach_some hr]
      rw [ltV_lt] at h
      cases hg : kGet m (e.b, e.n) with
      | none => rw [hg, hr] at h; simp at h
      | some u =>
        rw [hg, hr] at h
        simp only
        rw [if_neg (by simpa using h)]
  · rfl

/- fib.best -/
def fib_best_r8_T : Bool × List (List Nat × List Nat) := (true, [([], []), ([0], [0]), ([1], [1]), ([2, 1], [1, 2]), ([3, 1, 1], [1, 3]), ([4], [4]), ([5, 4], [4, 5]), ([4], [4]), ([7, 4], [4, 7]), ([6, 8, 4, 4], [4, 6, 8]), ([4], [4]), ([10, 4], [4, 10]), ([4], [4]), ([12, 4], [4, 12]), ([11, 13, 9, 4], [4, 11, 13]), ([9, 14, 4], [4, 9, 14]), ([15, 14, 4], [4, 15]), ([16, 4], [4, 16]), ([4, 17, 1], [1, 4, 17]), ([1, 18], [1, 18])])
def fib_best_r8_B : List Nat := [0, 1, 3, 7, 15, 31, 63, 31, 159, 511, 31, 1055, 31, 4127, 16383, 32767, 65535, 131071, 262143, 524287]
theorem fib_best_r8_t : Go.Proofs.YtkgemkadebgeoaaW.PrintLast.rtab .any (Go.Proofs.YtkgemkadebgeoaaW.PrintLast.opsOf Try.f100 8) = fib_best_r8_T := by kernel_rfl
theorem fib_best_r8_b : Go.Proofs.YtkgemkadebgeoaaW.PrintLast.waitsOk fib_best_r8_T.2 fib_best_r8_B = true := by kernel_rfl
set_option maxRecDepth 100000 in
set_option maxHeartbeats 1000000 in
theorem fib_best {me : Int} {rs : List Rt} {cs : List E42} (hb : ∀ e ∈ cs, e.b < 2 ^ 32) (hl : rs.length ≤ 1000000) (hc : cs.length ≤ 1000) : Triple Try.prog 100 [.int me, .sl 3 (rs.map rtC), .sl 3 (cs.map e42C)] [] (fun q h' => ∃ b, q = .v (.map (some b)) ∧ h' = [.mapK b (kvKM pfxK wayA (bestM me rs cs))]) := by
  refine triple_of Try.func100 rfl (by kernel_rfl) rfl (by simp) ?_
  refine aSeq ?_
  refine aReg ?_
  refine sp pMa ?_
  refine oNil ?_
  refine aSeq ?_
  refine aReg ?_
  refine sq ?_
  refine qMK pfxK wayA rfl (fun b14 => ?_)
  refine sp pMa ?_
  refine oNil ?_
  refine aSeq ?_
  refine aSeq ?_
  refine aReg ?_
  refine sp pM ?_
  refine sp pM ?_
  refine sp (by first | exact pLm sl_26 | exact pLs sl_26) ?_
  refine sp pMin ?_
  rw [show min (cs.length : Int) 1000 = (cs.length : Int) by omega]
  refine sp (pSlice rfl rfl es_26 (bdN rfl) (bdI rfl) (by first | omega | (simp only [List.length_map]; omega)) (by first | omega | (simp only [List.length_map]; omega))) ?_
  rw [show ((cs.map e42C).drop 0).take (cs.length - 0) = cs.map e42C by rw [List.drop_zero, Nat.sub_zero, List.take_of_length_le (by simp)]]
  refine sp (by first | exact pLm sl_26 | exact pLs sl_26 | exact pLv sl_26) ?_
  refine sp pM ?_
  refine oNil ?_
  refine aBlock ?_
  refine loopF (α := Nat × List (PfxK × Way)) (kept := [(0, _), (1, _), (7, _), (19, _), (20, _)]) (fun (i, m) => i ≤ cs.length ∧ m = bestM me rs (cs.take i)) (fun (i, m) => [(21, .int i)]) (fun (i, m) => [.mapK b14 (kvKM pfxK wayA m)]) (fun (i, m) => cs.length - i) (0, []) ?_ ⟨gInt rfl (by first | rfl | omega | simp), rfl, rfl, rfl, rfl, rfl, trivial⟩ (by repeat constructor) ?_
  · skip
    exact ⟨by omega, rfl⟩
  · rintro ⟨i, m⟩ ⟨hi, hm⟩
    refine aSeq ?_
    refine aReg ?_
    refine sp pB ?_
    refine oNil ?_
    refine aSeq ?_
    refine aCondDec rfl (fun c22 => ?_) (fun c22 => ?_)
    · skip
      refine aSkip ?_
      refine aSeq ?_
      refine aBlock ?_
      refine aSeq ?_
      obtain ⟨e, he⟩ : ∃ e, cs[i]? = some e := ⟨_, List.getElem?_eq_getElem (by omega)⟩
      refine aReg ?_
      first | refine sp (pIx es_26) ?_ | (refine obtSN 19 21 rfl rfl (by omega) (fun x23 hx23 => ?_); refine sp (pIs es_26 hx23) ?_) | (refine obtS 19 21 rfl rfl (by omega) (by omega) (fun x23 hx23 => ?_); refine sp (pIs es_26 hx23) ?_) | refine sp (pIo es_26) ?_
      refine sr (by first | exact rSW ty_31 rfl | exact rSA ty_31 | exact rBWa ty_31 | exact rBW ty_31 | exact rBA ty_31 | exact rArA ty_31 (fun _ => rfl)) ?_
      refine sq ?_
      refine qAlloc rfl rfl (by decide) ze_31 rfl (fun b9 => ?_)
      refine sa ?_
      refine oStW rfl rfl rfl rfl (by repeat constructor) ty_31 ?_
      refine oNil ?_
      refine aSeq ?_
      refine aSeq ?_
      refine aReg ?_
      refine sp (pFb fd_31_0) ?_
      refine sr (by first | exact rBWa ty_29 | exact rBW ty_29 | exact rBA ty_29) ?_
      refine sq ?_
      refine qCallV rfl rfl (by decide) rfl rfl (lents_refl _) (prefix_Check e.b e.n (hb e (List.mem_of_getElem? he))) ?_
      refine sp pB ?_
      refine sp pM ?_
      refine oSplitNe 29 rfl (fun c29 => ?_) (fun c29 => ?_)
      · skip
        refine gf ?_
        refine gf ?_
        refine gf ?_
        refine sp pK ?_
        refine sp pM ?_
        refine gf ?_
        refine gf ?_
        refine gf ?_
        refine sp pK ?_
        refine oNil ?_
        refine aCondT rfl ?_
        refine aExit rfl ?_
        refine aReg ?_
        refine sp pAd ?_
        refine sp pM ?_
        refine oNil ?_
        refine ⟨(i + 1, _), ?_, by (try dsimp only); omega, ⟨gInt rfl (by first | rfl | omega | simp), rfl, rfl, rfl, rfl, rfl, trivial⟩, _, (by repeat constructor)⟩
        refine ⟨by omega, ?_⟩
        rw [bestM_take he, ← hm]
        first
          | exact (step_no (.inl (by assumption))).symm
          | exact (step_no (.inr ⟨by assumption, by unfold ltV; omega⟩)).symm
          | exact (step_put (by simp_all) (by omega) (by omega) (by assumption) (.inl (by assumption))).symm
          | exact (step_put (by simp_all) (by omega) (by omega) (by assumption) (.inr (by unfold ltV; omega))).symm
          | exact (step_skip (.inr (by omega))).symm
          | exact (step_skip (.inl (by simp_all; done))).symm
      · skip
        refine gp (pFb fd_31_1) ?_
        refine gr (rB1 ty_3) ?_
        refine gp pB ?_
        refine sp pK ?_
        refine sp pM ?_
        refine oSplitDec 34 rfl (fun c34 => ?_) (fun c34 => ?_)
        · skip
          refine gf ?_
          refine gf ?_
          refine gf ?_
          refine sp pK ?_
          refine oNil ?_
          refine aCondT rfl ?_
          refine aExit rfl ?_
          refine aReg ?_
          refine sp pAd ?_
          refine sp pM ?_
          refine oNil ?_
          refine ⟨(i + 1, _), ?_, by (try dsimp only); omega, ⟨gInt rfl (by first | rfl | omega | simp), rfl, rfl, rfl, rfl, rfl, trivial⟩, _, (by repeat constructor)⟩
          refine ⟨by omega, ?_⟩
          rw [bestM_take he, ← hm]
          first
            | exact (step_no (.inl (by assumption))).symm
            | exact (step_no (.inr ⟨by assumption, by unfold ltV; omega⟩)).symm
            | exact (step_put (by simp_all) (by omega) (by omega) (by assumption) (.inl (by assumption))).symm
            | exact (step_put (by simp_all) (by omega) (by omega) (by assumption) (.inr (by unfold ltV; omega))).symm
            | exact (step_skip (.inr (by omega))).symm
            | exact (step_skip (.inl (by simp_all; done))).symm
        · skip
          refine gp (pFb fd_31_1) ?_
          refine gr (rB1 ty_3) ?_
          refine gp pB ?_
          refine sp pK ?_
          refine oNil ?_
          refine aCondDec rfl (fun c38 => ?_) (fun c38 => ?_)
          · skip
            refine aExit rfl ?_
            refine aReg ?_
            refine sp pAd ?_
            refine sp pM ?_
            refine oNil ?_
            refine ⟨(i + 1, _), ?_, by (try dsimp only); omega, ⟨gInt rfl (by first | rfl | omega | simp), rfl, rfl, rfl, rfl, rfl, trivial⟩, _, (by repeat constructor)⟩
            refine ⟨by omega, ?_⟩
            rw [bestM_take he, ← hm]
            first
              | exact (step_no (.inl (by assumption))).symm
              | exact (step_no (.inr ⟨by assumption, by unfold ltV; omega⟩)).symm
              | exact (step_put (by simp_all) (by omega) (by omega) (by assumption) (.inl (by assumption))).symm
              | exact (step_put (by simp_all) (by omega) (by omega) (by assumption) (.inr (by unfold ltV; omega))).symm
              | exact (step_skip (.inr (by omega))).symm
              | exact (step_skip (.inl (by simp_all; done))).symm
          · skip
            refine aSkip ?_
            refine aSeq ?_
            refine aReg ?_
            refine sp pM ?_
            refine sp pM ?_
            refine sp (pFb fd_31_1) ?_
            refine sr (rB1 ty_3) ?_
            refine sq ?_
            refine ci rfl rfl rfl (fib_reach hl) ?_
            refine sp pM ?_
            refine sp pX ?_
            refine sp pX ?_
            refine sq ?_
            refine qAlloc rfl rfl (by decide) ze_170 rfl (fun b10 => ?_)
            refine sa ?_
            refine oStW rfl rfl rfl rfl (by repeat constructor) ty_170 ?_
            refine sp pMa ?_
            refine oNil ?_
            refine aSeq ?_
            refine aReg ?_
            refine sp pM ?_
            refine sp (pFb fd_31_0) ?_
            refine sr (by first | exact rBWa ty_29 | exact rBW ty_29 | exact rBA ty_29) ?_
            refine sr (rKGo (kf := pfxK) (c := wayA) (a := (e.b, e.n)) kt_Pfx um_167 ze_170 ⟨0, 0, 0⟩ cast_way) ?_
            refine sp pM ?_
            refine sp pX ?_
            refine sp pX ?_
            refine sq ?_
            refine qAlloc rfl rfl (by decide) ze_170 rfl (fun b12 => ?_)
            refine sa ?_
            refine oStW rfl rfl rfl rfl (by repeat constructor) ty_170 ?_
            refine sp pMa ?_
            refine oNil ?_
            refine aSeq ?_
            refine aDrawT fib_best_r8_t fib_best_r8_b [] 20 #[false, false, false, false, false, false, false, false, false, false, false, false, false, false, false, false, false, false, false, false] (by kernel_rfl) rfl rfl (fun HT => ?_)
            refine dp HT 0 rfl pM ?_
            refine dp HT 1 rfl pM ?_
            refine dSplit 55 rfl (fun c55 => ?_) (fun c55 => ?_)
            · skip
              refine dpG HT 2 rfl pM ?_
              refine dpG HT 3 rfl pNo ?_
              refine dpG HT 4 rfl pM ?_
              refine dSplitNot 58 rfl (fun c58 => ?_) (fun c58 => ?_)
              · skip
                refine dS HT 5 rfl ?_
                refine dS HT 6 rfl ?_
                refine dS HT 7 rfl ?_
                refine dS HT 8 rfl ?_
                refine dS HT 9 rfl ?_
                refine dS HT 10 rfl ?_
                refine dS HT 11 rfl ?_
                refine dS HT 12 rfl ?_
                refine dS HT 13 rfl ?_
                refine dGo ?_
                refine eS HT 14 rfl ?_
                refine eS HT 15 rfl ?_
                refine eS HT 16 rfl ?_
                refine eS HT 17 rfl ?_
                refine efG HT 18 rfl pK ?_
                refine ef HT 19 rfl pK ?_
                refine eE HT ?_
                clear HT
                refine aCondT rfl ?_
                refine aReg ?_
                refine sp pM ?_
                refine sp (pFb fd_31_0) ?_
                refine sr (by first | exact rBWa ty_29 | exact rBW ty_29 | exact rBA ty_29) ?_
                refine sr (by first | exact rBWa ty_170 | exact rBW ty_170 | exact rBA ty_170) ?_
                refine sa ?_
                refine oKP (kf := pfxK) (c := wayA) (a := (e.b, e.n)) (v := reachA me rs e.tv) kt_Pfx rfl rfl rfl rfl um_167 ?_
                refine oNil ?_
                refine aReg ?_
                refine sp pAd ?_
                refine sp pM ?_
                refine oNil ?_
                refine ⟨(i + 1, _), ?_, by (try dsimp only); omega, ⟨gInt rfl (by first | rfl | omega | simp), rfl, rfl, rfl, rfl, rfl, trivial⟩, _, (by repeat constructor)⟩
                refine ⟨by omega, ?_⟩
                rw [bestM_take he, ← hm]
                first
                  | exact (step_no (.inl (by assumption))).symm
                  | exact (step_no (.inr ⟨by assumption, by unfold ltV; omega⟩)).symm
                  | exact (step_put (by simp_all) (by omega) (by omega) (by assumption) (.inl (by assumption))).symm
                  | exact (step_put (by simp_all) (by omega) (by omega) (by assumption) (.inr (by unfold ltV; omega))).symm
                  | exact (step_skip (.inr (by omega))).symm
                  | exact (step_skip (.inl (by simp_all; done))).symm
              · skip
                refine dpG HT 5 rfl (pFb fd_170_0) ?_
                refine drG HT 6 rfl (rB1 ty_60) ?_
                refine dpG HT 7 rfl (pFb fd_170_0) ?_
                refine drG HT 8 rfl (rB1 ty_60) ?_
                refine dpG HT 10 rfl (pFb fd_170_1) ?_
                refine drG HT 11 rfl (rB1 ty_3) ?_
                refine dpG HT 12 rfl (pFb fd_170_1) ?_
                refine drG HT 13 rfl (rB1 ty_3) ?_
                refine dGo ?_
                refine e1G HT 9 rfl ?_
                refine cv rfl rfl rfl (lents_refl _) cmp_Compare_u64 ?_
                refine e1G HT 14 rfl ?_
                refine cv rfl rfl rfl (lents_refl _) cmp_Compare ?_
                refine e1G HT 15 rfl ?_
                refine qLit (l := [_, _]) rfl rfl (by decide) us_103 ty_3 ze_3 rfl (by decide) (by decide) rfl rfl rfl (fun b69 => ?_)
                refine e1G HT 16 rfl ?_
                refine cv rfl rfl rfl (by repeat (first | exact .nil | refine .cons (.sl (by repeat (first | exact List.mem_cons_self | apply List.mem_cons_of_mem)) (by first | rfl | simp)) ?_ | refine .cons (.same _) ?_)) (cmp_Or [cmpI (reachA me rs e.tv).c ((kGet m (e.b, e.n)).getD ⟨0, 0, 0⟩).c, cmpI (reachA me rs e.tv).nd ((kGet m (e.b, e.n)).getD ⟨0, 0, 0⟩).nd]) ?_
                refine efG HT 17 rfl pB ?_
                refine efG HT 18 rfl pK ?_
                refine ef HT 19 rfl pK ?_
                refine eE HT ?_
                clear HT
                refine aCondDec rfl (fun c73 => ?_) (fun c73 => ?_)
                · skip
                  refine aReg ?_
                  refine sp pM ?_
                  refine sp (pFb fd_31_0) ?_
                  refine sr (by first | exact rBWa ty_29 | exact rBW ty_29 | exact rBA ty_29) ?_
                  refine sr (by first | exact rBWa ty_170 | exact rBW ty_170 | exact rBA ty_170) ?_
                  refine sa ?_
                  refine oKP (kf := pfxK) (c := wayA) (a := (e.b, e.n)) (v := reachA me rs e.tv) kt_Pfx rfl rfl rfl rfl um_167 ?_
                  refine oNil ?_
                  refine aReg ?_
                  refine sp pAd ?_
                  refine sp pM ?_
                  refine oNil ?_
                  refine ⟨(i + 1, _), ?_, by (try dsimp only); omega, ⟨gInt rfl (by first | rfl | omega | simp), rfl, rfl, rfl, rfl, rfl, trivial⟩, _, (by repeat constructor)⟩
                  refine ⟨by omega, ?_⟩
                  rw [bestM_take he, ← hm]
                  first
                    | exact (step_no (.inl (by assumption))).symm
                    | exact (step_no (.inr ⟨by assumption, by unfold ltV; omega⟩)).symm
                    | exact (step_put (by simp_all) (by omega) (by omega) (by assumption) (.inl (by assumption))).symm
                    | exact (step_put (by simp_all) (by omega) (by omega) (by assumption) (.inr (by unfold ltV; omega))).symm
                    | exact (step_skip (.inr (by omega))).symm
                    | exact (step_skip (.inl (by simp_all; done))).symm
                · skip
                  refine aSkip ?_
                  refine aReg ?_
                  refine sp pAd ?_
                  refine sp pM ?_
                  refine oNil ?_
                  refine ⟨(i + 1, _), ?_, by (try dsimp only); omega, ⟨gInt rfl (by first | rfl | omega | simp), rfl, rfl, rfl, rfl, rfl, trivial⟩, _, (by repeat constructor)⟩
                  refine ⟨by omega, ?_⟩
                  rw [bestM_take he, ← hm]
                  first
                    | exact (step_no (.inl (by assumption))).symm
                    | exact (step_no (.inr ⟨by assumption, by unfold ltV; omega⟩)).symm
                    | exact (step_put (by simp_all) (by omega) (by omega) (by assumption) (.inl (by assumption))).symm
                    | exact (step_put (by simp_all) (by omega) (by omega) (by assumption) (.inr (by unfold ltV; omega))).symm
                    | exact (step_skip (.inr (by omega))).symm
                    | exact (step_skip (.inl (by simp_all; done))).symm
            · skip
              refine dS HT 2 rfl ?_
              refine dS HT 3 rfl ?_
              refine dS HT 4 rfl ?_
              refine dS HT 5 rfl ?_
              refine dS HT 6 rfl ?_
              refine dS HT 7 rfl ?_
              refine dS HT 8 rfl ?_
              refine dS HT 9 rfl ?_
              refine dS HT 10 rfl ?_
              refine dS HT 11 rfl ?_
              refine dS HT 12 rfl ?_
              refine dS HT 13 rfl ?_
              refine dGo ?_
              refine eS HT 14 rfl ?_
              refine eS HT 15 rfl ?_
              refine eS HT 16 rfl ?_
              refine eS HT 17 rfl ?_
              refine eS HT 18 rfl ?_
              refine ef HT 19 rfl pK ?_
              refine eE HT ?_
              clear HT
              refine aCondF rfl ?_
              refine aSkip ?_
              refine aReg ?_
              refine sp pAd ?_
              refine sp pM ?_
              refine oNil ?_
              refine ⟨(i + 1, _), ?_, by (try dsimp only); omega, ⟨gInt rfl (by first | rfl | omega | simp), rfl, rfl, rfl, rfl, rfl, trivial⟩, _, (by repeat constructor)⟩
              refine ⟨by omega, ?_⟩
              rw [bestM_take he, ← hm]
              first
                | exact (step_no (.inl (by assumption))).symm
                | exact (step_no (.inr ⟨by assumption, by unfold ltV; omega⟩)).symm
                | exact (step_put (by simp_all) (by omega) (by omega) (by assumption) (.inl (by assumption))).symm
                | exact (step_put (by simp_all) (by omega) (by omega) (by assumption) (.inr (by unfold ltV; omega))).symm
                | exact (step_skip (.inr (by omega))).symm
                | exact (step_skip (.inl (by simp_all; done))).symm
    · skip
      refine aExit rfl ?_
      refine aSeq ?_
      refine aReg ?_
      refine sp pM ?_
      refine sp pMa ?_
      refine oNil ?_
      refine aRet ?_
      exact ⟨_, [_], _, rfl, (by repeat constructor), b14, rfl, by rw [hm, take_all (by omega)]⟩

end A
end Go.Proofs.Ytkgemkadebgeoaa
