/- What functions of the program compute: fib43e -/
import Derived.Test.YtkgemkadebgeoaaBfib43d
import Derived.Test.YtkgemkadebgeoaaProg
import Derived.KernelRfl
set_option linter.unusedVariables false
set_option linter.unusedSimpArgs false
namespace Go.Proofs.Ytkgemkadebgeoaa
namespace A

theorem fd_173_0 : fieldOf Try.prog 173 0 = some (0, 1, false) := by kernel_rfl
theorem fd_173_1 : fieldOf Try.prog 173 1 = some (1, 1, false) := by kernel_rfl
theorem st_173 : structPlaces Try.prog 173 = some [(0, 1), (1, 1), (2, 1)] := by kernel_rfl
theorem ty_173 : tyOf Try.prog 173 = some (3, true) := by kernel_rfl
theorem ze_173 : zeroOf Try.prog 173 = some (.agg #[.int .u64 0, .int .i64 0, .int .i64 0]) := by kernel_rfl
/- waymarkref26.Find -/
set_option maxRecDepth 100000 in
set_option maxHeartbeats 400000 in
theorem ref26_Find {rs : List Rt} {n : Int} (hl : rs.length ≤ 1000000) : Triple Try.prog 67 [.sl 3 (rs.map rtC), .int n] [] (Is (.agg (rtC ((findR rs n).getD ⟨0, 0, 0⟩))) []) := by
  refine triple_ofR Try.func67 rfl (by kernel_rfl) rfl (by simp) ?_
  refine aSeq ?_
  refine aReg ?_
  refine sq ?_
  refine qAlloc rfl rfl (by decide) ze_125 rfl (fun b4 => ?_)
  refine oNil ?_
  refine aSeq ?_
  refine aSeq ?_
  refine aReg ?_
  refine sp pMa ?_
  refine oNil ?_
  refine aBlock ?_
  refine loopF (α := Nat) (kept := [(0, _), (1, _), (4, _)]) (fun i => i ≤ rs.length ∧ ∀ y ∈ rs.take i, (y.nd == n) = false) (fun i => [(5, .int i)]) (fun i => []) (fun i => rs.length - i) 0 ?_ ⟨gInt rfl (by first | rfl | omega | simp), rfl, rfl, rfl, trivial⟩ (by repeat constructor) ?_
  · skip
    exact ⟨by omega, fun y hy => by simp at hy⟩
  · rintro i ⟨hi, hv⟩
    refine aSeq ?_
    refine aSeq ?_
    refine aReg ?_
    refine sp pM ?_
    refine sp pM ?_
    refine sp (by first | exact pLm sl_113 | exact pLs sl_113) ?_
    refine sp pB ?_
    refine oNil ?_
    refine aCondDec rfl (fun c9 => ?_) (fun c9 => ?_)
    · skip
      refine aSkip ?_
      refine aSeq ?_
      refine aBlock ?_
      refine aSeq ?_
      obtain ⟨r, hr⟩ : ∃ r, rs[i]? = some r := ⟨_, List.getElem?_eq_getElem (by omega)⟩
      refine aReg ?_
      refine sp pM ?_
      refine sp pM ?_
      first | refine sp (pIx es_113) ?_ | (refine obtSN 12 13 rfl rfl (by omega) (fun x14 hx14 => ?_); refine sp (pIs es_113 hx14) ?_) | (refine obtS 12 13 rfl rfl (by omega) (by omega) (fun x14 hx14 => ?_); refine sp (pIs es_113 hx14) ?_) | refine sp (pIo es_113) ?_
      refine sp (pFs fd_125_0) ?_
      refine sr (rS1 ty_3) ?_
      refine sp pM ?_
      refine sp pB ?_
      refine oNil ?_
      refine aCondEq rfl (fun c18 => ?_) (fun c18 => ?_)
      · skip
        refine aSeq ?_
        refine aReg ?_
        refine sp pM ?_
        refine sp pM ?_
        first | refine sp (pIx es_113) ?_ | (refine obtSN 19 20 rfl rfl (by omega) (fun x21 hx21 => ?_); refine sp (pIs es_113 hx21) ?_) | (refine obtS 19 20 rfl rfl (by omega) (by omega) (fun x21 hx21 => ?_); refine sp (pIs es_113 hx21) ?_) | refine sp (pIo es_113) ?_
        refine sr (by first | exact rSW ty_125 rfl | exact rSA ty_125) ?_
        refine sa ?_
        refine oStW rfl rfl rfl rfl (by repeat constructor) ty_125 ?_
        refine oNil ?_
        refine aRet ?_
        refine finRIs (l := [.agg (rtC r)]) (.cons (.cellA rfl (by repeat (first | exact List.mem_cons_self | apply List.mem_cons_of_mem)) ty_125) .nil) ?_
        have := (idxF_at (p := fun y : Rt => y.nd == n) hv hr (by simp_all)).2
        simp [findR, this, retOf]
      · skip
        refine aSkip ?_
        refine aReg ?_
        refine sp pM ?_
        refine sp pAd ?_
        refine sp pMa ?_
        refine oNil ?_
        refine ⟨i + 1, ?_, by (try dsimp only); omega, ⟨gInt rfl (by first | rfl | omega | simp), rfl, rfl, rfl, trivial⟩, _, (by repeat constructor)⟩
        refine ⟨by omega, fun y hy => ?_⟩
        rw [take_step hr] at hy
        rcases List.mem_append.1 hy with hy | hy
        · exact hv y hy
        · rw [List.mem_singleton.1 hy]; simp_all
    · skip
      refine aExit rfl ?_
      refine aSeq ?_
      refine aReg ?_
      refine sp (pBuild rfl st_125 ze_125 rfl rfl rfl rfl) ?_
      refine sa ?_
      refine oStW rfl rfl rfl rfl (by repeat constructor) ty_125 ?_
      refine oNil ?_
      refine aRet ?_
      refine finRIs (l := [.agg (rtC ⟨0, 0, 0⟩)]) (.cons (.cellA rfl (by repeat (first | exact List.mem_cons_self | apply List.mem_cons_of_mem)) ty_125) .nil) ?_
      rw [take_all (by omega)] at hv
      have := (idxF_no (p := fun y : Rt => y.nd == n) hv).2
      simp [findR, this, retOf]

def reachW (me : Int) (rs : List Rt) (x : Int) : Way := (reachM me rs x).getD ⟨0, 0, 0⟩
theorem reachW_yes {me : Int} {rs : List Rt} {x : Int} (h : reachB me rs x = true) : reachM me rs x = some (reachW me rs x) := by
  unfold reachW
  rw [reach_some h]
  rfl

/- waymarkref43.reach -/
set_option maxRecDepth 100000 in
set_option maxHeartbeats 400000 in
theorem ref43_reach {me x : Int} {rs : List Rt} (hl : rs.length ≤ 1000000) : Triple Try.prog 122 [.int me, .sl 3 (rs.map rtC), .int x] [] (Is (.tup [wayA (reachW me rs x), .v (.bool (reachB me rs x))]) []) := by
  refine triple_ofR Try.func122 rfl (by kernel_rfl) rfl (by simp) ?_
  refine aSeq ?_
  refine aReg ?_
  refine sq ?_
  refine qAlloc rfl rfl (by decide) ze_173 rfl (fun b6 => ?_)
  refine sp pMa ?_
  refine oNil ?_
  refine aSeq ?_
  refine aSeq ?_
  refine aReg ?_
  refine sp pM ?_
  refine sp pM ?_
  refine sp pB ?_
  refine oNil ?_
  refine aCondEq rfl (fun c12 => ?_) (fun c12 => ?_)
  · skip
    refine aSeq ?_
    refine aReg ?_
    refine sp pM ?_
    refine sp (pBuild rfl st_173 ze_173 rfl rfl rfl rfl) ?_
    refine sa ?_
    refine oStW rfl rfl rfl rfl (by repeat constructor) ty_173 ?_
    refine sp pMa ?_
    refine oNil ?_
    refine aRet ?_
    refine finRIs (l := [.agg (wayC ⟨0, x, -1⟩), .v (.bool true)]) (.cons (.cellA rfl (by repeat (first | exact List.mem_cons_self | apply List.mem_cons_of_mem)) ty_173) (.cons (.tmp rfl) .nil)) ?_
    simp_all [reachW, reachB, reachM, retOf]
  · skip
    refine aSkip ?_
    refine aSeq ?_
    refine aSeq ?_
    refine aReg ?_
    refine sp pMa ?_
    refine oNil ?_
    refine aBlock ?_
    refine loopF (α := Nat) (kept := [(1, _), (2, _), (6, _)]) (fun i => i ≤ rs.length ∧ ∀ y ∈ rs.take i, (y.nd == x) = false) (fun i => [(8, .int i)]) (fun i => []) (fun i => rs.length - i) 0 ?_ ⟨gInt rfl (by first | rfl | omega | simp), rfl, rfl, rfl, trivial⟩ (by repeat constructor) ?_
    · skip
      exact ⟨by omega, fun y hy => by simp at hy⟩
    · rintro i ⟨hi, hv⟩
      refine aSeq ?_
      refine aSeq ?_
      refine aReg ?_
      refine sp pM ?_
      refine sp pM ?_
      refine sp (by first | exact pLm sl_113 | exact pLs sl_113) ?_
      refine sp pB ?_
      refine oNil ?_
      refine aCondDec rfl (fun c18 => ?_) (fun c18 => ?_)
      · skip
        refine aSkip ?_
        refine aSeq ?_
        refine aBlock ?_
        refine aSeq ?_
        obtain ⟨r, hr⟩ : ∃ r, rs[i]? = some r := ⟨_, List.getElem?_eq_getElem (by omega)⟩
        refine aReg ?_
        refine sp pM ?_
        refine sp pM ?_
        first | refine sp (pIx es_113) ?_ | (refine obtSN 21 22 rfl rfl (by omega) (fun x23 hx23 => ?_); refine sp (pIs es_113 hx23) ?_) | (refine obtS 21 22 rfl rfl (by omega) (by omega) (fun x23 hx23 => ?_); refine sp (pIs es_113 hx23) ?_) | refine sp (pIo es_113) ?_
        refine sp (pFs fd_125_0) ?_
        refine sr (rS1 ty_3) ?_
        refine sp pM ?_
        refine sp pB ?_
        refine oNil ?_
        refine aCondEq rfl (fun c27 => ?_) (fun c27 => ?_)
        · skip
          refine aSeq ?_
          refine aReg ?_
          refine sp pM ?_
          refine sp pM ?_
          refine sq ?_
          refine ci rfl rfl rfl (ref26_Find hl) ?_
          refine sq ?_
          refine qAlloc rfl rfl (by decide) ze_125 rfl (fun b9 => ?_)
          refine sa ?_
          refine oStW rfl rfl rfl rfl (by repeat constructor) ty_125 ?_
          refine oNil ?_
          refine aSeq ?_
          refine aReg ?_
          refine sp (pFb fd_125_2) ?_
          refine sr (rB1 ty_60) ?_
          refine sp pM ?_
          refine sp (pFb fd_125_1) ?_
          refine sr (rB1 ty_3) ?_
          refine sp (pBuild rfl st_173 ze_173 rfl rfl rfl rfl) ?_
          refine sa ?_
          refine oStW rfl rfl rfl rfl (by repeat constructor) ty_173 ?_
          refine sp pMa ?_
          refine oNil ?_
          refine aRet ?_
          refine finRIs (l := [.agg (wayC ⟨((findR rs x).getD ⟨0, 0, 0⟩).c, x, ((findR rs x).getD ⟨0, 0, 0⟩).via⟩), .v (.bool true)]) (.cons (.cellA rfl (by repeat (first | exact List.mem_cons_self | apply List.mem_cons_of_mem)) ty_173) (.cons (.tmp rfl) .nil)) ?_
          have h2 := (idxF_at (p := fun y : Rt => y.nd == x) hv hr (by simp_all)).2
          have hne : ¬ x = me := by assumption
          have hf : findR rs x = some r := h2
          simp [reachW, reachB, reachM, hne, hf, retOf]
        · skip
          refine aSkip ?_
          refine aReg ?_
          refine sp pM ?_
          refine sp pAd ?_
          refine sp pMa ?_
          refine oNil ?_
          refine ⟨i + 1, ?_, by (try dsimp only); omega, ⟨gInt rfl (by first | rfl | omega | simp), rfl, rfl, rfl, trivial⟩, _, (by repeat constructor)⟩
          refine ⟨by omega, fun y hy => ?_⟩
          rw [take_step hr] at hy
          rcases List.mem_append.1 hy with hy | hy
          · exact hv y hy
          · rw [List.mem_singleton.1 hy]; simp_all
      · skip
        refine aExit rfl ?_
        refine aSeq ?_
        refine aReg ?_
        refine sp (pBuild rfl st_173 ze_173 rfl rfl rfl rfl) ?_
        refine sa ?_
        refine oStW rfl rfl rfl rfl (by repeat constructor) ty_173 ?_
        refine sp pMa ?_
        refine oNil ?_
        refine aRet ?_
        refine finRIs (l := [.agg (wayC ⟨0, 0, 0⟩), .v (.bool false)]) (.cons (.cellA rfl (by repeat (first | exact List.mem_cons_self | apply List.mem_cons_of_mem)) ty_173) (.cons (.tmp rfl) .nil)) ?_
        rw [take_all (by omega)] at hv
        have h2 := (idxF_no (p := fun y : Rt => y.nd == x) hv).2
        have hne : ¬ x = me := by assumption
        have hf : findR rs x = none := h2
        simp [reachW, reachB, reachM, hne, hf, retOf]

theorem bestP_take {me : Int} {rs : List Rt} {cs : List E42} {b : Nat} {n : Int} {i : Nat} {e : E42} (h : cs[i]? = some e) : bestP me rs (cs.take (i + 1)) b n = stepP me rs b n (bestP me rs (cs.take i) b n) e := by
  unfold bestP
  rw [take_step h, List.foldl_append]
  rfl
theorem stepP_skip {me : Int} {rs : List Rt} {b : Nat} {n : Int} {o : Option Way} {e : E42} (h : ¬ (e.b = b ∧ e.n = n) ∨ e.tv < 1 ∨ 64 < e.tv ∨ reachB me rs e.tv = false) : stepP me rs b n o e = o := by
  unfold stepP toOk
  split
  · rename_i h1
    simp only [Bool.and_eq_true, decide_eq_true_eq] at h1
    have hr : reachB me rs e.tv = false := by
      rcases h with h | h | h | h
      · exact absurd h1.1 h
      · omega
      · omega
      · exact h
    rw [reach_none hr]
  · rfl
theorem stepP_new {me : Int} {rs : List Rt} {b : Nat} {n : Int} {o : Option Way} {e : E42} (h0 : e.b = b ∧ e.n = n) (h1 : 1 ≤ e.tv) (h2 : e.tv ≤ 64) (hb : reachB me rs e.tv = true) (h : o.isSome = false ∨ ltW (reachW me rs e.tv) (o.getD ⟨0, 0, 0⟩) = true) : stepP me rs b n o e = some (reachW me rs e.tv) := by
  unfold stepP toOk
  rw [if_pos (by simp [h0, h1, h2]), reachW_yes hb]
  cases o with
  | none => rfl
  | some u =>
    rcases h with h | h
    · cases h
    · simp only [Option.getD_some] at h
      simp [upW, h]
theorem stepP_old {me : Int} {rs : List Rt} {b : Nat} {n : Int} {o : Option Way} {e : E42} (hs : o.isSome = true) (h : ltW (reachW me rs e.tv) (o.getD ⟨0, 0, 0⟩) = false) : stepP me rs b n o e = o := by
  cases o with
  | none => cases hs
  | some u =>
    unfold stepP
    split
    · cases hr : reachB me rs e.tv with
      | false => rw [reach_none hr]
      | true =>
        rw [reachW_yes hr]
        simp only [Option.getD_some] at h
        simp [upW, h]
    · rfl

def stW (q : Bool) (u : Way) : Option Way := if q then some u else none

/- waymarkref43.Best -/
set_option maxRecDepth 100000 in
set_option maxHeartbeats 1000000 in
theorem ref43_Best {me : Int} {rs : List Rt} {cs : List E42} {b : Nat} {n : Int} (hl : rs.length ≤ 1000000) (hc : cs.length ≤ 1000) : Triple Try.prog 102 [.int me, .sl 3 (rs.map rtC), .sl 3 (cs.map e42C), .agg (pfxC b n)] [] (Is (.tup [wayA ((bestP me rs cs b n).getD ⟨0, 0, 0⟩), .v (.bool (bestP me rs cs b n).isSome)]) []) := by
  refine triple_ofR Try.func102 rfl (by kernel_rfl) rfl (by simp) ?_
  refine aSeq ?_
  refine aReg ?_
  refine sq ?_
  refine qBox rfl rfl (by decide) rfl rfl (fun b7 => ?_)
  refine sq ?_
  refine qAlloc rfl rfl (by decide) ze_173 rfl (fun b8 => ?_)
  refine sp pMa ?_
  refine oNil ?_
  refine aSeq ?_
  refine aReg ?_
  refine sp (pBuild rfl st_173 ze_173 rfl rfl rfl rfl) ?_
  refine sq ?_
  refine qAlloc rfl rfl (by decide) ze_173 rfl (fun b10 => ?_)
  refine sa ?_
  refine oStW rfl rfl rfl rfl (by repeat constructor) ty_173 ?_
  refine oNil ?_
  refine aSeq ?_
  refine aReg ?_
  refine sp pMa ?_
  refine oNil ?_
  refine aSeq ?_
  refine aSeq ?_
  refine aReg ?_
  refine sp pMa ?_
  refine oNil ?_
  refine aBlock ?_
  refine loopF (α := Nat × Bool × Way) (kept := [(0, _), (1, _), (2, _), (7, _), (8, _), (10, _)]) (fun (i, q, u) => i ≤ cs.length ∧ bestP me rs (cs.take i) b n = stW q u ∧ (q = false → u = ⟨0, 0, 0⟩)) (fun (i, q, u) => [(12, .int i), (11, .v (.bool q))]) (fun (i, q, u) => [.box b10 (wayC u)]) (fun (i, q, u) => cs.length - i) (0, false, ⟨0, 0, 0⟩) ?_ ⟨gInt rfl (by first | rfl | omega | simp), rfl, rfl, rfl, rfl, rfl, rfl, rfl, trivial⟩ (by repeat constructor) ?_
  · skip
    exact ⟨by omega, rfl, fun _ => rfl⟩
  · rintro ⟨i, q, u⟩ ⟨hi, ho, hz⟩
    refine aSeq ?_
    refine aSeq ?_
    refine aReg ?_
    refine sp pM ?_
    refine sp pM ?_
    refine sp (by first | exact pLm sl_26 | exact pLs sl_26) ?_
    refine sp pB ?_
    refine sp pM ?_
    refine oSplitDec 21 rfl (fun c21 => ?_) (fun c21 => ?_)
    · skip
      refine gp pM ?_
      refine gp pB ?_
      refine sp pK ?_
      refine oNil ?_
      refine aCondDec rfl (fun c24 => ?_) (fun c24 => ?_)
      · skip
        refine aSkip ?_
        refine aSeq ?_
        refine aBlock ?_
        refine aSeq ?_
        obtain ⟨e, he⟩ : ∃ e, cs[i]? = some e := ⟨_, List.getElem?_eq_getElem (by omega)⟩
        refine aReg ?_
        refine sp pM ?_
        refine sp pM ?_
        first | refine sp (pIx es_26) ?_ | (refine obtSN 27 28 rfl rfl (by omega) (fun x29 hx29 => ?_); refine sp (pIs es_26 hx29) ?_) | (refine obtS 27 28 rfl rfl (by omega) (by omega) (fun x29 hx29 => ?_); refine sp (pIs es_26 hx29) ?_) | refine sp (pIo es_26) ?_
        refine sr (by first | exact rSW ty_31 rfl | exact rSA ty_31) ?_
        refine sq ?_
        refine qAlloc rfl rfl (by decide) ze_31 rfl (fun b13 => ?_)
        refine sa ?_
        refine oStW rfl rfl rfl rfl (by repeat constructor) ty_31 ?_
        refine oNil ?_
        refine aSeq ?_
        refine aSeq ?_
        refine aReg ?_
        refine sp (pFb fd_31_0) ?_
        refine sr (by first | exact rBWa ty_29 | exact rBW ty_29 | exact rBA ty_29) ?_
        refine sr (by first | exact rBWa ty_29 | exact rBW ty_29 | exact rBA ty_29) ?_
        refine sp (pEqAn eq_29) ?_
        refine sp pM ?_
        refine oSplit 35 rfl (fun c35 => ?_) (fun c35 => ?_)
        · skip
          refine gf ?_
          refine gf ?_
          refine gf ?_
          refine sp pK ?_
          refine sp pM ?_
          refine gf ?_
          refine gf ?_
          refine gf ?_
          refine sp pK ?_
          refine oNil ?_
          refine aCondT rfl ?_
          refine aExit rfl ?_
          refine aReg ?_
          refine sp pM ?_
          refine sp pAd ?_
          refine sp pMa ?_
          refine oNil ?_
          refine ⟨(i + 1, _, _), ?_, by (try dsimp only); omega, ⟨gInt rfl (by first | rfl | omega | simp), rfl, rfl, rfl, rfl, rfl, rfl, rfl, trivial⟩, _, (by repeat constructor)⟩
          refine ⟨by omega, ?_, by first | exact hz | (intro h; cases h)⟩
          rw [bestP_take he, ho]
          first
            | exact stepP_skip (.inr (.inl (by assumption)))
            | exact stepP_skip (.inr (.inr (.inl (by assumption))))
            | exact stepP_skip (.inr (.inr (.inr (by assumption))))
            | (refine stepP_skip (.inl ?_); rintro ⟨rfl, rfl⟩; simp at c35; done)
            | (refine stepP_new (by simp at c35; omega) (by omega) (by omega) (by assumption) ?_; exact .inl (by rw [show q = false by assumption]; rfl))
            | (refine stepP_new (by simp at c35; omega) (by omega) (by omega) (by assumption) ?_; refine .inr ?_; rw [show q = true by assumption]; simp only [stW, ltW, if_true, Option.getD_some, Bool.or_eq_true, Bool.and_eq_true, decide_eq_true_eq, beq_iff_eq]; omega)
            | (refine stepP_old (by rw [show q = true by assumption]; rfl) ?_; rw [show q = true by assumption]; simp only [stW, ltW, if_true, Option.getD_some, Bool.or_eq_false_iff, Bool.and_eq_false_iff, decide_eq_false_iff_not, beq_eq_false_iff_ne, ne_eq]; omega)
        · skip
          refine gp (pFb fd_31_1) ?_
          refine gr (rB1 ty_3) ?_
          refine gp pB ?_
          refine sp pK ?_
          refine sp pM ?_
          refine oSplitDec 40 rfl (fun c40 => ?_) (fun c40 => ?_)
          · skip
            refine gf ?_
            refine gf ?_
            refine gf ?_
            refine sp pK ?_
            refine oNil ?_
            refine aCondT rfl ?_
            refine aExit rfl ?_
            refine aReg ?_
            refine sp pM ?_
            refine sp pAd ?_
            refine sp pMa ?_
            refine oNil ?_
            refine ⟨(i + 1, _, _), ?_, by (try dsimp only); omega, ⟨gInt rfl (by first | rfl | omega | simp), rfl, rfl, rfl, rfl, rfl, rfl, rfl, trivial⟩, _, (by repeat constructor)⟩
            refine ⟨by omega, ?_, by first | exact hz | (intro h; cases h)⟩
            rw [bestP_take he, ho]
            first
              | exact stepP_skip (.inr (.inl (by assumption)))
              | exact stepP_skip (.inr (.inr (.inl (by assumption))))
              | exact stepP_skip (.inr (.inr (.inr (by assumption))))
              | (refine stepP_skip (.inl ?_); rintro ⟨rfl, rfl⟩; simp at c35; done)
              | (refine stepP_new (by simp at c35; omega) (by omega) (by omega) (by assumption) ?_; exact .inl (by rw [show q = false by assumption]; rfl))
              | (refine stepP_new (by simp at c35; omega) (by omega) (by omega) (by assumption) ?_; refine .inr ?_; rw [show q = true by assumption]; simp only [stW, ltW, if_true, Option.getD_some, Bool.or_eq_true, Bool.and_eq_true, decide_eq_true_eq, beq_iff_eq]; omega)
              | (refine stepP_old (by rw [show q = true by assumption]; rfl) ?_; rw [show q = true by assumption]; simp only [stW, ltW, if_true, Option.getD_some, Bool.or_eq_false_iff, Bool.and_eq_false_iff, decide_eq_false_iff_not, beq_eq_false_iff_ne, ne_eq]; omega)
          · skip
            refine gp (pFb fd_31_1) ?_
            refine gr (rB1 ty_3) ?_
            refine gp pB ?_
            refine sp pK ?_
            refine oNil ?_
            refine aCondDec rfl (fun c44 => ?_) (fun c44 => ?_)
            · skip
              refine aExit rfl ?_
              refine aReg ?_
              refine sp pM ?_
              refine sp pAd ?_
              refine sp pMa ?_
              refine oNil ?_
              refine ⟨(i + 1, _, _), ?_, by (try dsimp only); omega, ⟨gInt rfl (by first | rfl | omega | simp), rfl, rfl, rfl, rfl, rfl, rfl, rfl, trivial⟩, _, (by repeat constructor)⟩
              refine ⟨by omega, ?_, by first | exact hz | (intro h; cases h)⟩
              rw [bestP_take he, ho]
              first
                | exact stepP_skip (.inr (.inl (by assumption)))
                | exact stepP_skip (.inr (.inr (.inl (by assumption))))
                | exact stepP_skip (.inr (.inr (.inr (by assumption))))
                | (refine stepP_skip (.inl ?_); rintro ⟨rfl, rfl⟩; simp at c35; done)
                | (refine stepP_new (by simp at c35; omega) (by omega) (by omega) (by assumption) ?_; exact .inl (by rw [show q = false by assumption]; rfl))
                | (refine stepP_new (by simp at c35; omega) (by omega) (by omega) (by assumption) ?_; refine .inr ?_; rw [show q = true by assumption]; simp only [stW, ltW, if_true, Option.getD_some, Bool.or_eq_true, Bool.and_eq_true, decide_eq_true_eq, beq_iff_eq]; omega)
                | (refine stepP_old (by rw [show q = true by assumption]; rfl) ?_; rw [show q = true by assumption]; simp only [stW, ltW, if_true, Option.getD_some, Bool.or_eq_false_iff, Bool.and_eq_false_iff, decide_eq_false_iff_not, beq_eq_false_iff_ne, ne_eq]; omega)
            · skip
              refine aSkip ?_
              refine aSeq ?_
              refine aReg ?_
              refine sp pM ?_
              refine sp pM ?_
              refine sp (pFb fd_31_1) ?_
              refine sr (rB1 ty_3) ?_
              refine sq ?_
              refine ci rfl rfl rfl (ref43_reach hl) ?_
              refine sp pM ?_
              refine sp pX ?_
              refine sp pX ?_
              refine sq ?_
              refine qAlloc rfl rfl (by decide) ze_173 rfl (fun b14 => ?_)
              refine sa ?_
              refine oStW rfl rfl rfl rfl (by repeat constructor) ty_173 ?_
              refine sp pMa ?_
              refine oNil ?_
              refine aSeq ?_
              refine aReg ?_
              refine sp pM ?_
              refine sp pM ?_
              refine oSplit 54 rfl (fun c54 => ?_) (fun c54 => ?_)
              · skip
                refine gp pM ?_
                refine gp pNo ?_
                refine gp pM ?_
                refine oSplitNot 57 rfl (fun c57 => ?_) (fun c57 => ?_)
                · skip
                  refine gf ?_
                  refine gf ?_
                  refine gf ?_
                  refine gf ?_
                  refine gf ?_
                  refine gp pK ?_
                  refine gp pM ?_
                  refine gf ?_
                  refine gf ?_
                  refine gf ?_
                  refine gf ?_
                  refine gf ?_
                  refine gf ?_
                  refine gf ?_
                  refine gf ?_
                  refine gf ?_
                  refine gf ?_
                  refine gf ?_
                  refine gf ?_
                  refine gp pK ?_
                  refine sp pK ?_
                  refine oNil ?_
                  refine aCondT rfl ?_
                  refine aSeq ?_
                  refine aReg ?_
                  refine sr (by first | exact rBWa ty_173 | exact rBW ty_173 | exact rBA ty_173) ?_
                  refine sa ?_
                  refine oStW rfl rfl rfl rfl (by repeat constructor) ty_173 ?_
                  refine oNil ?_
                  refine aReg ?_
                  refine sp pMa ?_
                  refine oNil ?_
                  refine aReg ?_
                  refine sp pM ?_
                  refine sp pAd ?_
                  refine sp pMa ?_
                  refine oNil ?_
                  refine ⟨(i + 1, _, _), ?_, by (try dsimp only); omega, ⟨gInt rfl (by first | rfl | omega | simp), rfl, rfl, rfl, rfl, rfl, rfl, rfl, trivial⟩, _, (by repeat constructor)⟩
                  refine ⟨by omega, ?_, by first | exact hz | (intro h; cases h)⟩
                  rw [bestP_take he, ho]
                  first
                    | exact stepP_skip (.inr (.inl (by assumption)))
                    | exact stepP_skip (.inr (.inr (.inl (by assumption))))
                    | exact stepP_skip (.inr (.inr (.inr (by assumption))))
                    | (refine stepP_skip (.inl ?_); rintro ⟨rfl, rfl⟩; simp at c35; done)
                    | (refine stepP_new (by simp at c35; omega) (by omega) (by omega) (by assumption) ?_; exact .inl (by rw [show q = false by assumption]; rfl))
                    | (refine stepP_new (by simp at c35; omega) (by omega) (by omega) (by assumption) ?_; refine .inr ?_; rw [show q = true by assumption]; simp only [stW, ltW, if_true, Option.getD_some, Bool.or_eq_true, Bool.and_eq_true, decide_eq_true_eq, beq_iff_eq]; omega)
                    | (refine stepP_old (by rw [show q = true by assumption]; rfl) ?_; rw [show q = true by assumption]; simp only [stW, ltW, if_true, Option.getD_some, Bool.or_eq_false_iff, Bool.and_eq_false_iff, decide_eq_false_iff_not, beq_eq_false_iff_ne, ne_eq]; omega)
                · skip
                  refine gp (pFb fd_173_0) ?_
                  refine gr (rB1 ty_60) ?_
                  refine gp (pFb fd_173_0) ?_
                  refine gr (rB1 ty_60) ?_
                  refine gp pB ?_
                  refine gp pK ?_
                  refine gp pM ?_
                  refine oSplitDec 64 rfl (fun c64 => ?_) (fun c64 => ?_)
                  · skip
                    refine gf ?_
                    refine gf ?_
                    refine gf ?_
                    refine gf ?_
                    refine gf ?_
                    refine gf ?_
                    refine gf ?_
                    refine gf ?_
                    refine gf ?_
                    refine gf ?_
                    refine gf ?_
                    refine gf ?_
                    refine gp pK ?_
                    refine sp pK ?_
                    refine oNil ?_
                    refine aCondT rfl ?_
                    refine aSeq ?_
                    refine aReg ?_
                    refine sr (by first | exact rBWa ty_173 | exact rBW ty_173 | exact rBA ty_173) ?_
                    refine sa ?_
                    refine oStW rfl rfl rfl rfl (by repeat constructor) ty_173 ?_
                    refine oNil ?_
                    refine aReg ?_
                    refine sp pMa ?_
                    refine oNil ?_
                    refine aReg ?_
                    refine sp pM ?_
                    refine sp pAd ?_
                    refine sp pMa ?_
                    refine oNil ?_
                    refine ⟨(i + 1, _, _), ?_, by (try dsimp only); omega, ⟨gInt rfl (by first | rfl | omega | simp), rfl, rfl, rfl, rfl, rfl, rfl, rfl, trivial⟩, _, (by repeat constructor)⟩
                    refine ⟨by omega, ?_, by first | exact hz | (intro h; cases h)⟩
                    rw [bestP_take he, ho]
                    first
                      | exact stepP_skip (.inr (.inl (by assumption)))
                      | exact stepP_skip (.inr (.inr (.inl (by assumption))))
                      | exact stepP_skip (.inr (.inr (.inr (by assumption))))
                      | (refine stepP_skip (.inl ?_); rintro ⟨rfl, rfl⟩; simp at c35; done)
                      | (refine stepP_new (by simp at c35; omega) (by omega) (by omega) (by assumption) ?_; exact .inl (by rw [show q = false by assumption]; rfl))
                      | (refine stepP_new (by simp at c35; omega) (by omega) (by omega) (by assumption) ?_; refine .inr ?_; rw [show q = true by assumption]; simp only [stW, ltW, if_true, Option.getD_some, Bool.or_eq_true, Bool.and_eq_true, decide_eq_true_eq, beq_iff_eq]; omega)
                      | (refine stepP_old (by rw [show q = true by assumption]; rfl) ?_; rw [show q = true by assumption]; simp only [stW, ltW, if_true, Option.getD_some, Bool.or_eq_false_iff, Bool.and_eq_false_iff, decide_eq_false_iff_not, beq_eq_false_iff_ne, ne_eq]; omega)
                  · skip
                    refine gp (pFb fd_173_0) ?_
                    refine gr (rB1 ty_60) ?_
                    refine gp (pFb fd_173_0) ?_
                    refine gr (rB1 ty_60) ?_
                    refine gp pB ?_
                    refine gp pM ?_
                    refine oSplitEq 70 rfl (fun c70 => ?_) (fun c70 => ?_)
                    · skip
                      refine gp (pFb fd_173_1) ?_
                      refine gr (rB1 ty_3) ?_
                      refine gp (pFb fd_173_1) ?_
                      refine gr (rB1 ty_3) ?_
                      refine gp pB ?_
                      refine gp pK ?_
                      refine gp pK ?_
                      refine sp pK ?_
                      refine oNil ?_
                      refine aCondDec rfl (fun c78 => ?_) (fun c78 => ?_)
                      · skip
                        refine aSeq ?_
                        refine aReg ?_
                        refine sr (by first | exact rBWa ty_173 | exact rBW ty_173 | exact rBA ty_173) ?_
                        refine sa ?_
                        refine oStW rfl rfl rfl rfl (by repeat constructor) ty_173 ?_
                        refine oNil ?_
                        refine aReg ?_
                        refine sp pMa ?_
                        refine oNil ?_
                        refine aReg ?_
                        refine sp pM ?_
                        refine sp pAd ?_
                        refine sp pMa ?_
                        refine oNil ?_
                        refine ⟨(i + 1, _, _), ?_, by (try dsimp only); omega, ⟨gInt rfl (by first | rfl | omega | simp), rfl, rfl, rfl, rfl, rfl, rfl, rfl, trivial⟩, _, (by repeat constructor)⟩
                        refine ⟨by omega, ?_, by first | exact hz | (intro h; cases h)⟩
                        rw [bestP_take he, ho]
                        first
                          | exact stepP_skip (.inr (.inl (by assumption)))
                          | exact stepP_skip (.inr (.inr (.inl (by assumption))))
                          | exact stepP_skip (.inr (.inr (.inr (by assumption))))
                          | (refine stepP_skip (.inl ?_); rintro ⟨rfl, rfl⟩; simp at c35; done)
                          | (refine stepP_new (by simp at c35; omega) (by omega) (by omega) (by assumption) ?_; exact .inl (by rw [show q = false by assumption]; rfl))
                          | (refine stepP_new (by simp at c35; omega) (by omega) (by omega) (by assumption) ?_; refine .inr ?_; rw [show q = true by assumption]; simp only [stW, ltW, if_true, Option.getD_some, Bool.or_eq_true, Bool.and_eq_true, decide_eq_true_eq, beq_iff_eq]; omega)
                          | (refine stepP_old (by rw [show q = true by assumption]; rfl) ?_; rw [show q = true by assumption]; simp only [stW, ltW, if_true, Option.getD_some, Bool.or_eq_false_iff, Bool.and_eq_false_iff, decide_eq_false_iff_not, beq_eq_false_iff_ne, ne_eq]; omega)
                      · skip
                        refine aSkip ?_
                        refine aReg ?_
                        refine sp pM ?_
                        refine sp pAd ?_
                        refine sp pMa ?_
                        refine oNil ?_
                        refine ⟨(i + 1, _, _), ?_, by (try dsimp only); omega, ⟨gInt rfl (by first | rfl | omega | simp), rfl, rfl, rfl, rfl, rfl, rfl, rfl, trivial⟩, _, (by repeat constructor)⟩
                        refine ⟨by omega, ?_, by first | exact hz | (intro h; cases h)⟩
                        rw [bestP_take he, ho]
                        first
                          | exact stepP_skip (.inr (.inl (by assumption)))
                          | exact stepP_skip (.inr (.inr (.inl (by assumption))))
                          | exact stepP_skip (.inr (.inr (.inr (by assumption))))
                          | (refine stepP_skip (.inl ?_); rintro ⟨rfl, rfl⟩; simp at c35; done)
                          | (refine stepP_new (by simp at c35; omega) (by omega) (by omega) (by assumption) ?_; exact .inl (by rw [show q = false by assumption]; rfl))
                          | (refine stepP_new (by simp at c35; omega) (by omega) (by omega) (by assumption) ?_; refine .inr ?_; rw [show q = true by assumption]; simp only [stW, ltW, if_true, Option.getD_some, Bool.or_eq_true, Bool.and_eq_true, decide_eq_true_eq, beq_iff_eq]; omega)
                          | (refine stepP_old (by rw [show q = true by assumption]; rfl) ?_; rw [show q = true by assumption]; simp only [stW, ltW, if_true, Option.getD_some, Bool.or_eq_false_iff, Bool.and_eq_false_iff, decide_eq_false_iff_not, beq_eq_false_iff_ne, ne_eq]; omega)
                    · skip
                      refine gf ?_
                      refine gf ?_
                      refine gf ?_
                      refine gf ?_
                      refine gf ?_
                      refine gp pK ?_
                      refine gp pK ?_
                      refine sp pK ?_
                      refine oNil ?_
                      refine aCondF rfl ?_
                      refine aSkip ?_
                      refine aReg ?_
                      refine sp pM ?_
                      refine sp pAd ?_
                      refine sp pMa ?_
                      refine oNil ?_
                      refine ⟨(i + 1, _, _), ?_, by (try dsimp only); omega, ⟨gInt rfl (by first | rfl | omega | simp), rfl, rfl, rfl, rfl, rfl, rfl, rfl, trivial⟩, _, (by repeat constructor)⟩
                      refine ⟨by omega, ?_, by first | exact hz | (intro h; cases h)⟩
                      rw [bestP_take he, ho]
                      first
                        | exact stepP_skip (.inr (.inl (by assumption)))
                        | exact stepP_skip (.inr (.inr (.inl (by assumption))))
                        | exact stepP_skip (.inr (.inr (.inr (by assumption))))
                        | (refine stepP_skip (.inl ?_); rintro ⟨rfl, rfl⟩; simp at c35; done)
                        | (refine stepP_new (by simp at c35; omega) (by omega) (by omega) (by assumption) ?_; exact .inl (by rw [show q = false by assumption]; rfl))
                        | (refine stepP_new (by simp at c35; omega) (by omega) (by omega) (by assumption) ?_; refine .inr ?_; rw [show q = true by assumption]; simp only [stW, ltW, if_true, Option.getD_some, Bool.or_eq_true, Bool.and_eq_true, decide_eq_true_eq, beq_iff_eq]; omega)
                        | (refine stepP_old (by rw [show q = true by assumption]; rfl) ?_; rw [show q = true by assumption]; simp only [stW, ltW, if_true, Option.getD_some, Bool.or_eq_false_iff, Bool.and_eq_false_iff, decide_eq_false_iff_not, beq_eq_false_iff_ne, ne_eq]; omega)
              · skip
                refine gf ?_
                refine gf ?_
                refine gf ?_
                refine gf ?_
                refine gf ?_
                refine gf ?_
                refine gf ?_
                refine gf ?_
                refine gf ?_
                refine gf ?_
                refine gf ?_
                refine gf ?_
                refine gf ?_
                refine gf ?_
                refine gf ?_
                refine gf ?_
                refine gf ?_
                refine gf ?_
                refine gf ?_
                refine gf ?_
                refine gf ?_
                refine gf ?_
                refine gf ?_
                refine sp pK ?_
                refine oNil ?_
                refine aCondF rfl ?_
                refine aSkip ?_
                refine aReg ?_
                refine sp pM ?_
                refine sp pAd ?_
                refine sp pMa ?_
                refine oNil ?_
                refine ⟨(i + 1, _, _), ?_, by (try dsimp only); omega, ⟨gInt rfl (by first | rfl | omega | simp), rfl, rfl, rfl, rfl, rfl, rfl, rfl, trivial⟩, _, (by repeat constructor)⟩
                refine ⟨by omega, ?_, by first | exact hz | (intro h; cases h)⟩
                rw [bestP_take he, ho]
                first
                  | exact stepP_skip (.inr (.inl (by assumption)))
                  | exact stepP_skip (.inr (.inr (.inl (by assumption))))
                  | exact stepP_skip (.inr (.inr (.inr (by assumption))))
                  | (refine stepP_skip (.inl ?_); rintro ⟨rfl, rfl⟩; simp at c35; done)
                  | (refine stepP_new (by simp at c35; omega) (by omega) (by omega) (by assumption) ?_; exact .inl (by rw [show q = false by assumption]; rfl))
                  | (refine stepP_new (by simp at c35; omega) (by omega) (by omega) (by assumption) ?_; refine .inr ?_; rw [show q = true by assumption]; simp only [stW, ltW, if_true, Option.getD_some, Bool.or_eq_true, Bool.and_eq_true, decide_eq_true_eq, beq_iff_eq]; omega)
                  | (refine stepP_old (by rw [show q = true by assumption]; rfl) ?_; rw [show q = true by assumption]; simp only [stW, ltW, if_true, Option.getD_some, Bool.or_eq_false_iff, Bool.and_eq_false_iff, decide_eq_false_iff_not, beq_eq_false_iff_ne, ne_eq]; omega)
      · skip
        refine aExit rfl ?_
        refine aSeq ?_
        refine aReg ?_
        refine sr (by first | exact rBWa ty_173 | exact rBW ty_173 | exact rBA ty_173) ?_
        refine sp pM ?_
        refine sa ?_
        refine oStW rfl rfl rfl rfl (by repeat constructor) ty_173 ?_
        refine sp pMa ?_
        refine oNil ?_
        refine aRet ?_
        refine finRIs (l := [.agg (wayC u), .v (.bool q)]) (.cons (.cellA rfl (by repeat (first | exact List.mem_cons_self | apply List.mem_cons_of_mem)) ty_173) (.cons (.tmp rfl) .nil)) ?_
        rw [take_all (by omega)] at ho
        rw [ho]
        cases q with
        | false => rw [hz rfl]; rfl
        | true => rfl
    · skip
      refine gf ?_
      refine gf ?_
      refine sp pK ?_
      refine oNil ?_
      refine aCondF rfl ?_
      refine aExit rfl ?_
      refine aSeq ?_
      refine aReg ?_
      refine sr (by first | exact rBWa ty_173 | exact rBW ty_173 | exact rBA ty_173) ?_
      refine sp pM ?_
      refine sa ?_
      refine oStW rfl rfl rfl rfl (by repeat constructor) ty_173 ?_
      refine sp pMa ?_
      refine oNil ?_
      refine aRet ?_
      refine finRIs (l := [.agg (wayC u), .v (.bool q)]) (.cons (.cellA rfl (by repeat (first | exact List.mem_cons_self | apply List.mem_cons_of_mem)) ty_173) (.cons (.tmp rfl) .nil)) ?_
      rw [take_all (by omega)] at ho
      rw [ho]
      cases q with
      | false => rw [hz rfl]; rfl
      | true => rfl

end A
end Go.Proofs.Ytkgemkadebgeoaa
