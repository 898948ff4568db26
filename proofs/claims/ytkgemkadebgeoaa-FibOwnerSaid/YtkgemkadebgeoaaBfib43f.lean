/- What functions of the program compute: fib43f -/
import Derived.Test.YtkgemkadebgeoaaBfib43e
import Derived.Test.YtkgemkadebgeoaaProg
import Derived.KernelRfl
set_option linter.unusedVariables false
set_option linter.unusedSimpArgs false
namespace Go.Proofs.Ytkgemkadebgeoaa
namespace A

theorem fd_173_2 : fieldOf Try.prog 173 2 = some (2, 1, false) := by kernel_rfl
def tlV (v : Bool) (w : Way) : Int := if v then w.via else w.nd
theorem tblF_take {me : Int} {rs : List Rt} {cs ks : List E42} {tl : Way → Int} {i : Nat} {e : E42} (h : ks[i]? = some e) : (ks.take (i + 1)).foldl (stepT me rs cs tl) [] = stepT me rs cs tl ((ks.take i).foldl (stepT me rs cs tl) []) e := by
  rw [take_step h, List.foldl_append]
  rfl
theorem foldT_len {me : Int} {rs : List Rt} {cs : List E42} {tl : Way → Int} : ∀ (ks : List E42) (t : List Ent), (ks.foldl (stepT me rs cs tl) t).length ≤ t.length + ks.length
  | [], t => by simp
  | k :: ks, t => by
    have := foldT_len (me := me) (rs := rs) (cs := cs) (tl := tl) ks (stepT me rs cs tl t k)
    have := stepT_len (me := me) (rs := rs) (cs := cs) (tl := tl) (t := t) (e := k)
    simp only [List.foldl_cons, List.length_cons]
    omega
theorem putI_mem {b : Nat} {n tv : Int} {x : Ent} : ∀ {l : List Ent} {d : Bool}, x ∈ putI d l b n tv → x ∈ l ∨ x = ⟨b, n.toNat, tv⟩
  | [], d, h => by
    cases d <;> simp [putI] at h
    exact .inr h
  | y :: l, d, h => by
    rw [putI, List.mem_append, List.mem_append] at h
    rcases h with h | h | h
    · split at h <;> simp at h
      exact .inr h
    · split at h <;> simp at h
      exact .inl (by simp [h])
    · rcases putI_mem h with h | h
      · exact .inl (by simp [h])
      · exact .inr h
theorem putE_ok : ∀ (l : List E42) (t : List Ent), (∀ e ∈ l, e.b < 2 ^ 32) → (∀ e ∈ t, EntOk e) → ∀ e ∈ l.foldl putE t, EntOk e
  | [], t, _, h => h
  | k :: l, t, hb, h => by
    refine putE_ok l (putE t k) (fun e he => hb e (by simp [he])) (fun e he => ?_)
    unfold putE at he
    split at he
    · rename_i hc
      rw [Bool.and_eq_true] at hc
      rcases putI_mem he with he | rfl
      · exact h e he
      · obtain ⟨h1, h2, h3⟩ := okP_iff.1 hc.1
        exact ⟨hb k (by simp), by show k.n.toNat ≤ 32; omega, h3⟩
    · exact h e he

/- waymarkref43.Make -/
set_option maxRecDepth 100000 in
set_option maxHeartbeats 1000000 in
theorem ref43_Make {me : Int} {rs : List Rt} {cs : List E42} (v : Bool) (hb : ∀ e ∈ cs, e.b < 2 ^ 32) (hl : rs.length ≤ 1000000) (hc : cs.length ≤ 1000) : Triple Try.prog 63 [.int me, .sl 3 (rs.map rtC), .sl 3 (cs.map e42C), .v (.bool v)] [] (Is (.sl 3 ((tblF me rs cs (tlV v)).map entC)) []) := by
  refine triple_of Try.func63 rfl (by kernel_rfl) rfl (by simp) ?_
  refine aSeq ?_
  refine aReg ?_
  refine sp pMa ?_
  refine oNil ?_
  refine aSeq ?_
  refine aReg ?_
  refine sq ?_
  refine qLit (l := []) rfl rfl (by decide) us_26 ty_31 ze_31 rfl (by decide) (by decide) rfl rfl rfl (fun b15 => ?_)
  refine sp pMa ?_
  refine oNil ?_
  refine aSeq ?_
  refine aSeq ?_
  refine aWeak (weak_settle (k := 9) rfl .hd rfl) ?_
  refine aReg ?_
  refine sp pMa ?_
  refine oNil ?_
  refine aBlock ?_
  refine loopF (α := Nat × List Ent) (kept := [(0, _), (1, _), (2, _), (3, _)]) (fun (i, t) => i ≤ cs.length ∧ t = (cs.take i).foldl (stepT me rs cs (tlV v)) []) (fun (i, t) => [(10, .int i), (9, .sl 3 (t.map entC))]) (fun (i, t) => []) (fun (i, t) => cs.length - i) (0, []) ?_ ⟨gInt rfl (by first | rfl | omega | simp), rfl, rfl, rfl, rfl, rfl, trivial⟩ (by repeat constructor) ?_
  · skip
    exact ⟨by omega, rfl⟩
  · rintro ⟨i, t⟩ ⟨hi, ho⟩
    refine aSeq ?_
    refine aSeq ?_
    refine aReg ?_
    refine sp pM ?_
    refine sp pM ?_
    refine sp (by first | exact pLm sl_26 | exact pLs sl_26) ?_
    refine sp pB ?_
    refine sp pM ?_
    refine oSplitDec 20 rfl (fun c20 => ?_) (fun c20 => ?_)
    · skip
      refine gp pM ?_
      refine gp pB ?_
      refine sp pK ?_
      refine oNil ?_
      refine aCondDec rfl (fun c23 => ?_) (fun c23 => ?_)
      · skip
        refine aSkip ?_
        refine aSeq ?_
        refine aBlock ?_
        refine aSeq ?_
        obtain ⟨e, he⟩ : ∃ e, cs[i]? = some e := ⟨_, List.getElem?_eq_getElem (by omega)⟩
        have htl : t.length ≤ 1000 := by have := foldT_len (me := me) (rs := rs) (cs := cs) (tl := tlV v) (cs.take i) []; have := List.length_take_le' i cs; rw [ho]; simp at *; omega
        refine aReg ?_
        refine sp pM ?_
        refine sp pM ?_
        first | refine sp (pIx es_26) ?_ | (refine obtSN 26 27 rfl rfl (by omega) (fun x28 hx28 => ?_); refine sp (pIs es_26 hx28) ?_) | (refine obtS 26 27 rfl rfl (by omega) (by omega) (fun x28 hx28 => ?_); refine sp (pIs es_26 hx28) ?_) | refine sp (pIo es_26) ?_
        refine sp (pFs fd_31_0) ?_
        refine sr (by first | exact rSW ty_29 rfl | exact rSA ty_29) ?_
        refine sq ?_
        refine qAlloc rfl rfl (by decide) ze_29 rfl (fun b11 => ?_)
        refine sa ?_
        refine oStW rfl rfl rfl rfl (by repeat constructor) ty_29 ?_
        refine oNil ?_
        refine aSeq ?_
        refine aReg ?_
        refine sp pM ?_
        refine sp pM ?_
        refine sp pM ?_
        refine sr (by first | exact rBWa ty_29 | exact rBW ty_29 | exact rBA ty_29) ?_
        refine sq ?_
        refine ci rfl rfl rfl (ref43_Best hl hc) ?_
        refine sp pM ?_
        refine sp pX ?_
        refine sp pX ?_
        refine sq ?_
        refine qAlloc rfl rfl (by decide) ze_173 rfl (fun b12 => ?_)
        refine sa ?_
        refine oStW rfl rfl rfl rfl (by repeat constructor) ty_173 ?_
        refine sp pMa ?_
        refine oNil ?_
        refine aSeq ?_
        refine aSeq ?_
        refine aReg ?_
        refine sr (by first | exact rBWa ty_29 | exact rBW ty_29 | exact rBA ty_29) ?_
        refine sq ?_
        refine qCallV rfl rfl (by decide) rfl rfl (lents_refl _) (ref41_May e.b e.n (hb e (List.mem_of_getElem? he))) ?_
        refine sp pNo ?_
        refine sp pM ?_
        refine oSplitNot 42 rfl (fun c42 => ?_) (fun c42 => ?_)
        · skip
          refine gf ?_
          refine gf ?_
          refine sp pK ?_
          refine oNil ?_
          refine aCondT rfl ?_
          refine aExit rfl ?_
          refine aReg ?_
          refine sp pM ?_
          refine sp pAd ?_
          refine sp pMa ?_
          refine oNil ?_
          refine ⟨(i + 1, _), ?_, by (try dsimp only); omega, ⟨gInt rfl (by first | rfl | omega | simp), rfl, rfl, rfl, rfl, rfl, trivial⟩, _, (by repeat constructor)⟩
          refine ⟨by omega, ?_⟩
          rw [tblF_take he, ← ho]
          unfold stepT
          first
            | (rw [if_neg (by simp_all)]; done)
            | (rw [if_pos (by simp_all)]; simp_all [tlV]; done)
        · skip
          refine gp pM ?_
          refine gp pNo ?_
          refine sp pK ?_
          refine oNil ?_
          refine aCondNot rfl (fun c45 => ?_) (fun c45 => ?_)
          · skip
            refine aExit rfl ?_
            refine aReg ?_
            refine sp pM ?_
            refine sp pAd ?_
            refine sp pMa ?_
            refine oNil ?_
            refine ⟨(i + 1, _), ?_, by (try dsimp only); omega, ⟨gInt rfl (by first | rfl | omega | simp), rfl, rfl, rfl, rfl, rfl, trivial⟩, _, (by repeat constructor)⟩
            refine ⟨by omega, ?_⟩
            rw [tblF_take he, ← ho]
            unfold stepT
            first
              | (rw [if_neg (by simp_all)]; done)
              | (rw [if_pos (by simp_all)]; simp_all [tlV]; done)
          · skip
            refine aSkip ?_
            refine aSeq ?_
            refine aReg ?_
            refine sp (pFb fd_173_1) ?_
            refine sr (rB1 ty_3) ?_
            refine sp pMa ?_
            refine oNil ?_
            refine aSeq ?_
            refine aSeq ?_
            refine aReg ?_
            refine sp pM ?_
            refine oNil ?_
            refine aCond rfl (fun c48 => ?_) (fun c48 => ?_)
            · skip
              refine aReg ?_
              refine sp (pFb fd_173_2) ?_
              refine sr (rB1 ty_3) ?_
              refine sp pMa ?_
              refine oNil ?_
              refine aReg ?_
              refine sp pM ?_
              refine sr (by first | exact rBWa ty_29 | exact rBW ty_29 | exact rBA ty_29) ?_
              refine sp pM ?_
              refine sp (pBuild rfl st_31 ze_31 rfl rfl rfl rfl) ?_
              refine sq ?_
              refine ci rfl rfl rfl (ref42_Put t e.b e.n _ (by omega) (fun _ => ((okP_iff (b := e.b) (n := e.n)).1 (by first | assumption | simp_all)).1)) ?_
              refine sp pMa ?_
              refine oNil ?_
              refine aReg ?_
              refine sp pM ?_
              refine sp pAd ?_
              refine sp pMa ?_
              refine oNil ?_
              refine ⟨(i + 1, _), ?_, by (try dsimp only); omega, ⟨gInt rfl (by first | rfl | omega | simp), rfl, rfl, rfl, rfl, rfl, trivial⟩, _, (by repeat constructor)⟩
              refine ⟨by omega, ?_⟩
              rw [tblF_take he, ← ho]
              unfold stepT
              first
                | (rw [if_neg (by simp_all)]; done)
                | (rw [if_pos (by simp_all)]; simp_all [tlV]; done)
            · skip
              refine aSkip ?_
              refine aReg ?_
              refine sp pM ?_
              refine sr (by first | exact rBWa ty_29 | exact rBW ty_29 | exact rBA ty_29) ?_
              refine sp pM ?_
              refine sp (pBuild rfl st_31 ze_31 rfl rfl rfl rfl) ?_
              refine sq ?_
              refine ci rfl rfl rfl (ref42_Put t e.b e.n _ (by omega) (fun _ => ((okP_iff (b := e.b) (n := e.n)).1 (by first | assumption | simp_all)).1)) ?_
              refine sp pMa ?_
              refine oNil ?_
              refine aReg ?_
              refine sp pM ?_
              refine sp pAd ?_
              refine sp pMa ?_
              refine oNil ?_
              refine ⟨(i + 1, _), ?_, by (try dsimp only); omega, ⟨gInt rfl (by first | rfl | omega | simp), rfl, rfl, rfl, rfl, rfl, trivial⟩, _, (by repeat constructor)⟩
              refine ⟨by omega, ?_⟩
              rw [tblF_take he, ← ho]
              unfold stepT
              first
                | (rw [if_neg (by simp_all)]; done)
                | (rw [if_pos (by simp_all)]; simp_all [tlV]; done)
      · skip
        refine aExit rfl ?_
        refine aSeq ?_
        refine aReg ?_
        refine sp pM ?_
        refine sp pMa ?_
        refine oNil ?_
        refine aRet ?_
        refine finIs rfl ?_
        rw [ho, take_all (by omega)]
        rfl
    · skip
      refine gf ?_
      refine gf ?_
      refine sp pK ?_
      refine oNil ?_
      refine aCondF rfl ?_
      refine aExit rfl ?_
      refine aSeq ?_
      refine aReg ?_
      refine sp pM ?_
      refine sp pMa ?_
      refine oNil ?_
      refine aRet ?_
      refine finIs rfl ?_
      rw [ho, take_all (by omega)]
      rfl

/- waymarkref43.Next -/
set_option maxRecDepth 100000 in
set_option maxHeartbeats 1000000 in
theorem ref43_Next {l : List E42} {a : Nat} (hb : ∀ e ∈ l, e.b < 2 ^ 32) (ha : a < 2 ^ 32) (hl : l.length ≤ 1000) : Triple Try.prog 64 [.sl 3 (l.map e42C), u32 a] [] (Is (.int (sent l a)) []) := by
  refine triple_of Try.func64 rfl (by kernel_rfl) rfl (by simp) ?_
  refine aSeq ?_
  refine aReg ?_
  refine sp pMa ?_
  refine oNil ?_
  refine aSeq ?_
  refine aReg ?_
  refine sq ?_
  refine qLit (l := []) rfl rfl (by decide) us_26 ty_31 ze_31 rfl (by decide) (by decide) rfl rfl rfl (fun b7 => ?_)
  refine sp pMa ?_
  refine oNil ?_
  refine aSeq ?_
  refine aSeq ?_
  refine aWeak (weak_settle (k := 5) rfl .hd rfl) ?_
  refine aReg ?_
  refine sp pMa ?_
  refine oNil ?_
  refine aBlock ?_
  refine loopF (α := Nat × List Ent) (kept := [(0, _), (1, _)]) (fun (i, t) => i ≤ l.length ∧ t = (l.take i).foldl putE []) (fun (i, t) => [(6, .int i), (5, .sl 3 (t.map entC))]) (fun (i, t) => []) (fun (i, t) => l.length - i) (0, []) ?_ ⟨gInt rfl (by first | rfl | omega | simp), rfl, rfl, rfl, trivial⟩ (by repeat constructor) ?_
  · skip
    exact ⟨by omega, rfl⟩
  · rintro ⟨i, t⟩ ⟨hi, ho⟩
    refine aSeq ?_
    refine aSeq ?_
    refine aReg ?_
    refine sp pM ?_
    refine sp pM ?_
    refine sp (by first | exact pLm sl_26 | exact pLs sl_26) ?_
    refine sp pB ?_
    refine oNil ?_
    refine aCondDec rfl (fun c11 => ?_) (fun c11 => ?_)
    · skip
      refine aSkip ?_
      refine aSeq ?_
      refine aBlock ?_
      refine aSeq ?_
      obtain ⟨e, he⟩ : ∃ e, l[i]? = some e := ⟨_, List.getElem?_eq_getElem (by omega)⟩
      have htl : t.length ≤ 1000 := by have := putFold_len (l.take i) []; have := List.length_take_le' i l; rw [ho]; simp at *; omega
      refine aReg ?_
      refine sp pM ?_
      refine sp pM ?_
      first | refine sp (pIx es_26) ?_ | (refine obtSN 14 15 rfl rfl (by omega) (fun x16 hx16 => ?_); refine sp (pIs es_26 hx16) ?_) | (refine obtS 14 15 rfl rfl (by omega) (by omega) (fun x16 hx16 => ?_); refine sp (pIs es_26 hx16) ?_) | refine sp (pIo es_26) ?_
      refine sp (pFs fd_31_0) ?_
      refine sr (by first | exact rSW ty_29 rfl | exact rSA ty_29) ?_
      refine sq ?_
      refine qCallV rfl rfl (by decide) rfl rfl (lents_refl _) (ref41_May e.b e.n (hb e (List.mem_of_getElem? he))) ?_
      refine sp pM ?_
      refine oSplit 20 rfl (fun c20 => ?_) (fun c20 => ?_)
      · skip
        refine gp pM ?_
        refine gp pM ?_
        first | refine gp (pIx es_26) ?_ | (refine obtSN 21 22 rfl rfl (by omega) (fun x23 hx23 => ?_); refine gp (pIs es_26 hx23) ?_) | (refine obtS 21 22 rfl rfl (by omega) (by omega) (fun x23 hx23 => ?_); refine gp (pIs es_26 hx23) ?_) | refine gp (pIo es_26) ?_
        refine gp (pFs fd_31_1) ?_
        refine gr (rS1 ty_3) ?_
        refine gp pB ?_
        refine sp pK ?_
        refine oNil ?_
        refine aCondNe rfl (fun c27 => ?_) (fun c27 => ?_)
        · skip
          refine aReg ?_
          refine sp pM ?_
          refine sp pM ?_
          refine sp pM ?_
          first | refine sp (pIx es_26) ?_ | (refine obtSN 29 30 rfl rfl (by omega) (fun x31 hx31 => ?_); refine sp (pIs es_26 hx31) ?_) | (refine obtS 29 30 rfl rfl (by omega) (by omega) (fun x31 hx31 => ?_); refine sp (pIs es_26 hx31) ?_) | refine sp (pIo es_26) ?_
          refine sr (by first | exact rSW ty_31 rfl | exact rSA ty_31) ?_
          refine sq ?_
          refine ci rfl rfl rfl (ref42_Put t e.b e.n e.tv (by omega) (fun _ => ((okP_iff (b := e.b) (n := e.n)).1 (by first | assumption | simp_all)).1)) ?_
          refine sp pMa ?_
          refine oNil ?_
          refine aReg ?_
          refine sp pM ?_
          refine sp pAd ?_
          refine sp pMa ?_
          refine oNil ?_
          refine ⟨(i + 1, _), ?_, by (try dsimp only); omega, ⟨gInt rfl (by first | rfl | omega | simp), rfl, rfl, rfl, trivial⟩, _, (by repeat constructor)⟩
          refine ⟨by omega, ?_⟩
          rw [take_step he, List.foldl_append, ← ho]
          show _ = putE t e
          unfold putE
          first
            | (rw [if_neg (by simp_all)]; done)
            | (rw [if_pos (by simp_all)]; done)
        · skip
          refine aSkip ?_
          refine aReg ?_
          refine sp pM ?_
          refine sp pAd ?_
          refine sp pMa ?_
          refine oNil ?_
          refine ⟨(i + 1, _), ?_, by (try dsimp only); omega, ⟨gInt rfl (by first | rfl | omega | simp), rfl, rfl, rfl, trivial⟩, _, (by repeat constructor)⟩
          refine ⟨by omega, ?_⟩
          rw [take_step he, List.foldl_append, ← ho]
          show _ = putE t e
          unfold putE
          first
            | (rw [if_neg (by simp_all)]; done)
            | (rw [if_pos (by simp_all)]; done)
      · skip
        refine gf ?_
        refine gf ?_
        refine gf ?_
        refine gf ?_
        refine gf ?_
        refine gf ?_
        refine sp pK ?_
        refine oNil ?_
        refine aCondF rfl ?_
        refine aSkip ?_
        refine aReg ?_
        refine sp pM ?_
        refine sp pAd ?_
        refine sp pMa ?_
        refine oNil ?_
        refine ⟨(i + 1, _), ?_, by (try dsimp only); omega, ⟨gInt rfl (by first | rfl | omega | simp), rfl, rfl, rfl, trivial⟩, _, (by repeat constructor)⟩
        refine ⟨by omega, ?_⟩
        rw [take_step he, List.foldl_append, ← ho]
        show _ = putE t e
        unfold putE
        first
          | (rw [if_neg (by simp_all)]; done)
          | (rw [if_pos (by simp_all)]; done)
    · skip
      refine aExit rfl ?_
      refine aSeq ?_
      have htl : t.length ≤ 1000 := by have := putFold_len (l.take i) []; have := List.length_take_le' i l; rw [ho]; simp at *; omega
      refine aReg ?_
      refine sp pM ?_
      refine sp pM ?_
      refine sq ?_
      refine ci rfl rfl rfl (ref42_Find t a (by omega) ha (by rw [ho]; exact putE_ok _ _ (fun e he => hb e (List.mem_of_mem_take he)) (fun e he => by simp at he))) ?_
      refine sp (pF1 fd_31_1) ?_
      refine sp pMa ?_
      refine oNil ?_
      refine aRet ?_
      refine finIs rfl ?_
      show AV.int _ = AV.int _
      rw [ho, take_all (by omega)]
      rfl

/- waymarklaw43.light -/
def law43_light_r6_T : Bool × List (List Nat × List Nat) := (true, [([], []), ([], []), ([0, 1], [0, 1]), ([2], [2]), ([3], [3]), ([4], [4]), ([5], [5]), ([6], [6]), ([6], [6]), ([7, 8, 6], [6, 7, 8]), ([9, 6], [6, 9]), ([10, 6], [6, 10]), ([11, 6], [6, 11]), ([6, 12], [6, 12]), ([13, 6], [13]), ([14], [14]), ([15, 14], [14, 15]), ([16, 14, 14], [14, 16]), ([17], [17]), ([17], [17]), ([19, 17], [17, 19]), ([18, 20, 17], [17, 18, 20]), ([21, 17], [17, 21]), ([22, 17], [17, 22]), ([17], [17]), ([17], [17]), ([24, 25, 17], [17, 24, 25]), ([26, 17], [17, 26]), ([27, 17], [17, 27]), ([23, 28, 17], [17, 23, 28]), ([17, 29, 14], [14, 17, 29]), ([14, 30], [14, 30])])
def law43_light_r6_B : List Nat := [0, 0, 3, 7, 15, 31, 63, 127, 127, 511, 1023, 2047, 4095, 8191, 16383, 32767, 65535, 131071, 262143, 262143, 786431, 2097151, 4194303, 8388607, 262143, 262143, 50593791, 117702655, 251920383, 536870911, 1073741823, 2147483647]
theorem law43_light_r6_t : Go.Proofs.YtkgemkadebgeoaaW.PrintLast.rtab .any (Go.Proofs.YtkgemkadebgeoaaW.PrintLast.opsOf Try.f59 6) = law43_light_r6_T := by kernel_rfl
theorem law43_light_r6_b : Go.Proofs.YtkgemkadebgeoaaW.PrintLast.waitsOk law43_light_r6_T.2 law43_light_r6_B = true := by kernel_rfl
set_option maxRecDepth 100000 in
set_option maxHeartbeats 1000000 in
theorem law43_light {rs : List Rt} {cs : List E42} (h1 : rs.length ≤ 9223372036854775807) (h2 : cs.length ≤ 9223372036854775807) : Triple Try.prog 59 [.sl 3 (rs.map rtC), .sl 3 (cs.map e42C)] [] (fun q h' => ∃ v : Bool, q = .v (.bool v) ∧ h' = [] ∧ (v = true → rs.length ≤ 40 ∧ cs.length ≤ 60 ∧ ∀ r ∈ rs, 1 ≤ r.via)) := by
  refine triple_of Try.func59 rfl (by kernel_rfl) rfl (by simp) ?_
  refine aSeq ?_
  refine aReg ?_
  refine sp pMa ?_
  refine oNil ?_
  refine aSeq ?_
  refine aSeq ?_
  refine aReg ?_
  refine sp pM ?_
  refine sp (by first | exact pLm sl_113 | exact pLs sl_113) ?_
  refine sp pB ?_
  refine sp pM ?_
  refine oSplitDec 9 rfl (fun c9 => ?_) (fun c9 => ?_)
  · skip
    refine gf ?_
    refine gf ?_
    refine gf ?_
    refine sp pK ?_
    refine oNil ?_
    refine aCondT rfl ?_
    refine aSeq ?_
    refine aReg ?_
    refine sp pMa ?_
    refine oNil ?_
    refine aRet ?_
    exact ⟨_, [], _, rfl, .nil, _, rfl, rfl, fun h => by cases h⟩
  · skip
    refine gp pM ?_
    refine gp (by first | exact pLm sl_26 | exact pLs sl_26) ?_
    refine gp pB ?_
    refine sp pK ?_
    refine oNil ?_
    refine aCondDec rfl (fun c13 => ?_) (fun c13 => ?_)
    · skip
      refine aSeq ?_
      refine aReg ?_
      refine sp pMa ?_
      refine oNil ?_
      refine aRet ?_
      exact ⟨_, [], _, rfl, .nil, _, rfl, rfl, fun h => by cases h⟩
    · skip
      refine aSkip ?_
      refine aSeq ?_
      refine aSeq ?_
      refine aReg ?_
      refine sp pMa ?_
      refine oNil ?_
      refine aBlock ?_
      refine loopF (α := Nat) (kept := [(0, _)]) (fun i => i ≤ rs.length ∧ ∀ r ∈ rs.take i, 1 ≤ r.via) (fun i => [(5, .int i)]) (fun i => []) (fun i => rs.length - i) 0 ?_ ⟨gInt rfl (by first | rfl | omega | simp), rfl, trivial⟩ (by repeat constructor) ?_
      · skip
        exact ⟨by omega, fun y hy => by simp at hy⟩
      · rintro i ⟨hi, hv⟩
        refine aSeq ?_
        refine aSeq ?_
        refine aReg ?_
        refine sp pM ?_
        refine sp pM ?_
        refine sp (by first | exact pLm sl_113 | exact pLs sl_113) ?_
        refine sp pB ?_
        refine oNil ?_
        refine aCondDec rfl (fun c17 => ?_) (fun c17 => ?_)
        · skip
          refine aSkip ?_
          refine aSeq ?_
          refine aBlock ?_
          refine aSeq ?_
          obtain ⟨r, hr⟩ : ∃ r, rs[i]? = some r := ⟨_, List.getElem?_eq_getElem (by omega)⟩
          have hprev : 0 < i → ∃ b, rs[((i : Int) - 1).toNat]? = some b := fun h => ⟨_, List.getElem?_eq_getElem (by omega)⟩
          refine aDrawT law43_light_r6_t law43_light_r6_b [] 32 #[false, false, false, false, false, false, false, false, false, false, false, false, false, false, false, false, false, false, false, false, false, false, false, false, false, false, false, false, false, false, false, false] (by kernel_rfl) rfl rfl (fun HT => ?_)
          refine dp HT 0 rfl pM ?_
          refine dp HT 1 rfl pM ?_
          first | refine dp HT 2 rfl (pIx es_113) ?_ | (refine obtDN 20 21 rfl rfl (by omega) (fun x22 hx22 => ?_); refine dp HT 2 rfl (pIs es_113 hx22) ?_) | (refine obtD 20 21 rfl rfl (by omega) (by omega) (fun x22 hx22 => ?_); refine dp HT 2 rfl (pIs es_113 hx22) ?_) | refine dp HT 2 rfl (pIo es_113) ?_
          refine dp HT 3 rfl (pFs fd_125_1) ?_
          refine dr HT 4 rfl (rS1 ty_3) ?_
          refine dp HT 5 rfl pB ?_
          refine dp HT 6 rfl pM ?_
          refine dSplitDec 26 rfl (fun c26 => ?_) (fun c26 => ?_)
          · skip
            refine dS HT 7 rfl ?_
            refine dS HT 8 rfl ?_
            refine dS HT 9 rfl ?_
            refine dS HT 10 rfl ?_
            refine dS HT 11 rfl ?_
            refine dS HT 12 rfl ?_
            refine dp HT 13 rfl pK ?_
            refine dp HT 14 rfl pM ?_
            refine dS HT 15 rfl ?_
            refine dS HT 16 rfl ?_
            refine dS HT 17 rfl ?_
            refine dS HT 18 rfl ?_
            refine dS HT 19 rfl ?_
            refine dS HT 20 rfl ?_
            refine dS HT 21 rfl ?_
            refine dS HT 22 rfl ?_
            refine dS HT 23 rfl ?_
            refine dS HT 24 rfl ?_
            refine dS HT 25 rfl ?_
            refine dS HT 26 rfl ?_
            refine dS HT 27 rfl ?_
            refine dS HT 28 rfl ?_
            refine dS HT 29 rfl ?_
            refine dS HT 30 rfl ?_
            refine dp HT 31 rfl pK ?_
            refine dE HT ?_
            clear HT
            refine aCondT rfl ?_
            refine aSeq ?_
            refine aReg ?_
            refine sp pMa ?_
            refine oNil ?_
            refine aRet ?_
            exact ⟨_, [], _, rfl, .nil, _, rfl, rfl, fun h => by cases h⟩
          · skip
            refine dpG HT 7 rfl pM ?_
            refine dpG HT 8 rfl pM ?_
            first | refine dpG HT 9 rfl (pIx es_113) ?_ | (refine obtDN 27 28 rfl rfl (by omega) (fun x29 hx29 => ?_); refine dpG HT 9 rfl (pIs es_113 hx29) ?_) | (refine obtD 27 28 rfl rfl (by omega) (by omega) (fun x29 hx29 => ?_); refine dpG HT 9 rfl (pIs es_113 hx29) ?_) | refine dpG HT 9 rfl (pIo es_113) ?_
            refine dpG HT 10 rfl (pFs fd_125_0) ?_
            refine drG HT 11 rfl (rS1 ty_3) ?_
            refine dpG HT 12 rfl pB ?_
            refine dp HT 13 rfl pK ?_
            refine dp HT 14 rfl pM ?_
            refine dSplitDec 34 rfl (fun c34 => ?_) (fun c34 => ?_)
            · skip
              refine dS HT 15 rfl ?_
              refine dS HT 16 rfl ?_
              refine dS HT 17 rfl ?_
              refine dS HT 18 rfl ?_
              refine dS HT 19 rfl ?_
              refine dS HT 20 rfl ?_
              refine dS HT 21 rfl ?_
              refine dS HT 22 rfl ?_
              refine dS HT 23 rfl ?_
              refine dS HT 24 rfl ?_
              refine dS HT 25 rfl ?_
              refine dS HT 26 rfl ?_
              refine dS HT 27 rfl ?_
              refine dS HT 28 rfl ?_
              refine dS HT 29 rfl ?_
              refine dS HT 30 rfl ?_
              refine dp HT 31 rfl pK ?_
              refine dE HT ?_
              clear HT
              refine aCondT rfl ?_
              refine aSeq ?_
              refine aReg ?_
              refine sp pMa ?_
              refine oNil ?_
              refine aRet ?_
              exact ⟨_, [], _, rfl, .nil, _, rfl, rfl, fun h => by cases h⟩
            · skip
              refine dpG HT 15 rfl pM ?_
              refine dpG HT 16 rfl pB ?_
              refine dpG HT 17 rfl pM ?_
              refine dSplitDec 37 rfl (fun c37 => ?_) (fun c37 => ?_)
              · skip
                refine dpG HT 18 rfl pM ?_
                refine dpG HT 19 rfl pM ?_
                refine dpG HT 20 rfl pSu ?_
                obtain ⟨b, hb⟩ := hprev (by omega)
                first | refine dpG HT 21 rfl (pIx es_113) ?_ | (refine obtDN 38 40 rfl rfl (by omega) (fun x41 hx41 => ?_); refine dpG HT 21 rfl (pIs es_113 hx41) ?_) | (refine obtD 38 40 rfl rfl (by omega) (by omega) (fun x41 hx41 => ?_); refine dpG HT 21 rfl (pIs es_113 hx41) ?_) | refine dpG HT 21 rfl (pIo es_113) ?_
                refine dpG HT 22 rfl (pFs fd_125_0) ?_
                refine drG HT 23 rfl (rS1 ty_3) ?_
                refine dpG HT 24 rfl pM ?_
                refine dpG HT 25 rfl pM ?_
                first | refine dpG HT 26 rfl (pIx es_113) ?_ | (refine obtDN 44 45 rfl rfl (by omega) (fun x46 hx46 => ?_); refine dpG HT 26 rfl (pIs es_113 hx46) ?_) | (refine obtD 44 45 rfl rfl (by omega) (by omega) (fun x46 hx46 => ?_); refine dpG HT 26 rfl (pIs es_113 hx46) ?_) | refine dpG HT 26 rfl (pIo es_113) ?_
                refine dpG HT 27 rfl (pFs fd_125_0) ?_
                refine drG HT 28 rfl (rS1 ty_3) ?_
                refine dpG HT 29 rfl pB ?_
                refine dpG HT 30 rfl pK ?_
                refine dp HT 31 rfl pK ?_
                refine dE HT ?_
                clear HT
                refine aCondDec rfl (fun c51 => ?_) (fun c51 => ?_)
                · skip
                  refine aSeq ?_
                  refine aReg ?_
                  refine sp pMa ?_
                  refine oNil ?_
                  refine aRet ?_
                  exact ⟨_, [], _, rfl, .nil, _, rfl, rfl, fun h => by cases h⟩
                · skip
                  refine aSkip ?_
                  refine aReg ?_
                  refine sp pM ?_
                  refine sp pAd ?_
                  refine sp pMa ?_
                  refine oNil ?_
                  refine ⟨i + 1, ?_, by (try dsimp only); omega, ⟨gInt rfl (by first | rfl | omega | simp), rfl, trivial⟩, _, (by repeat constructor)⟩
                  refine ⟨by omega, fun y hy => ?_⟩
                  rw [take_step hr] at hy
                  rcases List.mem_append.1 hy with hy | hy
                  · exact hv y hy
                  · rw [List.mem_singleton.1 hy]; omega
              · skip
                refine dS HT 18 rfl ?_
                refine dS HT 19 rfl ?_
                refine dS HT 20 rfl ?_
                refine dS HT 21 rfl ?_
                refine dS HT 22 rfl ?_
                refine dS HT 23 rfl ?_
                refine dS HT 24 rfl ?_
                refine dS HT 25 rfl ?_
                refine dS HT 26 rfl ?_
                refine dS HT 27 rfl ?_
                refine dS HT 28 rfl ?_
                refine dS HT 29 rfl ?_
                refine dpG HT 30 rfl pK ?_
                refine dp HT 31 rfl pK ?_
                refine dE HT ?_
                clear HT
                refine aCondF rfl ?_
                refine aSkip ?_
                refine aReg ?_
                refine sp pM ?_
                refine sp pAd ?_
                refine sp pMa ?_
                refine oNil ?_
                refine ⟨i + 1, ?_, by (try dsimp only); omega, ⟨gInt rfl (by first | rfl | omega | simp), rfl, trivial⟩, _, (by repeat constructor)⟩
                refine ⟨by omega, fun y hy => ?_⟩
                rw [take_step hr] at hy
                rcases List.mem_append.1 hy with hy | hy
                · exact hv y hy
                · rw [List.mem_singleton.1 hy]; omega
        · skip
          refine aExit rfl ?_
          refine aSeq ?_
          refine aReg ?_
          refine sp pMa ?_
          refine oNil ?_
          refine aRet ?_
          refine ⟨_, [], _, rfl, .nil, _, rfl, rfl, fun _ => ⟨by omega, by omega, ?_⟩⟩
          rw [take_all (by omega)] at hv
          exact hv

end A
end Go.Proofs.Ytkgemkadebgeoaa
