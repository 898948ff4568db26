/- What functions of the program compute: graph24b -/
import Derived.Test.YtmcannmjielalaaBkeysrc
import Derived.Test.YtmcannmjielalaaProg
import Derived.KernelRfl
set_option linter.unusedVariables false
set_option linter.unusedSimpArgs false
namespace Go.Proofs.Ytmcannmjielalaa
namespace A

theorem el_22 : elemOf Try.prog 22 = some (36, 3, 24) := by kernel_rfl
theorem eq_36 : eqType Try.prog 36 = some [(0, .i), (1, .i), (2, .i)] := by kernel_rfl
theorem mo_144 : mapOf Try.prog 144 = some (3, 4) := by kernel_rfl
theorem ty_143 : tyOf Try.prog 143 = some (1, false) := by kernel_rfl
theorem us_22 : Try.prog.underlying 22 = some (.slice 36) := by kernel_rfl
/- api.Arc] -/
set_option maxRecDepth 100000 in
set_option maxHeartbeats 400000 in
theorem index_Arc {f : FuncId} {caps : List AV} {p : Arc → Bool} (hf : ∀ x : Arc, Triple Try.prog f ([AV.agg (arcC x)] ++ caps) [] (Is (.v (.bool (p x))) [])) (l : List Arc) (hl : l.length ≤ 1000000) : Triple Try.prog 196 [.sl 3 (l.map arcC), .fn (.func f) caps] [] (Is (.v (.int .i64 (idxF p l))) []) := by
  refine triple_of Try.func196 rfl (by kernel_rfl) rfl (by simp) ?_
  refine aSeq ?_
  refine aReg ?_
  refine sp pMa ?_
  refine oNil ?_
  refine aSeq ?_
  refine aSeq ?_
  refine aReg ?_
  refine sp pM ?_
  refine sp (by first | exact pLm sl_22 | exact pLs sl_22) ?_
  refine sp pM ?_
  refine oNil ?_
  refine aBlock ?_
  refine loopF (α := Nat) (kept := [(0, _), (1, _), (7, _)]) (fun i => i ≤ l.length ∧ ∀ y ∈ l.take i, p y = false) (fun i => [(8, .int i)]) (fun i => []) (fun i => l.length - i) 0 ?_ ⟨gInt rfl (by first | rfl | omega | simp), rfl, rfl, rfl, trivial⟩ (by repeat constructor) ?_
  · skip
    exact ⟨by omega, fun y hy => by simp at hy⟩
  · rintro i ⟨hi, hv⟩
    refine aSeq ?_
    refine aReg ?_
    refine sp pB ?_
    refine oNil ?_
    refine aSeq ?_
    refine aCondDec rfl (fun c9 => ?_) (fun c9 => ?_)
    · skip
      refine aSkip ?_
      refine aSeq ?_
      refine aBlock ?_
      refine aSeq ?_
      refine aReg ?_
      refine sp pM ?_
      refine sp pMa ?_
      refine oNil ?_
      refine aSeq ?_
      obtain ⟨x, hx⟩ : ∃ x, l[i]? = some x := ⟨_, List.getElem?_eq_getElem (by omega)⟩
      refine aReg ?_
      refine sp pM ?_
      refine sp pM ?_
      refine sp pM ?_
      first | refine sp (pIx es_22) ?_ | (refine obtSN 12 13 rfl rfl (by omega) (fun x14 hx14 => ?_); refine sp (pIs es_22 hx14) ?_) | (refine obtS 12 13 rfl rfl (by omega) (by omega) (fun x14 hx14 => ?_); refine sp (pIs es_22 hx14) ?_) | refine sp (pIo es_22) ?_
      refine sr (by first | exact rSW ty_36 rfl | exact rSA ty_36) ?_
      refine sq ?_
      refine cv rfl rfl rfl (lents_refl _) (hf x) ?_
      refine oNil ?_
      refine aCond rfl (fun c16 => ?_) (fun c16 => ?_)
      · skip
        refine aSeq ?_
        refine aReg ?_
        refine sp pM ?_
        refine sp pMa ?_
        refine oNil ?_
        refine aRet ?_
        refine finIs rfl ?_
        show AV.int _ = AV.int _
        rw [(idxF_at hv hx (by simp_all)).1]
      · skip
        refine aSkip ?_
        refine aReg ?_
        refine sp pAd ?_
        refine sp pM ?_
        refine oNil ?_
        refine ⟨i + 1, ?_, by (try dsimp only); omega, ⟨gInt rfl (by first | rfl | omega | simp), rfl, rfl, rfl, trivial⟩, _, (by repeat constructor)⟩
        refine ⟨by omega, fun y hy => ?_⟩
        rw [take_step hx] at hy
        rcases List.mem_append.1 hy with hy | hy
        · exact hv y hy
        · rw [List.mem_singleton.1 hy]; simp_all
    · skip
      refine aExit rfl ?_
      refine aSeq ?_
      refine aReg ?_
      refine sp pMa ?_
      refine oNil ?_
      refine aRet ?_
      refine finIs rfl ?_
      show AV.int _ = AV.int _
      rw [take_all (by omega)] at hv
      rw [(idxF_no hv).1]

/- api.Arc] -/
set_option maxRecDepth 100000 in
set_option maxHeartbeats 400000 in
theorem clone_Arc {l : List Arc} (hl : l.length ≤ 1000000 := by omega) : Triple Try.prog 212 [.sl 3 (l.map arcC)] [] (Own 36 3 (l.map arcC) []) := by
  refine triple_of Try.func212 rfl (by kernel_rfl) rfl (by simp) ?_
  refine aSeq ?_
  refine aReg ?_
  refine sp pMa ?_
  refine oNil ?_
  refine aSeq ?_
  refine aSeq ?_
  refine aReg ?_
  refine sp pM ?_
  refine sa ?_
  refine oSlNil rfl (.inl rfl) rfl sl_22 rfl (by decide) (fun q4 hq4 => ?_)
  refine oNil ?_
  refine aCond rfl (fun c4 => ?_) (fun c4 => ?_)
  · skip
    refine aSeq ?_
    refine aWeak (weak_nil 36 3) ?_
    refine aReg ?_
    refine sp pMa ?_
    refine oNil ?_
    refine aRet ?_
    have he : l = [] := by
      cases l with
      | nil => rfl
      | cons x l => have := hq4 (by simp); simp_all
    subst he
    exact ⟨_, _, _, rfl, .cons .hd .nil, none, 0, rfl, rfl⟩
  · skip
    refine aSkip ?_
    refine aSeq ?_
    refine aReg ?_
    refine sq ?_
    refine qLit (l := []) rfl rfl (by decide) us_22 ty_36 ze_36 rfl (by decide) (by decide) rfl rfl rfl (fun b5 => ?_)
    refine sp pM ?_
    refine sa ?_
    first | refine oAppT (out := []) _ rfl rfl (by repeat constructor) (.inl rfl) el_22 sl_22 (fun g7 k7 => ?_) | refine oAppT (out := []) _ rfl rfl (by repeat constructor) (srcOwn rfl (by repeat constructor) (by first | rfl | simp)) el_22 sl_22 (fun g7 k7 => ?_)
    refine sp pMa ?_
    refine oNil ?_
    refine aRet ?_
    refine finOwn rfl ?_
    rfl

/- api.Arc] -/
set_option maxRecDepth 100000 in
set_option maxHeartbeats 1000000 in
theorem delete_Arc {f : FuncId} {caps : List AV} {p : Arc → Bool} (hf : ∀ x : Arc, Triple Try.prog f ([AV.agg (arcC x)] ++ caps) [] (Is (.v (.bool (p x))) [])) (g : Option Nat) (c : Nat) (l : List Arc) (hl : l.length ≤ 1000000) : Triple Try.prog 211 [.v (slV g l.length c), .fn (.func f) caps] [.sl g c 36 3 (l.map arcC)] (Own 36 3 ((l.filter fun x => !p x).map arcC) []) := by
  refine triple_of Try.func211 rfl (by kernel_rfl) rfl (by simp) ?_
  refine aSeq ?_
  refine aReg ?_
  refine sp pMa ?_
  refine oNil ?_
  refine aSeq ?_
  refine aReg ?_
  refine sp pM ?_
  refine sp pM ?_
  refine sq ?_
  refine cv rfl rfl rfl (by repeat (first | exact .nil | refine .cons (.sl (by repeat (first | exact List.mem_cons_self | apply List.mem_cons_of_mem)) (by first | rfl | simp)) ?_ | refine .cons (.same _) ?_)) (index_Arc hf l hl) ?_
  refine sp pMa ?_
  refine oNil ?_
  refine aSeq ?_
  refine aSeq ?_
  refine aReg ?_
  refine sp pM ?_
  refine sp pB ?_
  refine oNil ?_
  refine aCondEq rfl (fun c12 => ?_) (fun c12 => ?_)
  · skip
    refine aSeq ?_
    refine aReg ?_
    refine sp pM ?_
    refine sp pMa ?_
    refine oNil ?_
    refine aRet ?_
    refine finOwn rfl ?_
    have hn : idxF p l = -1 := by assumption
    rw [idxF_none hn]
  · skip
    refine aSkip ?_
    refine aSeq ?_
    refine aSeq ?_
    obtain ⟨n, hn, hnl, hx0⟩ := idxF_split (p := p) (l := l) (by assumption)
    rw [hn] at *
    refine aSome .hd (by intro e; simp at e; subst e; simp at hnl) (fun b hb => ?_)
    subst hb
    refine aCap .hd (fun hcap => ?_)
    rw [List.length_map] at hcap
    refine aReg ?_
    refine sp pM ?_
    refine sp pAd ?_
    refine sp pMa ?_
    refine oNil ?_
    refine aBlock ?_
    refine loopF (α := Nat × Nat × List Arc) (kept := [(0, _), (1, _)]) (fun (j, i, cur) => cur.length = l.length ∧ i < j ∧ j ≤ l.length ∧ cur.take i = (l.take j).filter (fun x => !p x) ∧ cur.drop j = l.drop j) (fun (j, i, cur) => [(5, .int i), (6, .int j)]) (fun (j, i, cur) => [.sl (some b) c 36 3 (cur.map arcC)]) (fun (j, i, cur) => l.length - j) (n + 1, n, l) ?_ ⟨gInt rfl (by first | rfl | omega | simp), gInt rfl (by first | rfl | omega | simp), rfl, rfl, trivial⟩ (by repeat constructor) ?_
    · skip
      exact ⟨rfl, by omega, by omega, hx0, rfl⟩
    · rintro ⟨j, i, cur⟩ ⟨hcl, hij, hj, htk, hdr⟩
      refine aSeq ?_
      refine aSeq ?_
      refine aReg ?_
      refine sp pM ?_
      refine sp pM ?_
      refine sp (by first | exact pLm sl_22 | exact pLs sl_22 | exact pLv sl_22) ?_
      refine sp pB ?_
      refine oNil ?_
      refine aCondDec rfl (fun c19 => ?_) (fun c19 => ?_)
      · skip
        refine aSkip ?_
        refine aSeq ?_
        refine aBlock ?_
        refine aSeq ?_
        obtain ⟨x, hx⟩ : ∃ x, cur[j]? = some x := ⟨_, List.getElem?_eq_getElem (by omega)⟩
        have hxl : l[j]? = some x := by rw [← hx]; have := congrArg (·[0]?) hdr; simpa using this.symm
        refine aReg ?_
        refine sp pM ?_
        refine sp pM ?_
        first | refine sp (pIx es_22) ?_ | (refine obtSN 22 23 rfl rfl (by omega) (fun x24 hx24 => ?_); refine sp (pIs es_22 hx24) ?_) | (refine obtS 22 23 rfl rfl (by omega) (by omega) (fun x24 hx24 => ?_); refine sp (pIs es_22 hx24) ?_) | refine sp (pIo es_22) ?_
        refine sr (rOA ty_36 hx) ?_
        refine sq ?_
        refine qAlloc rfl rfl (by decide) ze_36 rfl (fun b7 => ?_)
        refine sa ?_
        refine oStW rfl rfl rfl rfl (by repeat constructor) ty_36 ?_
        refine oNil ?_
        refine aSeq ?_
        refine aReg ?_
        refine sp pM ?_
        refine sr (by first | exact rBWa ty_36 | exact rBW ty_36 | exact rBA ty_36) ?_
        refine sq ?_
        refine cv rfl rfl rfl (lents_refl _) (hf x) ?_
        refine sp pNo ?_
        refine oNil ?_
        refine aCondNot rfl (fun c29 => ?_) (fun c29 => ?_)
        · skip
          refine aSeq ?_
          refine aReg ?_
          refine sp pM ?_
          refine sp pM ?_
          refine sr (by first | exact rBWa ty_36 | exact rBW ty_36 | exact rBA ty_36) ?_
          first | refine sp (pIx es_22) ?_ | (refine obtSN 30 31 rfl rfl (by omega) (fun x33 hx33 => ?_); refine sp (pIs es_22 hx33) ?_) | (refine obtS 30 31 rfl rfl (by omega) (by omega) (fun x33 hx33 => ?_); refine sp (pIs es_22 hx33) ?_) | refine sp (pIo es_22) ?_
          refine sa ?_
          refine oStE (fC := arcC) (l := cur) (a := x) (i := (i : Int)) rfl rfl rfl rfl ty_36 ?_
          refine oNil ?_
          refine aReg ?_
          refine sp pM ?_
          refine sp pAd ?_
          refine sp pMa ?_
          refine oNil ?_
          refine aReg ?_
          refine sp pM ?_
          refine sp pAd ?_
          refine sp pMa ?_
          refine oNil ?_
          refine ⟨(j + 1, _, _), ?_, by (try dsimp only); omega, ⟨gInt rfl (by first | rfl | omega | simp), gInt rfl (by first | rfl | omega | simp), rfl, rfl, trivial⟩, _, (by repeat constructor)⟩
          have hdr2 : cur.drop (j + 1) = l.drop (j + 1) := by rw [← List.drop_drop, hdr, List.drop_drop]
          have hs : (l.take (j + 1)).filter (fun x => !p x) = cur.take i ++ (if p x then [] else [x]) := by
            rw [take_step hxl, List.filter_append, ← htk]
            cases hp : p x <;> simp [hp]
          first
            | (have hpx : p x = false := by assumption
               rw [hpx] at hs
               simp only [Int.toNat_natCast]
               refine ⟨by rw [List.length_set]; exact hcl, by omega, by omega, ?_, ?_⟩
               · rw [hs]; exact take_set_succ (by omega)
               · rw [List.drop_set_of_lt (by omega)]; exact hdr2)
            | (have hpx : p x = true := by assumption
               rw [hpx] at hs
               exact ⟨hcl, by omega, by omega, by rw [hs]; simp, hdr2⟩)
        · skip
          refine aSkip ?_
          refine aReg ?_
          refine sp pM ?_
          refine sp pAd ?_
          refine sp pMa ?_
          refine oNil ?_
          refine ⟨(j + 1, _, _), ?_, by (try dsimp only); omega, ⟨gInt rfl (by first | rfl | omega | simp), gInt rfl (by first | rfl | omega | simp), rfl, rfl, trivial⟩, _, (by repeat constructor)⟩
          have hdr2 : cur.drop (j + 1) = l.drop (j + 1) := by rw [← List.drop_drop, hdr, List.drop_drop]
          have hs : (l.take (j + 1)).filter (fun x => !p x) = cur.take i ++ (if p x then [] else [x]) := by
            rw [take_step hxl, List.filter_append, ← htk]
            cases hp : p x <;> simp [hp]
          first
            | (have hpx : p x = false := by assumption
               rw [hpx] at hs
               simp only [Int.toNat_natCast]
               refine ⟨by rw [List.length_set]; exact hcl, by omega, by omega, ?_, ?_⟩
               · rw [hs]; exact take_set_succ (by omega)
               · rw [List.drop_set_of_lt (by omega)]; exact hdr2)
            | (have hpx : p x = true := by assumption
               rw [hpx] at hs
               exact ⟨hcl, by omega, by omega, by rw [hs]; simp, hdr2⟩)
      · skip
        refine aExit rfl ?_
        refine aSeq ?_
        have hjl : j = l.length := by omega
        subst hjl
        rw [List.take_length] at htk
        refine aReg ?_
        refine sp pM ?_
        refine sp pM ?_
        refine sp (pSlLo rfl rfl es_22 (bdI rfl) (by omega) (by omega)) ?_
        refine sa ?_
        refine oClearT (zs := [.int 0, .int 0, .int 0]) rfl rfl rfl .hd (by rw [List.length_map]; omega) (by omega) el_22 ze_36 rfl rfl (by intro F w j av x hj hx; repeat (first | (cases j with | zero => (simp at hj; simp [Value.cells] at hx; subst hj; subst hx; exact .v _) | succ j => _) | (simp at hj; done))) ?_
        refine oNil ?_
        refine aSeq ?_
        refine aReg ?_
        refine sp pM ?_
        refine sp pM ?_
        refine sp (pSlHi rfl rfl es_22 (bdI rfl) (by omega)) ?_
        refine sp pMa ?_
        refine oNil ?_
        refine aWeak (weak_cut i .hd) ?_
        refine aRet ?_
        have hil : (List.map arcC cur).length = cur.length := by simp
        refine finOwn rfl ?_ 
        rw [List.take_append_of_le_length (by rw [List.length_take]; omega), List.take_take, Nat.min_self, ← htk, List.map_take]

/- waymarkref24.Same -/
def ref24_Same_r6_T : Bool × List (List Nat × List Nat) := (true, [([], []), ([], []), ([0, 1], [0, 1]), ([2], [2]), ([], []), ([], []), ([4, 5], [4, 5]), ([6], [6]), ([3, 7], [3, 7])])
def ref24_Same_r6_B : List Nat := [0, 0, 3, 7, 0, 0, 48, 112, 255]
theorem ref24_Same_r6_t : Go.Proofs.YtmcannmjielalaaW.PrintLast.rtab .any (Go.Proofs.YtmcannmjielalaaW.PrintLast.opsOf Try.f32 6) = ref24_Same_r6_T := by kernel_rfl
theorem ref24_Same_r6_b : Go.Proofs.YtmcannmjielalaaW.PrintLast.waitsOk ref24_Same_r6_T.2 ref24_Same_r6_B = true := by kernel_rfl
set_option maxRecDepth 100000 in
set_option maxHeartbeats 400000 in
theorem ref24_Same {a b : List Arc} (ha : a.length < 9223372036854775807 := by omega) (hb : b.length < 9223372036854775807 := by omega) : Triple Try.prog 32 [.sl 3 (a.map arcC), .sl 3 (b.map arcC)] [] (Is (.v (.bool (decide (a = b)))) []) := by
  refine triple_of Try.func32 rfl (by kernel_rfl) rfl (by simp) ?_
  refine aSeq ?_
  refine aReg ?_
  refine sp pMa ?_
  refine oNil ?_
  refine aSeq ?_
  refine aSeq ?_
  refine aReg ?_
  refine sp pM ?_
  refine sp (by first | exact pLm sl_22 | exact pLs sl_22) ?_
  refine sp pM ?_
  refine sp (by first | exact pLm sl_22 | exact pLs sl_22) ?_
  refine sp pB ?_
  refine oNil ?_
  refine aCondNe rfl (fun c10 => ?_) (fun c10 => ?_)
  · skip
    refine aSeq ?_
    refine aReg ?_
    refine sp pMa ?_
    refine oNil ?_
    refine aRet ?_
    refine finIs rfl ?_
    rw [decide_eq_false (fun e => by subst e; simp at c10)]
    rfl
  · skip
    refine aSkip ?_
    refine aSeq ?_
    refine aSeq ?_
    refine aReg ?_
    refine sp pMa ?_
    refine oNil ?_
    refine aBlock ?_
    refine loopF (α := Nat) (kept := [(0, _), (1, _)]) (fun i => i ≤ a.length ∧ a.length = b.length ∧ a.take i = b.take i) (fun i => [(5, .int i)]) (fun i => []) (fun i => a.length - i) 0 ?_ ⟨gInt rfl (by first | rfl | omega | simp), rfl, rfl, trivial⟩ (by repeat constructor) ?_
    · skip
      exact ⟨by omega, by omega, rfl⟩
    · rintro i ⟨hi, hl, hv⟩
      refine aSeq ?_
      refine aSeq ?_
      refine aReg ?_
      refine sp pM ?_
      refine sp pM ?_
      refine sp (by first | exact pLm sl_22 | exact pLs sl_22) ?_
      refine sp pB ?_
      refine oNil ?_
      refine aCondDec rfl (fun c14 => ?_) (fun c14 => ?_)
      · skip
        refine aSkip ?_
        refine aSeq ?_
        refine aBlock ?_
        refine aSeq ?_
        refine aDrawT ref24_Same_r6_t ref24_Same_r6_b [] 9 #[false, false, false, false, false, false, false, false, false] (by kernel_rfl) rfl rfl (fun HT => ?_)
        refine dp HT 0 rfl pM ?_
        refine dp HT 1 rfl pM ?_
        first | refine dp HT 2 rfl (pIx es_22) ?_ | (refine obtDN 17 18 rfl rfl (by omega) (fun x19 hx19 => ?_); refine dp HT 2 rfl (pIs es_22 hx19) ?_) | (refine obtD 17 18 rfl rfl (by omega) (by omega) (fun x19 hx19 => ?_); refine dp HT 2 rfl (pIs es_22 hx19) ?_) | refine dp HT 2 rfl (pIo es_22) ?_
        refine dr HT 3 rfl (by first | exact rSW ty_36 rfl | exact rSA ty_36) ?_
        refine dp HT 4 rfl pM ?_
        refine dp HT 5 rfl pM ?_
        first | refine dp HT 6 rfl (pIx es_22) ?_ | (refine obtDN 21 22 rfl rfl (by omega) (fun x23 hx23 => ?_); refine dp HT 6 rfl (pIs es_22 hx23) ?_) | (refine obtD 21 22 rfl rfl (by omega) (by omega) (fun x23 hx23 => ?_); refine dp HT 6 rfl (pIs es_22 hx23) ?_) | refine dp HT 6 rfl (pIo es_22) ?_
        refine dr HT 7 rfl (by first | exact rSW ty_36 rfl | exact rSA ty_36) ?_
        refine dp HT 8 rfl (pEqAn eq_36) ?_
        refine dE HT ?_
        clear HT
        refine aCond rfl (fun c25 => ?_) (fun c25 => ?_)
        · skip
          refine aSeq ?_
          refine aReg ?_
          refine sp pMa ?_
          refine oNil ?_
          refine aRet ?_
          refine finIs rfl ?_
          rw [decide_eq_false (fun e => by subst e; obtain rfl := Option.some.inj (hx19.symm.trans hx23); simp at c25)]
          rfl
        · skip
          refine aSkip ?_
          refine aReg ?_
          refine sp pM ?_
          refine sp pAd ?_
          refine sp pMa ?_
          refine oNil ?_
          refine ⟨i + 1, ?_, by (try dsimp only); omega, ⟨gInt rfl (by first | rfl | omega | simp), rfl, rfl, trivial⟩, _, (by repeat constructor)⟩
          have hxy : x19 = x23 := by
            cases x19
            cases x23
            simp_all
          exact ⟨by omega, hl, by rw [take_step hx19, take_step hx23, hv, hxy]⟩
      · skip
        refine aExit rfl ?_
        refine aSeq ?_
        refine aReg ?_
        refine sp pMa ?_
        refine oNil ?_
        refine aRet ?_
        refine finIs rfl ?_
        rw [take_all (by omega), take_all (by omega)] at hv
        rw [decide_eq_true hv]
        rfl

/- graph.those$1 -/
set_option maxRecDepth 100000 in
set_option maxHeartbeats 400000 in
theorem graph_those1 {f : FuncId} {caps : List AV} {p : Arc → Bool} (hf : ∀ x : Arc, Triple Try.prog f ([AV.agg (arcC x)] ++ caps) [] (Is (.v (.bool (p x))) [])) {x : Arc} : Triple Try.prog 213 [.agg (arcC x), .sp [.fn (.func f) caps]] [] (Is (.v (.bool (!p x))) []) := by
  refine triple_of Try.func213 rfl (by kernel_rfl) rfl (by simp) ?_
  refine aSeq ?_
  refine aReg ?_
  refine sq ?_
  refine qBox rfl rfl (by decide) rfl rfl (fun b2 => ?_)
  refine sp pMa ?_
  refine oNil ?_
  refine aSeq ?_
  refine aReg ?_
  refine sr (rS1 ty_143) ?_
  refine sr (by first | exact rBWa ty_36 | exact rBW ty_36 | exact rBA ty_36) ?_
  refine sq ?_
  refine cv rfl rfl rfl (lents_refl _) (hf x) ?_
  refine sp pNo ?_
  refine sp pMa ?_
  refine oNil ?_
  refine aRet ?_
  refine finIs rfl ?_
  rfl

/- graph.From$1 -/
set_option maxRecDepth 100000 in
set_option maxHeartbeats 400000 in
theorem graph_From1 {x : Arc} {n : Int} : Triple Try.prog 116 [.agg (arcC x), .sp [.int n]] [] (Is (.v (.bool (x.f == n))) []) := by
  refine triple_of Try.func116 rfl (by kernel_rfl) rfl (by simp) ?_
  refine aSeq ?_
  refine aReg ?_
  refine sq ?_
  refine qBox rfl rfl (by decide) rfl rfl (fun b2 => ?_)
  refine sp pMa ?_
  refine oNil ?_
  refine aSeq ?_
  refine aReg ?_
  refine sp (pFb fd_36_0) ?_
  refine sr (rB1 ty_3) ?_
  refine sr (rS1 ty_3) ?_
  refine sp pB ?_
  refine sp pMa ?_
  refine oNil ?_
  refine aRet ?_
  refine finIs rfl ?_
  rfl

/- graph.Cut$1 -/
set_option maxRecDepth 100000 in
set_option maxHeartbeats 400000 in
theorem graph_Cut1 {x : Arc} {n : Int} : Triple Try.prog 117 [.agg (arcC x), .sp [.int n]] [] (Is (.v (.bool (x.f != n && x.t != n))) []) := by
  refine triple_of Try.func117 rfl (by kernel_rfl) rfl (by simp) ?_
  refine aSeq ?_
  refine aReg ?_
  refine sq ?_
  refine qBox rfl rfl (by decide) rfl rfl (fun b2 => ?_)
  refine sp pMa ?_
  refine oNil ?_
  refine aSeq ?_
  refine aReg ?_
  refine sp (pFb fd_36_0) ?_
  refine sr (rB1 ty_3) ?_
  refine sr (rS1 ty_3) ?_
  refine sp pB ?_
  refine sp pM ?_
  refine oSplitNe 8 rfl (fun c8 => ?_) (fun c8 => ?_)
  · skip
    refine gp (pFb fd_36_1) ?_
    refine gr (rB1 ty_3) ?_
    refine gr (rS1 ty_3) ?_
    refine gp pB ?_
    refine sp pK ?_
    refine sp pMa ?_
    refine oNil ?_
    refine aRet ?_
    refine finIs rfl ?_
    simp_all [retOf]
  · skip
    refine gf ?_
    refine gf ?_
    refine gf ?_
    refine gf ?_
    refine sp pK ?_
    refine sp pMa ?_
    refine oNil ?_
    refine aRet ?_
    refine finIs rfl ?_
    simp_all [retOf]

/- graph.those -/
set_option maxRecDepth 100000 in
set_option maxHeartbeats 400000 in
theorem graph_those {f : FuncId} {caps : List AV} {p : Arc → Bool} (hf : ∀ x : Arc, Triple Try.prog f ([AV.agg (arcC x)] ++ caps) [] (Is (.v (.bool (p x))) [])) {l : List Arc} (hl : l.length ≤ 1000000) : Triple Try.prog 115 [.sl 3 (l.map arcC), .fn (.func f) caps] [] (Own 36 3 ((if arcsB none l then l.filter p else []).map arcC) []) := by
  refine triple_of Try.func115 rfl (by kernel_rfl) rfl (by simp) ?_
  refine aSeq ?_
  refine aReg ?_
  refine sq ?_
  refine qBox rfl rfl (by decide) rfl rfl (fun b3 => ?_)
  refine sp pMa ?_
  refine oNil ?_
  refine aSeq ?_
  refine aSeq ?_
  refine aReg ?_
  refine sp pM ?_
  refine sq ?_
  refine cv rfl rfl rfl (lents_refl _) graph_Check ?_
  refine sp pB ?_
  refine oNil ?_
  refine aCondNe rfl (fun c7 => ?_) (fun c7 => ?_)
  · skip
    refine aSeq ?_
    refine aWeak (weak_nil 36 3) ?_
    refine aReg ?_
    refine sp pMa ?_
    refine oNil ?_
    refine aRet ?_
    refine finOwn rfl ?_
    have hno : arcsB none l = false := by cases h : arcsB none l <;> simp_all
    rw [hno]
    rfl
  · skip
    refine aSkip ?_
    refine aSeq ?_
    refine aReg ?_
    refine sp pM ?_
    refine sa ?_
    first | refine coM rfl rfl rfl clone_Arc (fun g9 k9 => ?_) | refine co rfl rfl rfl clone_Arc (fun g9 k9 => ?_)
    refine sp (pFn rfl rfl) ?_
    refine oWeak (weak_deep (k := 10) (b := .fn (.func 213) [.sp [.fn (.func f) caps]]) rfl (.cons (by repeat constructor) .nil) (.fn (.sp List.mem_cons_self Deep.refl (.row .nil)) (.row .nil))) ?_
    refine sa ?_
    first | refine coM rfl rfl rfl (delete_Arc (f := 213) (caps := [.sp [.fn (.func f) caps]]) (p := fun x => !p x) (fun x => graph_those1 hf) g9 k9 l hl) (fun g11 k11 => ?_) | refine co rfl rfl rfl (delete_Arc (f := 213) (caps := [.sp [.fn (.func f) caps]]) (p := fun x => !p x) (fun x => graph_those1 hf) g9 k9 l hl) (fun g11 k11 => ?_)
    refine sp pMa ?_
    refine oNil ?_
    refine aRet ?_
    refine finOwn rfl ?_
    have hyes : arcsB none l = true := by cases h : arcsB none l <;> simp_all
    rw [hyes]
    simp

def fromM (l : List Arc) (n : Int) : List Arc := l.filter fun a => a.f == n
def cutM (l : List Arc) (n : Int) : List Arc := l.filter fun a => a.f != n && a.t != n
def endP (v : Int) (a : Arc) : Bool := a.f == v || a.t == v
def nodesM (l : List Arc) : List Int := ((List.range 65).map fun (i : Nat) => (i : Int)).filter fun v => l.any (endP v)
theorem nodesM_sorted (l : List Arc) : (nodesM l).Pairwise (· < ·) := by
  refine List.Pairwise.sublist List.filter_sublist ?_
  rw [List.pairwise_map]
  exact List.pairwise_lt_range.imp (fun h => by omega)
theorem nodesM_mem {l : List Arc} (hl : ∀ a ∈ l, AOk a) {v : Int} : v ∈ nodesM l ↔ ∃ a ∈ l, a.f = v ∨ a.t = v := by
  unfold nodesM endP
  rw [List.mem_filter]
  simp only [List.any_eq_true, Bool.or_eq_true, beq_iff_eq, List.mem_map, List.mem_range]
  refine ⟨fun h => h.2, fun h => ⟨?_, h⟩⟩
  obtain ⟨a, ha, e⟩ := h
  have hok := hl a ha
  unfold AOk at hok
  exact ⟨v.toNat, by omega, by omega⟩
theorem nodesM_len (l : List Arc) : (nodesM l).length ≤ 65 := by
  unfold nodesM
  refine Nat.le_trans (List.length_filter_le _ _) ?_
  simp
theorem nodesM_rng {l : List Arc} (hl : ∀ a ∈ l, AOk a) {v : Int} (h : v ∈ nodesM l) : 1 ≤ v ∧ v ≤ 64 := by
  obtain ⟨a, ha, e⟩ := (nodesM_mem hl).1 h
  have hok := hl a ha
  unfold AOk at hok
  omega

/- graph.From -/
set_option maxRecDepth 100000 in
set_option maxHeartbeats 400000 in
theorem graph_From {l : List Arc} {n : Int} (hl : l.length ≤ 1000000 := by omega) : Triple Try.prog 27 [.sl 3 (l.map arcC), .int n] [] (Own 36 3 ((if arcsB none l then fromM l n else []).map arcC) []) := by
  refine triple_of Try.func27 rfl (by kernel_rfl) rfl (by simp) ?_
  refine aSeq ?_
  refine aReg ?_
  refine sq ?_
  refine qBox rfl rfl (by decide) rfl rfl (fun b3 => ?_)
  refine sp pMa ?_
  refine oNil ?_
  refine aSeq ?_
  refine aReg ?_
  refine sp pM ?_
  refine sp (pFn rfl rfl) ?_
  refine oWeak (weak_deep (k := 6) (b := .fn (.func 116) [.sp [.int n]]) rfl (.cons (by repeat constructor) .nil) (.fn (.sp List.mem_cons_self Deep.refl (.row .nil)) (.row .nil))) ?_
  refine sa ?_
  first | refine coM rfl rfl rfl (graph_those (f := 116) (caps := [.sp [.int n]]) (fun x => graph_From1) hl) (fun g7 k7 => ?_) | refine co rfl rfl rfl (graph_those (f := 116) (caps := [.sp [.int n]]) (fun x => graph_From1) hl) (fun g7 k7 => ?_)
  refine sp pMa ?_
  refine oNil ?_
  refine aRet ?_
  refine finOwn rfl ?_
  rfl

/- graph.Cut -/
set_option maxRecDepth 100000 in
set_option maxHeartbeats 400000 in
theorem graph_Cut {l : List Arc} {n : Int} (hl : l.length ≤ 1000000 := by omega) : Triple Try.prog 28 [.sl 3 (l.map arcC), .int n] [] (Own 36 3 ((if arcsB none l then cutM l n else []).map arcC) []) := by
  refine triple_of Try.func28 rfl (by kernel_rfl) rfl (by simp) ?_
  refine aSeq ?_
  refine aReg ?_
  refine sq ?_
  refine qBox rfl rfl (by decide) rfl rfl (fun b3 => ?_)
  refine sp pMa ?_
  refine oNil ?_
  refine aSeq ?_
  refine aReg ?_
  refine sp pM ?_
  refine sp (pFn rfl rfl) ?_
  refine oWeak (weak_deep (k := 6) (b := .fn (.func 117) [.sp [.int n]]) rfl (.cons (by repeat constructor) .nil) (.fn (.sp List.mem_cons_self Deep.refl (.row .nil)) (.row .nil))) ?_
  refine sa ?_
  first | refine coM rfl rfl rfl (graph_those (f := 117) (caps := [.sp [.int n]]) (fun x => graph_Cut1) hl) (fun g7 k7 => ?_) | refine co rfl rfl rfl (graph_those (f := 117) (caps := [.sp [.int n]]) (fun x => graph_Cut1) hl) (fun g7 k7 => ?_)
  refine sp pMa ?_
  refine oNil ?_
  refine aRet ?_
  refine finOwn rfl ?_
  rfl

def NodeKeys (l : List Arc) (m : List (Int × Bool)) : Prop := (mKeys m).Nodup ∧ ∀ v, v ∈ mKeys m ↔ ∃ a ∈ l, a.f = v ∨ a.t = v
theorem NodeKeys.put {l : List Arc} {m : List (Int × Bool)} {a : Arc} {b c : Bool} (h : NodeKeys l m) : NodeKeys (l ++ [a]) (mPut (mPut m a.f b) a.t c) := by
  refine ⟨mPut_nodup (mPut_nodup h.1), fun v => ?_⟩
  rw [mPut_keys, mPut_keys, h.2]
  constructor
  · rintro (e | e | ⟨x, hx, e⟩)
    · exact ⟨a, by simp, .inr e.symm⟩
    · exact ⟨a, by simp, .inl e.symm⟩
    · exact ⟨x, by simp [hx], e⟩
  · rintro ⟨x, hx, e⟩
    rcases List.mem_append.1 hx with hx | hx
    · exact .inr (.inr ⟨x, hx, e⟩)
    · rw [List.mem_singleton.1 hx] at e
      rcases e with e | e
      · exact .inr (.inl e.symm)
      · exact .inl e.symm
theorem NodeKeys.sorted {l : List Arc} {m : List (Int × Bool)} (hl : ∀ a ∈ l, AOk a) (h : NodeKeys l m) : sortI (mKeys m) = nodesM l :=
  sortI_eq h.1 (nodesM_sorted l) (fun x => by rw [h.2, nodesM_mem hl])
theorem NodeKeys.len {l : List Arc} {m : List (Int × Bool)} (hl : ∀ a ∈ l, AOk a) (h : NodeKeys l m) : m.length ≤ 65 :=
  mLen h.1 (n := 65) (fun x hx => by have := nodesM_rng hl ((nodesM_mem hl).2 ((h.2 x).1 hx)); omega)

/- graph.Nodes -/
def graph_Nodes_r7_T : Bool × List (List Nat × List Nat) := (true, [([], []), ([], []), ([1], [1]), ([], []), ([], []), ([4], [4]), ([0, 2, 0, 1, 2], [0, 2]), ([3, 5, 6, 0, 1, 2, 3, 4, 5, 6], [3, 5])])
def graph_Nodes_r7_B : List Nat := [0, 0, 2, 0, 0, 16, 7, 127]
theorem graph_Nodes_r7_t : Go.Proofs.YtmcannmjielalaaW.PrintLast.rtab .any (Go.Proofs.YtmcannmjielalaaW.PrintLast.opsOf Try.f29 7) = graph_Nodes_r7_T := by kernel_rfl
theorem graph_Nodes_r7_b : Go.Proofs.YtmcannmjielalaaW.PrintLast.waitsOk graph_Nodes_r7_T.2 graph_Nodes_r7_B = true := by kernel_rfl
set_option maxRecDepth 100000 in
set_option maxHeartbeats 1000000 in
theorem graph_Nodes {l : List Arc} (hl : l.length ≤ 1000000 := by omega) : Triple Try.prog 29 [.sl 3 (l.map arcC)] [] (Own 3 1 ((if arcsB none l then nodesM l else []).map intA) []) := by
  refine triple_of Try.func29 rfl (by kernel_rfl) rfl (by simp) ?_
  refine aSeq ?_
  refine aReg ?_
  refine sp pMa ?_
  refine oNil ?_
  refine aSeq ?_
  refine aSeq ?_
  refine aReg ?_
  refine sp pM ?_
  refine sq ?_
  refine cv rfl rfl rfl (lents_refl _) graph_Check ?_
  refine sp pB ?_
  refine oNil ?_
  refine aCondNe rfl (fun c8 => ?_) (fun c8 => ?_)
  · skip
    refine aSeq ?_
    refine aWeak (weak_nil 3 1) ?_
    refine aReg ?_
    refine sp pMa ?_
    refine oNil ?_
    refine aRet ?_
    refine finOwn rfl ?_
    have hno : arcsB none l = false := by cases h : arcsB none l <;> simp_all
    rw [hno]
    rfl
  · skip
    refine aSkip ?_
    refine aSeq ?_
    have hyes : arcsB none l = true := by cases h : arcsB none l <;> simp_all
    have hok := arcs_ok hyes
    refine aReg ?_
    refine sq ?_
    refine qMM boA rfl (fun b9 => ?_)
    refine sp pMa ?_
    refine oNil ?_
    refine aSeq ?_
    refine aSeq ?_
    refine aReg ?_
    refine sp pM ?_
    refine sp (by first | exact pLm sl_22 | exact pLs sl_22) ?_
    refine sp pM ?_
    refine oNil ?_
    refine aBlock ?_
    refine loopF (α := Nat × List (Int × Bool)) (kept := [(3, _), (10, _), (11, _)]) (fun (i, m) => i ≤ l.length ∧ NodeKeys (l.take i) m) (fun (i, m) => [(12, .int i)]) (fun (i, m) => [.map b9 (kvM boA m)]) (fun (i, m) => l.length - i) (0, []) ?_ ⟨gInt rfl (by first | rfl | omega | simp), rfl, rfl, rfl, trivial⟩ (by repeat constructor) ?_
    · skip
      exact ⟨by omega, by simp [NodeKeys, mKeys]⟩
    · rintro ⟨i, m⟩ ⟨hi, hK⟩
      refine aSeq ?_
      refine aReg ?_
      refine sp pB ?_
      refine oNil ?_
      refine aSeq ?_
      refine aCondDec rfl (fun c13 => ?_) (fun c13 => ?_)
      · skip
        refine aSkip ?_
        refine aSeq ?_
        refine aBlock ?_
        refine aSeq ?_
        obtain ⟨a, ha⟩ : ∃ a, l[i]? = some a := ⟨_, List.getElem?_eq_getElem (by omega)⟩
        refine aReg ?_
        first | refine sp (pIx es_22) ?_ | (refine obtSN 10 12 rfl rfl (by omega) (fun x14 hx14 => ?_); refine sp (pIs es_22 hx14) ?_) | (refine obtS 10 12 rfl rfl (by omega) (by omega) (fun x14 hx14 => ?_); refine sp (pIs es_22 hx14) ?_) | refine sp (pIo es_22) ?_
        refine sr (by first | exact rSW ty_36 rfl | exact rSA ty_36) ?_
        refine sq ?_
        refine qAlloc rfl rfl (by decide) ze_36 rfl (fun b5 => ?_)
        refine sa ?_
        refine oStW rfl rfl rfl rfl (by repeat constructor) ty_36 ?_
        refine oNil ?_
        refine aDrawS (h1 := [.box b5 _]) graph_Nodes_r7_t graph_Nodes_r7_b [] 8 #[false, false, false, false, false, false, false, false] (by kernel_rfl) rfl rfl (by repeat constructor) (fun HT => ?_)
        refine ep HT 0 rfl pM ?_
        refine ep HT 1 rfl (pFb fd_36_0) ?_
        refine er HT 2 rfl (rB1 ty_3) ?_
        refine ep HT 3 rfl pM ?_
        refine ep HT 4 rfl (pFb fd_36_1) ?_
        refine er HT 5 rfl (rB1 ty_3) ?_
        refine eOneS (i := 6) #[true, true, true, true, true, true, true, false] rfl (HT.one (by kernel_rfl)) (by decide) ?_
        · skip
          refine stA (hx := [.map _ _]) (wantN rfl) (fun t ht => by cases ht <;> decide) (.cons (by repeat constructor) .nil) (by repeat constructor) ?_
          first | refine oMP rfl rfl rfl rfl mo_144 ?_ | refine oMapSet rfl rfl rfl rfl rfl (by repeat constructor) mo_144 ?_
          dsimp only [List.cons_append, List.nil_append]
          refine eOneS (i := 7) #[true, true, true, true, true, true, true, true] rfl (HT.one (by kernel_rfl)) (by decide) ?_
          · skip
            refine stA (hx := [.map _ _]) (wantN rfl) (fun t ht => by cases ht <;> decide) (.cons (by repeat constructor) .nil) (by repeat constructor) ?_
            first | refine oMP rfl rfl rfl rfl mo_144 ?_ | refine oMapSet rfl rfl rfl rfl rfl (by repeat constructor) mo_144 ?_
            dsimp only [List.cons_append, List.nil_append]
            refine eE HT ?_
            clear HT
            refine aReg ?_
            refine sp pAd ?_
            refine sp pM ?_
            refine oNil ?_
            refine ⟨(i + 1, _), ?_, by (try dsimp only); omega, ⟨gInt rfl (by first | rfl | omega | simp), rfl, rfl, rfl, trivial⟩, _, (by repeat constructor)⟩
            exact ⟨by omega, by rw [take_step ha]; exact hK.put⟩
      · skip
        rw [take_all (by omega)] at hK
        refine aExit rfl ?_
        refine aSeq ?_
        have hks := hK.sorted hok
        have hml := hK.len hok
        refine aReg ?_
        refine sp pM ?_
        refine sa ?_
        refine ca rfl rfl rfl (keys_mib b9) ?_
        rintro _ _ ⟨pb, rfl, rfl⟩
        refine sa ?_
        refine aCall (hin := _) (hfr := []) rfl rfl (by decide) rfl rfl tk_refl (sorted_int _ _ (kvM boA m) _ (keys1_mib_iter b9 pb (kvM boA m)) (by rw [kvM_len]; omega)) ?_
        rintro _ _ ⟨g, c, rfl, rfl⟩
        rw [kvM_keys, hks]
        refine sp pMa ?_
        refine oNil ?_
        refine aRet ?_
        refine finOwn rfl ?_
        rw [hyes]
        rfl

end A
end Go.Proofs.Ytmcannmjielalaa
