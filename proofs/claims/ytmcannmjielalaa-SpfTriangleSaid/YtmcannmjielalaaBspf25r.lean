/- What functions of the program compute: spf25r -/
import Derived.Test.YtmcannmjielalaaBheap23b
import Derived.Test.YtmcannmjielalaaProg
import Derived.KernelRfl
set_option linter.unusedVariables false
set_option linter.unusedSimpArgs false
namespace Go.Proofs.Ytmcannmjielalaa
namespace A

theorem ar_169 : arrOf Try.prog 169 = some (65, 1) := by kernel_rfl
theorem ar_170 : arrOf Try.prog 170 = some (65, 1) := by kernel_rfl
theorem fd_172_0 : fieldOf Try.prog 172 0 = some (0, 65, true) := by kernel_rfl
theorem fd_172_1 : fieldOf Try.prog 172 1 = some (65, 65, true) := by kernel_rfl
theorem ik_3 : intKindOf Try.prog 3 = some .i64 := by kernel_rfl
theorem ik_37 : intKindOf Try.prog 37 = some .u64 := by kernel_rfl
theorem st_172 : structPlaces Try.prog 172 = some [(0, 65), (65, 65)] := by kernel_rfl
theorem ty_172 : tyOf Try.prog 172 = some (130, true) := by kernel_rfl
theorem ty_4 : tyOf Try.prog 4 = some (1, false) := by kernel_rfl
theorem ze_172 : zeroOf Try.prog 172 = some (.agg #[.int .u64 0, .int .u64 0, .int .u64 0, .int .u64 0, .int .u64 0, .int .u64 0, .int .u64 0, .int .u64 0, .int .u64 0, .int .u64 0, .int .u64 0, .int .u64 0, .int .u64 0, .int .u64 0, .int .u64 0, .int .u64 0, .int .u64 0, .int .u64 0, .int .u64 0, .int .u64 0, .int .u64 0, .int .u64 0, .int .u64 0, .int .u64 0, .int .u64 0, .int .u64 0, .int .u64 0, .int .u64 0, .int .u64 0, .int .u64 0, .int .u64 0, .int .u64 0, .int .u64 0, .int .u64 0, .int .u64 0, .int .u64 0, .int .u64 0, .int .u64 0, .int .u64 0, .int .u64 0, .int .u64 0, .int .u64 0, .int .u64 0, .int .u64 0, .int .u64 0, .int .u64 0, .int .u64 0, .int .u64 0, .int .u64 0, .int .u64 0, .int .u64 0, .int .u64 0, .int .u64 0, .int .u64 0, .int .u64 0, .int .u64 0, .int .u64 0, .int .u64 0, .int .u64 0, .int .u64 0, .int .u64 0, .int .u64 0, .int .u64 0, .int .u64 0, .int .u64 0, .bool false, .bool false, .bool false, .bool false, .bool false, .bool false, .bool false, .bool false, .bool false, .bool false, .bool false, .bool false, .bool false, .bool false, .bool false, .bool false, .bool false, .bool false, .bool false, .bool false, .bool false, .bool false, .bool false, .bool false, .bool false, .bool false, .bool false, .bool false, .bool false, .bool false, .bool false, .bool false, .bool false, .bool false, .bool false, .bool false, .bool false, .bool false, .bool false, .bool false, .bool false, .bool false, .bool false, .bool false, .bool false, .bool false, .bool false, .bool false, .bool false, .bool false, .bool false, .bool false, .bool false, .bool false, .bool false, .bool false, .bool false, .bool false, .bool false, .bool false, .bool false, .bool false, .bool false, .bool false, .bool false]) := by kernel_rfl
def rtC (r : Rt) : List AV := [.int r.nd, .int r.via, .v (.int .u64 r.c)]
abbrev rtA (r : Rt) : AV := .agg (rtC r)
def distC (s : DS) : List AV := arrF 65 (fun x => [u64A x]) s.2 ++ arrF 65 (fun x => [boA x]) s.1
theorem distC_len2 (f : Int → Bool) (d : Int → Int) : (arrF 65 (fun x => [u64A x]) d ++ arrF 65 (fun x => [boA x]) f).length = 130 := by rw [List.length_append, arrF_len one_len, arrF_len one_len]
theorem distC_len (s : DS) : (distC s).length = 130 := distC_len2 s.1 s.2
theorem distC_one (s : DS) : oneOf (.agg (distC s)) = true := by rfl
theorem rnd_none {l : List Arc} {s : DS} (h : s.1 = fun _ => false) : rndD l s = s := by
  have key : ∀ (m : List Arc), m.foldl rlx s = s := fun m => by
    induction m with
    | nil => rfl
    | cons a m ih => rw [List.foldl_cons, show rlx s a = s by unfold rlx; rw [h]; simp]; exact ih
  exact key l
theorem add_far {a b : Int} (h : a + b ≤ 18446744073709551615) : addS a b = a + b := by unfold addS farI; rw [if_neg (by omega)]

/- waymarkref22.Add -/
set_option maxRecDepth 100000 in
set_option maxHeartbeats 1000000 in
theorem ref22_Add {a b : Int} (ha : 0 ≤ a) (hb : 0 ≤ b) (ha2 : a ≤ 18446744073709551615) (hb2 : b ≤ 18446744073709551615) : Triple Try.prog 47 [.v (.int .u64 a), .v (.int .u64 b)] [] (Is (.v (.int .u64 (addS a b))) []) := by
  have e1 : a.tmod 4294967296 = a % 4294967296 := Int.tmod_eq_emod_of_nonneg ha
  have e2 : b.tmod 4294967296 = b % 4294967296 := Int.tmod_eq_emod_of_nonneg hb
  have e3 : a.tdiv 4294967296 = a / 4294967296 := Int.tdiv_eq_ediv_of_nonneg ha
  have e4 : b.tdiv 4294967296 = b / 4294967296 := Int.tdiv_eq_ediv_of_nonneg hb
  refine triple_of Try.func47 rfl (by kernel_rfl) rfl (by simp) ?_
  refine aSeq ?_
  refine aReg ?_
  refine sp pMa ?_
  refine oNil ?_
  refine aSeq ?_
  refine aReg ?_
  refine sp pM ?_
  refine sp (pRem rfl rfl rfl (by first | decide | omega)) ?_
  rw [e1]
  refine sp pM ?_
  refine sp (pRem rfl rfl rfl (by first | decide | omega)) ?_
  rw [e2]
  refine sp (by first | exact pAdK | exact pB) ?_
  refine sp pMa ?_
  refine oNil ?_
  refine aSeq ?_
  refine aReg ?_
  refine sp pM ?_
  refine sp (pQuo rfl rfl rfl (by first | decide | omega)) ?_
  rw [e3, wrap_u64 (by omega) (by omega)]
  refine sp pM ?_
  refine sp (pQuo rfl rfl rfl (by first | decide | omega)) ?_
  rw [e4, wrap_u64 (by omega) (by omega)]
  refine sp (by first | exact pAdK | exact pB) ?_
  refine sp pM ?_
  refine sp (pQuo rfl rfl rfl (by first | decide | omega)) ?_
  rw [Int.tdiv_eq_ediv_of_nonneg (by omega), wrap_u64 (by omega) (by omega)]
  refine sp (by first | exact pAdK | exact pB) ?_
  refine sp pMa ?_
  refine oNil ?_
  refine aSeq ?_
  refine aSeq ?_
  refine aReg ?_
  refine sp pM ?_
  refine sp pB ?_
  refine oNil ?_
  refine aCondDec rfl (fun c21 => ?_) (fun c21 => ?_)
  · skip
    refine aSeq ?_
    refine aReg ?_
    refine sp pMa ?_
    refine oNil ?_
    refine aRet ?_
    refine finIs rfl ?_
    show AV.v _ = AV.v _
    unfold addS farI
    rw [if_pos (by omega)]
  · skip
    refine aSkip ?_
    refine aSeq ?_
    refine aReg ?_
    refine sp pM ?_
    refine sp (by first | exact pMuK | exact pB) ?_
    refine sp pM ?_
    refine sp (pRem rfl rfl rfl (by first | decide | omega)) ?_
    rw [Int.tmod_eq_emod_of_nonneg (by omega)]
    refine sp (by first | exact pAdK | exact pB) ?_
    refine sp pMa ?_
    refine oNil ?_
    refine aRet ?_
    refine finIs rfl ?_
    show AV.v _ = AV.v _
    unfold addS farI
    rw [if_neg (by omega)]
    congr 2
    omega

/- waymarkref25.From -/
def ref25_From_r13_T : Bool × List (List Nat × List Nat) := (true, [([], []), ([0], [0]), ([], []), ([2, 1], [1, 2]), ([3], [3]), ([], []), ([5], [5]), ([6], [6]), ([4, 7], [4, 7]), ([8, 8, 0, 1, 2, 3, 4, 5, 6, 7, 8], [8])])
def ref25_From_r13_B : List Nat := [0, 1, 0, 7, 15, 0, 32, 96, 255, 511]
theorem ref25_From_r13_t : Go.Proofs.YtmcannmjielalaaW.PrintLast.rtab .any (Go.Proofs.YtmcannmjielalaaW.PrintLast.opsOf Try.f129 13) = ref25_From_r13_T := by kernel_rfl
theorem ref25_From_r13_b : Go.Proofs.YtmcannmjielalaaW.PrintLast.waitsOk ref25_From_r13_T.2 ref25_From_r13_B = true := by kernel_rfl
set_option maxRecDepth 100000 in
set_option maxHeartbeats 2000000 in
theorem ref25_From {l : List Arc} {r : Int} (hl : l.length ≤ 1000000) (hok : ∀ a ∈ l, AOk a) : Triple Try.prog 129 [.sl 3 (l.map arcC), .int r] [] (Is (.agg (distC (bfD l r))) []) := by
  refine triple_ofR Try.func129 rfl (by kernel_rfl) rfl (by simp) ?_
  refine aSeq ?_
  refine aReg ?_
  refine sq ?_
  refine qAlloc rfl rfl (by decide) ze_172 rfl (fun b4 => ?_)
  refine oNil ?_
  refine aSeq ?_
  refine aReg ?_
  refine sp (pBuild rfl st_172 ze_172 rfl rfl rfl rfl) ?_
  refine sq ?_
  refine qAlloc rfl rfl (by decide) ze_172 rfl (fun b5 => ?_)
  refine sa ?_
  refine oStW rfl rfl rfl rfl (by repeat constructor) ty_172 ?_
  refine oNil ?_
  refine aSeq ?_
  refine aSeq ?_
  refine aWeak (weak_box (b := b5) (cs' := arrF 65 (fun x => [u64A x]) (fun _ => 0) ++ arrF 65 (fun x => [boA x]) (fun _ => false)) (by repeat constructor) (by kernel_rfl)) ?_
  refine aReg ?_
  refine sp pM ?_
  refine sp pB ?_
  refine sp pM ?_
  refine oSplitDec 14 rfl (fun c14 => ?_) (fun c14 => ?_)
  · skip
    refine gf ?_
    refine gf ?_
    refine sp pK ?_
    refine oNil ?_
    refine aCondT rfl ?_
    refine aSeq ?_
    refine aReg ?_
    refine sr (rBW ty_172 (hn := distC_len2 _ _)) ?_
    refine sa ?_
    refine oStW (av := .agg (arrF 65 (fun x => [u64A x]) _ ++ arrF 65 (fun x => [boA x]) _)) (hn := distC_len2 _ _) rfl rfl rfl rfl (by repeat constructor) ty_172 ?_
    refine oNil ?_
    refine aRet ?_
    refine finRIs (l := [.agg (arrF 65 (fun x => [u64A x]) (fun _ => 0) ++ arrF 65 (fun x => [boA x]) (fun _ => false))]) (.cons (.cellA rfl (by repeat (first | exact List.mem_cons_self | apply List.mem_cons_of_mem)) (by rw [distC_len2]; exact ty_172)) .nil) ?_
    have hno : bfD l r = (fun _ => false, fun _ => 0) := by
      unfold bfD
      rw [satD_fix]
      · unfold ini; rw [if_neg (by omega)]
      · exact rnd_none (by unfold ini; rw [if_neg (by omega)])
    rw [hno]
    rfl
  · skip
    refine gp pM ?_
    refine gp pB ?_
    refine sp pK ?_
    refine oNil ?_
    refine aCondDec rfl (fun c17 => ?_) (fun c17 => ?_)
    · skip
      refine aSeq ?_
      refine aReg ?_
      refine sr (rBW ty_172 (hn := distC_len2 _ _)) ?_
      refine sa ?_
      refine oStW (av := .agg (arrF 65 (fun x => [u64A x]) _ ++ arrF 65 (fun x => [boA x]) _)) (hn := distC_len2 _ _) rfl rfl rfl rfl (by repeat constructor) ty_172 ?_
      refine oNil ?_
      refine aRet ?_
      refine finRIs (l := [.agg (arrF 65 (fun x => [u64A x]) (fun _ => 0) ++ arrF 65 (fun x => [boA x]) (fun _ => false))]) (.cons (.cellA rfl (by repeat (first | exact List.mem_cons_self | apply List.mem_cons_of_mem)) (by rw [distC_len2]; exact ty_172)) .nil) ?_
      have hno : bfD l r = (fun _ => false, fun _ => 0) := by
        unfold bfD
        rw [satD_fix]
        · unfold ini; rw [if_neg (by omega)]
        · exact rnd_none (by unfold ini; rw [if_neg (by omega)])
      rw [hno]
      rfl
    · skip
      refine aSkip ?_
      refine aSeq ?_
      refine aReg ?_
      refine sp pM ?_
      refine sp (pFb fd_172_1) ?_
      refine sp (pIa ar_170) ?_
      refine sa ?_
      first | refine oAr rfl rfl rfl (by repeat constructor) ty_4 ?_ | refine oArL rfl rfl rfl (by repeat constructor) ty_4 ?_ | refine oArR rfl rfl rfl (by repeat constructor) (by first | rfl | exact arrF_len one_len) ty_4 ?_ | refine oStB rfl rfl rfl rfl (by repeat constructor) ty_4 rfl (Nat.le_of_ble_eq_true rfl) rfl ?_
      refine oNil ?_
      refine aSeq ?_
      refine aSeq ?_
      refine aReg ?_
      refine sp pMa ?_
      refine oNil ?_
      refine aBlock ?_
      refine loopF (α := Nat × (Int → Int) × (Int → Bool)) (kept := [(0, _), (4, _), (5, _)]) (fun (q, d, f) => q ≤ 65 ∧ satD l (65 - q) (f, d) = bfD l r ∧ Bd (q * l.length) (f, d)) (fun (q, d, f) => [(6, .int q)]) (fun (q, d, f) => [.box b5 (arrF 65 (fun x => [u64A x]) d ++ arrF 65 (fun x => [boA x]) f)]) (fun (q, d, f) => 65 - q) (0, fun _ => 0, updF (fun _ => false) r true) ?_ ⟨gInt rfl (by first | rfl | omega | simp), rfl, rfl, rfl, trivial⟩ (by repeat constructor) ?_
      · skip
        exact ⟨by omega, by show _ = satD l 65 (ini r); unfold ini; rw [if_pos (by omega)], fun v => ⟨Int.le_refl _, by simp⟩⟩
      · rintro ⟨q, d, f⟩ ⟨hq, hsat, hbd0⟩
        refine aSeq ?_
        refine aSeq ?_
        refine aReg ?_
        refine sp pM ?_
        refine sp pB ?_
        refine oNil ?_
        refine aCondDec rfl (fun c23 => ?_) (fun c23 => ?_)
        · skip
          refine aSkip ?_
          refine aSeq ?_
          refine aBlock ?_
          refine aSeq ?_
          refine aReg ?_
          refine sp pMa ?_
          refine oNil ?_
          refine aSeq ?_
          refine aSeq ?_
          refine aReg ?_
          refine sp pMa ?_
          refine oNil ?_
          refine aBlock ?_
          refine loopF (α := Nat × (Int → Int) × (Int → Bool) × Bool) (kept := [(0, _), (4, _), (5, _), (6, _)]) (fun (i, e', g', t) => i ≤ l.length ∧ (l.drop i).foldl rlx (g', e') = rndD l (f, d) ∧ (t = false → (g', e') = (f, d)) ∧ Bd (q * l.length + i) (g', e')) (fun (i, e', g', t) => [(8, .int i), (7, .v (.bool t))]) (fun (i, e', g', t) => [.box b5 (arrF 65 (fun x => [u64A x]) e' ++ arrF 65 (fun x => [boA x]) g')]) (fun (i, e', g', t) => l.length - i) (0, d, f, false) ?_ ⟨gInt rfl (by first | rfl | omega | simp), rfl, rfl, rfl, rfl, rfl, trivial⟩ (by repeat constructor) ?_
          · skip
            exact ⟨by omega, rfl, fun _ => rfl, hbd0⟩
          · rintro ⟨i, e', g', t⟩ ⟨hi, hv, hch, hbd⟩
            refine aSeq ?_
            refine aSeq ?_
            refine aReg ?_
            refine sp pM ?_
            refine sp pM ?_
            refine sp (by first | exact pLm sl_22 | exact pLs sl_22) ?_
            refine sp pB ?_
            refine oNil ?_
            refine aCondDec rfl (fun c29 => ?_) (fun c29 => ?_)
            · skip
              refine aSkip ?_
              refine aSeq ?_
              refine aBlock ?_
              refine aSeq ?_
              obtain ⟨x, hx⟩ : ∃ a, l[i]? = some a := ⟨_, List.getElem?_eq_getElem (by omega)⟩
              have hxk := hok x (List.mem_of_getElem? hx)
              unfold AOk at hxk
              have hbx := hbd x.f
              simp only at hbx
              have hqi : q * l.length + i ≤ 66000000 := by have := Nat.mul_le_mul_right l.length (show q ≤ 64 by omega); omega
              refine aReg ?_
              refine sp pM ?_
              refine sp pM ?_
              first | refine sp (pIx es_22) ?_ | (refine obtSN 32 33 rfl rfl (by omega) (fun x34 hx34 => ?_); refine sp (pIs es_22 hx34) ?_) | (refine obtS 32 33 rfl rfl (by omega) (by omega) (fun x34 hx34 => ?_); refine sp (pIs es_22 hx34) ?_) | refine sp (pIo es_22) ?_
              refine sr (by first | exact rSW ty_36 rfl | exact rSA ty_36) ?_
              refine sq ?_
              refine qAlloc rfl rfl (by decide) ze_36 rfl (fun b9 => ?_)
              refine sa ?_
              refine oStW rfl rfl rfl rfl (by repeat constructor) ty_36 ?_
              refine oNil ?_
              refine aSeq ?_
              refine aDrawT ref25_From_r13_t ref25_From_r13_b [] 10 #[false, false, false, false, false, false, false, false, false, false] (by kernel_rfl) rfl rfl (fun HT => ?_)
              refine dp HT 0 rfl (pFb fd_36_0) ?_
              refine dr HT 1 rfl (rB1 ty_3) ?_
              refine dp HT 2 rfl (pFb fd_172_0) ?_
              refine dp HT 3 rfl (pIa ar_169) ?_
              refine dr HT 4 rfl (by first | exact rAr ty_37 | exact rArL ty_37 | exact rArR2 ty_37 | exact rB1 ty_37) ?_
              refine dp HT 5 rfl (pFb fd_36_2) ?_
              refine dr HT 6 rfl (rB1 ty_3) ?_
              refine dp HT 7 rfl (by first | exact pCvK ik_3 ik_37 | exact pConv rfl rfl ik_3 ik_37 rfl) ?_
              refine dGo ?_
              refine e1 HT 8 rfl ?_
              refine cv rfl rfl rfl (lents_refl _) (ref22_Add (by omega) (by omega) (by omega) (by omega)) ?_
              rw [add_far (by omega)]
              refine ef HT 9 rfl pMa ?_
              refine eE HT ?_
              clear HT
              refine aSeq ?_
              refine aReg ?_
              refine sp (pFb fd_36_0) ?_
              refine sr (rB1 ty_3) ?_
              refine sp (pFb fd_172_1) ?_
              refine sp (pIa ar_170) ?_
              refine sr (by first | exact rAr ty_4 | exact rArL ty_4 | exact rArR2 ty_4 | exact rB1 ty_4) ?_
              refine sp pM ?_
              refine oSplit 50 rfl (fun c50 => ?_) (fun c50 => ?_)
              · skip
                refine gp (pFb fd_36_1) ?_
                refine gr (rB1 ty_3) ?_
                refine gp (pFb fd_172_1) ?_
                refine gp (pIa ar_170) ?_
                refine gr (by first | exact rAr ty_4 | exact rArL ty_4 | exact rArR2 ty_4 | exact rB1 ty_4) ?_
                refine gp pNo ?_
                refine gp pM ?_
                refine oSplitNot 57 rfl (fun c57 => ?_) (fun c57 => ?_)
                · skip
                  refine gf ?_
                  refine gf ?_
                  refine gf ?_
                  refine gf ?_
                  refine gf ?_
                  refine gf ?_
                  refine gf ?_
                  refine gp pK ?_
                  refine sp pK ?_
                  refine oNil ?_
                  refine aCondT rfl ?_
                  refine aSeq ?_
                  refine aReg ?_
                  refine sp (pFb fd_36_1) ?_
                  refine sr (rB1 ty_3) ?_
                  refine sp (pFb fd_172_1) ?_
                  refine sp (pIa ar_170) ?_
                  refine sa ?_
                  first | refine oAr rfl rfl rfl (by repeat constructor) ty_4 ?_ | refine oArL rfl rfl rfl (by repeat constructor) ty_4 ?_ | refine oArR rfl rfl rfl (by repeat constructor) (by first | rfl | exact arrF_len one_len) ty_4 ?_ | refine oStB rfl rfl rfl rfl (by repeat constructor) ty_4 rfl (Nat.le_of_ble_eq_true rfl) rfl ?_
                  refine oNil ?_
                  refine aSeq ?_
                  refine aReg ?_
                  refine sp (pFb fd_36_1) ?_
                  refine sr (rB1 ty_3) ?_
                  refine sp pM ?_
                  refine sp (pFb fd_172_0) ?_
                  refine sp (pIa ar_169) ?_
                  refine sa ?_
                  first | refine oAr rfl rfl rfl (by repeat constructor) ty_37 ?_ | refine oArL rfl rfl rfl (by repeat constructor) ty_37 ?_ | refine oArR rfl rfl rfl (by repeat constructor) (by first | rfl | exact arrF_len one_len) ty_37 ?_ | refine oStB rfl rfl rfl rfl (by repeat constructor) ty_37 rfl (Nat.le_of_ble_eq_true rfl) rfl ?_
                  refine oNil ?_
                  refine aReg ?_
                  refine sp pMa ?_
                  refine oNil ?_
                  refine aReg ?_
                  refine sp pM ?_
                  refine sp pAd ?_
                  refine sp pMa ?_
                  refine oNil ?_
                  refine ⟨(i + 1, _, _, _), ?_, by (try dsimp only); omega, ⟨gInt rfl (by first | rfl | omega | simp), rfl, rfl, rfl, rfl, rfl, trivial⟩, _, (by repeat constructor)⟩
                  rw [drop_step hx, List.foldl_cons] at hv
                  have hb1 := rlx_bd (a := x) (by unfold AOk; omega) hbd
                  rw [show q * l.length + i + 1 = q * l.length + (i + 1) by omega] at hb1
                  first
                    | (have hr : rlx (g', e') x = (g', e') := by unfold rlx; rw [if_neg (by simp_all)]
                       rw [hr] at hv hb1
                       exact ⟨by omega, hv, hch, hb1⟩)
                    | (have hr : rlx (g', e') x = (updF g' x.t true, updF e' x.t (e' x.f + x.c)) := by unfold rlx; rw [if_pos (by simp_all)]
                       rw [hr] at hv hb1
                       exact ⟨by omega, hv, fun h => by (first | cases h | simp_all), hb1⟩)
                · skip
                  refine gp pM ?_
                  refine gp (pFb fd_36_1) ?_
                  refine gr (rB1 ty_3) ?_
                  refine gp (pFb fd_172_0) ?_
                  refine gp (pIa ar_169) ?_
                  refine gr (by first | exact rAr ty_37 | exact rArL ty_37 | exact rArR2 ty_37 | exact rB1 ty_37) ?_
                  refine gp pB ?_
                  refine gp pK ?_
                  refine sp pK ?_
                  refine oNil ?_
                  refine aCondDec rfl (fun c66 => ?_) (fun c66 => ?_)
                  · skip
                    refine aSeq ?_
                    refine aReg ?_
                    refine sp (pFb fd_36_1) ?_
                    refine sr (rB1 ty_3) ?_
                    refine sp (pFb fd_172_1) ?_
                    refine sp (pIa ar_170) ?_
                    refine sa ?_
                    first | refine oAr rfl rfl rfl (by repeat constructor) ty_4 ?_ | refine oArL rfl rfl rfl (by repeat constructor) ty_4 ?_ | refine oArR rfl rfl rfl (by repeat constructor) (by first | rfl | exact arrF_len one_len) ty_4 ?_ | refine oStB rfl rfl rfl rfl (by repeat constructor) ty_4 rfl (Nat.le_of_ble_eq_true rfl) rfl ?_
                    refine oNil ?_
                    refine aSeq ?_
                    refine aReg ?_
                    refine sp (pFb fd_36_1) ?_
                    refine sr (rB1 ty_3) ?_
                    refine sp pM ?_
                    refine sp (pFb fd_172_0) ?_
                    refine sp (pIa ar_169) ?_
                    refine sa ?_
                    first | refine oAr rfl rfl rfl (by repeat constructor) ty_37 ?_ | refine oArL rfl rfl rfl (by repeat constructor) ty_37 ?_ | refine oArR rfl rfl rfl (by repeat constructor) (by first | rfl | exact arrF_len one_len) ty_37 ?_ | refine oStB rfl rfl rfl rfl (by repeat constructor) ty_37 rfl (Nat.le_of_ble_eq_true rfl) rfl ?_
                    refine oNil ?_
                    refine aReg ?_
                    refine sp pMa ?_
                    refine oNil ?_
                    refine aReg ?_
                    refine sp pM ?_
                    refine sp pAd ?_
                    refine sp pMa ?_
                    refine oNil ?_
                    refine ⟨(i + 1, _, _, _), ?_, by (try dsimp only); omega, ⟨gInt rfl (by first | rfl | omega | simp), rfl, rfl, rfl, rfl, rfl, trivial⟩, _, (by repeat constructor)⟩
                    rw [drop_step hx, List.foldl_cons] at hv
                    have hb1 := rlx_bd (a := x) (by unfold AOk; omega) hbd
                    rw [show q * l.length + i + 1 = q * l.length + (i + 1) by omega] at hb1
                    first
                      | (have hr : rlx (g', e') x = (g', e') := by unfold rlx; rw [if_neg (by simp_all)]
                         rw [hr] at hv hb1
                         exact ⟨by omega, hv, hch, hb1⟩)
                      | (have hr : rlx (g', e') x = (updF g' x.t true, updF e' x.t (e' x.f + x.c)) := by unfold rlx; rw [if_pos (by simp_all)]
                         rw [hr] at hv hb1
                         exact ⟨by omega, hv, fun h => by (first | cases h | simp_all), hb1⟩)
                  · skip
                    refine aSkip ?_
                    refine aReg ?_
                    refine sp pM ?_
                    refine sp pAd ?_
                    refine sp pMa ?_
                    refine oNil ?_
                    refine ⟨(i + 1, _, _, _), ?_, by (try dsimp only); omega, ⟨gInt rfl (by first | rfl | omega | simp), rfl, rfl, rfl, rfl, rfl, trivial⟩, _, (by repeat constructor)⟩
                    rw [drop_step hx, List.foldl_cons] at hv
                    have hb1 := rlx_bd (a := x) (by unfold AOk; omega) hbd
                    rw [show q * l.length + i + 1 = q * l.length + (i + 1) by omega] at hb1
                    first
                      | (have hr : rlx (g', e') x = (g', e') := by unfold rlx; rw [if_neg (by simp_all)]
                         rw [hr] at hv hb1
                         exact ⟨by omega, hv, hch, hb1⟩)
                      | (have hr : rlx (g', e') x = (updF g' x.t true, updF e' x.t (e' x.f + x.c)) := by unfold rlx; rw [if_pos (by simp_all)]
                         rw [hr] at hv hb1
                         exact ⟨by omega, hv, fun h => by (first | cases h | simp_all), hb1⟩)
              · skip
                refine gf ?_
                refine gf ?_
                refine gf ?_
                refine gf ?_
                refine gf ?_
                refine gf ?_
                refine gf ?_
                refine gf ?_
                refine gf ?_
                refine gf ?_
                refine gf ?_
                refine gf ?_
                refine gf ?_
                refine gf ?_
                refine gf ?_
                refine sp pK ?_
                refine oNil ?_
                refine aCondF rfl ?_
                refine aSkip ?_
                refine aReg ?_
                refine sp pM ?_
                refine sp pAd ?_
                refine sp pMa ?_
                refine oNil ?_
                refine ⟨(i + 1, _, _, _), ?_, by (try dsimp only); omega, ⟨gInt rfl (by first | rfl | omega | simp), rfl, rfl, rfl, rfl, rfl, trivial⟩, _, (by repeat constructor)⟩
                rw [drop_step hx, List.foldl_cons] at hv
                have hb1 := rlx_bd (a := x) (by unfold AOk; omega) hbd
                rw [show q * l.length + i + 1 = q * l.length + (i + 1) by omega] at hb1
                first
                  | (have hr : rlx (g', e') x = (g', e') := by unfold rlx; rw [if_neg (by simp_all)]
                     rw [hr] at hv hb1
                     exact ⟨by omega, hv, hch, hb1⟩)
                  | (have hr : rlx (g', e') x = (updF g' x.t true, updF e' x.t (e' x.f + x.c)) := by unfold rlx; rw [if_pos (by simp_all)]
                     rw [hr] at hv hb1
                     exact ⟨by omega, hv, fun h => by (first | cases h | simp_all), hb1⟩)
            · skip
              refine aExit rfl ?_
              refine aSeq ?_
              refine aReg ?_
              refine sp pM ?_
              refine sp pNo ?_
              refine oNil ?_
              refine aCondNot rfl (fun c77 => ?_) (fun c77 => ?_)
              · skip
                refine aSeq ?_
                refine aReg ?_
                refine sr (rBW ty_172 (hn := distC_len2 _ _)) ?_
                refine sa ?_
                refine oStW (av := .agg (arrF 65 (fun x => [u64A x]) _ ++ arrF 65 (fun x => [boA x]) _)) (hn := distC_len2 _ _) rfl rfl rfl rfl (by repeat constructor) ty_172 ?_
                refine oNil ?_
                refine aRet ?_
                refine finRIs (l := [.agg (arrF 65 (fun x => [u64A x]) e' ++ arrF 65 (fun x => [boA x]) g')]) (.cons (.cellA rfl (by repeat (first | exact List.mem_cons_self | apply List.mem_cons_of_mem)) (by rw [distC_len2]; exact ty_172)) .nil) ?_
                obtain rfl : i = l.length := by omega
                rw [List.drop_of_length_le (by omega)] at hv
                have h1 := hch (by assumption)
                have h2 : (g', e') = rndD l (f, d) := hv
                rw [h1] at h2
                rw [satD_fix h2.symm] at hsat
                rw [← hsat, ← h1]
                rfl
              · skip
                refine aSkip ?_
                refine aReg ?_
                refine sp pM ?_
                refine sp pAd ?_
                refine sp pMa ?_
                refine oNil ?_
                refine ⟨(q + 1, _, _), ?_, by (try dsimp only); omega, ⟨gInt rfl (by first | rfl | omega | simp), rfl, rfl, rfl, trivial⟩, _, (by repeat constructor)⟩
                obtain rfl : i = l.length := by omega
                rw [List.drop_of_length_le (by omega)] at hv
                have hv2 : (g', e') = rndD l (f, d) := hv
                refine ⟨by omega, ?_, ?_⟩
                · rw [hv2, ← hsat, show 65 - q = (65 - (q + 1)) + 1 by omega]; rfl
                · rw [Nat.add_mul, Nat.one_mul]; exact hbd
        · skip
          refine aExit rfl ?_
          refine aSeq ?_
          refine aReg ?_
          refine sr (rBW ty_172 (hn := distC_len2 _ _)) ?_
          refine sa ?_
          refine oStW (av := .agg (arrF 65 (fun x => [u64A x]) _ ++ arrF 65 (fun x => [boA x]) _)) (hn := distC_len2 _ _) rfl rfl rfl rfl (by repeat constructor) ty_172 ?_
          refine oNil ?_
          refine aRet ?_
          refine finRIs (l := [.agg (arrF 65 (fun x => [u64A x]) d ++ arrF 65 (fun x => [boA x]) f)]) (.cons (.cellA rfl (by repeat (first | exact List.mem_cons_self | apply List.mem_cons_of_mem)) (by rw [distC_len2]; exact ty_172)) .nil) ?_
          rw [show 65 - q = 0 by omega] at hsat
          rw [← hsat]
          rfl

end A
end Go.Proofs.Ytmcannmjielalaa
