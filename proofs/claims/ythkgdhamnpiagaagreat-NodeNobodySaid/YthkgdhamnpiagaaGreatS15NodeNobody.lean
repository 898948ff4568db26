/- Texts that NodeNobody's proof rests on, part 16. -/
import Derived.Lib.Overlaps
import Derived.Test.YthkgdhamnpiagaaGreatS14NodeNobody
set_option linter.unusedVariables false
set_option linter.unusedSimpArgs false
namespace Go.Proofs.YthkgdhamnpiagaaGreat
namespace A
variable {P : Program} {N : Nat} {env : Env} {h : List HA} {K : Cont} {X : List (Nat × Cont)} {Rt : Cont}
theorem oOverl {o : Oper} {d b bv c cv q L cp m by_ sz : Nat} {f : FuncId} {fn : Func} {x y : Operand} {ts : Array TypeId} {tS tR e : TypeId} {vs es : List (List AV)} {h' : List HA} (hd : o.dst = some d) (hN : d < N) (hx : ev env x = some (.v (slV (some bv) m cv))) (hy : ev env y = some (.v (.slice (some ⟨b, q, none⟩) L cp)))
   (hs : Tk h [.sl (some bv) cv e sz vs, .sl (some b) c e sz es] h') (hf : P.funcs[f]? = some fn) (hname : (fn.name == "runtime.NumGoroutine") = false) (hb : fn.body.isNone = true) (hn : Extern.findNext fn = none) (he : Extern.find fn = some (Extern.SlicesOverlaps.overlaps #[tS, tS] #[tR])) (ht : elemOf P tS = some (e, sz, by_)) (hc : 0 < c)
   (hk : K ((d, .v (.bool false)) :: env) h) (ho : o.op = .call ⟨.value (.func f), #[x, y], ts⟩ := by rfl) : AOp P N o env h K := by
 intro B F a w Q s ex hdef
 obtain ⟨hu, i, z, hi, hzz, hisz, hzs, h0, hby⟩ := elemOf_spec ht
 have hxv := s.ev hx
 have hyv := s.ev hy
 generalize hv : a.eval x = vx at hxv
 generalize hv2 : a.eval y = vy at hyv
 cases hxv
 cases hyv
 have r1 := s.r.perm hs.perm
 obtain ⟨cur, hg, hnc, hcm, hcs, _⟩ := row_of (r1.rep (.sl (some b) c e sz es) (by simp))
 obtain ⟨curv, hgv, hncv, hcmv, hcsv, _⟩ := row_of (r1.rep (.sl (some bv) cv e sz vs) (by simp))
 have hnd := r1.nd
 have hne : bv ≠ b := by
   intro e1
   subst e1
   simp [owns, HA.own] at hnd
 have hpos : cur.size ≠ 0 := by rw [hcs]; exact Nat.mul_ne_zero (by omega) (by omega)
 have hov := Lib.run_overlaps_apart (P := P) w tS tR e hu sz (fun w' => by simp [sizeOf, typeInfo, hi, hisz]) ⟨bv, 0, none⟩ ⟨b, q, none⟩ m cv L cp hne e e curv.size cur.size (by simp [World.shape?, hgv]) (by simp [World.shape?, hg]) hpos (by simp [World.frozen?, hgv]) (by simp [World.frozen?, hgv])
 have hrun : (execOp a.eval o).run P w = .ok (.value (.bool false)) w := by
   simp only [execOp, ho, resolve, Sem.run_bind, Sem.run_pure, Result.andThen_ok, invoke, builtin]
   simp only [List.map_toArray, List.map_cons, List.map_nil, hv, hv2, slV, Option.map_some]
   simp [Deferred.ofValue, Act.eval, run_callFunc_extern hf hname hb hn he, hov]
 unfold Oper.wp
 rw [hrun, Oper.upon_value, hd]
 exact ⟨hdef, F, _, _, hk, s.put (.refl F h w) s.r hN (.v _), ex⟩
end A
end Go.Proofs.YthkgdhamnpiagaaGreat
namespace Go.Proofs.YthkgdhamnpiagaaGreat
namespace A
theorem tailV_at {b n c i sz : Nat} (h : c ≠ i) : tailV (some b) n c i sz = .slice (some ⟨b, i * sz, none⟩) (n - i) (c - i) := by
 unfold tailV
 rw [if_neg h]
 rfl
theorem ins_shift {α : Type} {l : List (List α)} {x : List α} {i : Nat} (hi : i < l.length) : ((l.take (i + 1) ++ (l.drop i).take (l.length - i) ++ l.drop (i + 1 + ((l.drop i).take (l.length - i)).length)).take i ++ [x] ++ (l.take (i + 1) ++ (l.drop i).take (l.length - i) ++ l.drop (i + 1 + ((l.drop i).take (l.length - i)).length)).drop (i + [x].length)) = l.take i ++ x :: l.drop i := by
 have e1 : (l.drop i).take (l.length - i) = l.drop i := List.take_of_length_le (by rw [List.length_drop]; omega)
 have hl : (l.take (i + 1)).length = i + 1 := by rw [List.length_take]; omega
 rw [e1, List.drop_of_length_le (l := l) (i := i + 1 + (l.drop i).length) (by rw [List.length_drop]; omega), List.append_nil, List.take_append_of_le_length (by omega), List.take_take, Nat.min_eq_left (by omega), List.length_singleton, List.drop_append_of_le_length (by omega), List.drop_of_length_le (l := l.take (i + 1)) (by omega), List.nil_append, List.append_assoc]
 rfl
theorem ins_new {α : Type} {l : List (List α)} {x z : List α} {i : Nat} (hi : i < l.length) : (((l.take i ++ List.replicate (l.length + 1 - i) z).take i ++ [x] ++ (l.take i ++ List.replicate (l.length + 1 - i) z).drop (i + [x].length)).take (i + 1) ++ (l.drop i).take (l.length - i) ++ ((l.take i ++ List.replicate (l.length + 1 - i) z).take i ++ [x] ++ (l.take i ++ List.replicate (l.length + 1 - i) z).drop (i + [x].length)).drop (i + 1 + ((l.drop i).take (l.length - i)).length)) = l.take i ++ x :: l.drop i := by
 have e1 : (l.drop i).take (l.length - i) = l.drop i := List.take_of_length_le (by rw [List.length_drop]; omega)
 have hl : (l.take i).length = i := by rw [List.length_take]; omega
 have e2 : (l.take i ++ List.replicate (l.length + 1 - i) z).take i = l.take i := by rw [List.take_append_of_le_length (by omega), List.take_of_length_le (by omega)]
 have e3 : (l.take i ++ List.replicate (l.length + 1 - i) z).length = l.length + 1 := by rw [List.length_append, hl, List.length_replicate]; omega
 have e4 : (l.take i ++ [x]).length = i + 1 := by rw [List.length_append, hl]; rfl
 rw [e1, e2, List.take_append_of_le_length (by omega), List.take_of_length_le (l := l.take i ++ [x]) (by omega)]
 rw [List.drop_of_length_le (l := l.take i ++ [x] ++ _) (by rw [List.length_append, e4, List.length_drop, List.length_drop, e3, List.length_singleton]; omega), List.append_nil, List.append_assoc]
 rfl
/- api.Lsa] -/
def insert_Lsa_r11_T : Bool × List (List Nat × List Nat) := (true, [([], []), ([], []), ([], []), ([1, 2], [1, 2]), ([0, 3], [0, 3]), ([], []), ([], []), ([5, 6], [5, 6]), ([4, 7], [4, 7])])
def insert_Lsa_r11_B : List Nat := [0, 0, 0, 6, 15, 0, 0, 96, 255]
theorem insert_Lsa_r11_t : Go.Proofs.YthkgdhamnpiagaaGreatW.PrintLast.rtab .any (Go.Proofs.YthkgdhamnpiagaaGreatW.PrintLast.opsOf Tryz.f288 11) = insert_Lsa_r11_T := by kernel_rfl
theorem insert_Lsa_r11_b : Go.Proofs.YthkgdhamnpiagaaGreatW.PrintLast.waitsOk insert_Lsa_r11_T.2 insert_Lsa_r11_B = true := by kernel_rfl
def insert_Lsa_r15_T : Bool × List (List Nat × List Nat) := (true, [([], []), ([], []), ([], []), ([1, 2], [1, 2]), ([0, 3], [0, 3]), ([], []), ([], []), ([5, 6], [5, 6]), ([4, 7], [4, 7])])
def insert_Lsa_r15_B : List Nat := [0, 0, 0, 6, 15, 0, 0, 96, 255]
theorem insert_Lsa_r15_t : Go.Proofs.YthkgdhamnpiagaaGreatW.PrintLast.rtab .any (Go.Proofs.YthkgdhamnpiagaaGreatW.PrintLast.opsOf Tryz.f288 15) = insert_Lsa_r15_T := by kernel_rfl
theorem insert_Lsa_r15_b : Go.Proofs.YthkgdhamnpiagaaGreatW.PrintLast.waitsOk insert_Lsa_r15_T.2 insert_Lsa_r15_B = true := by kernel_rfl
set_option maxRecDepth 100000 in
set_option maxHeartbeats 4000000 in
theorem insert_Lsa {l : List Lsa} {x : Lsa} {i : Nat} {g : Option Nat} {c vb vc : Nat} (hi : i ≤ l.length) (hl : l.length ≤ 1000000) : Triple Tryz.prog 288 [.v (slV g l.length c), .int i, .v (slV (some vb) 1 vc)] [.sl g c 55 3 (l.map lsaC), .sl (some vb) vc 55 3 ([x].map lsaC)] (Own 55 3 ((l.take i ++ x :: l.drop i).map lsaC) []) := by
 refine triple_of Tryz.func288 rfl (by kernel_rfl) rfl (by simp) ?_
 refine aSeq ?_
 refine aReg ?_
 refine sp pMa ?_
 refine oNil ?_
 refine aSeq ?_
 refine aCap .hd (fun hcap => ?_)
 rw [List.length_map] at hcap
 refine aReg ?_
 refine sp pM ?_
 refine sp pM ?_
 refine sp (pSlLo rfl rfl es_32 (bdI rfl) (by omega) (by omega)) ?_
 refine oNil ?_
 refine aSeq ?_
 refine aReg ?_
 refine sp pM ?_
 refine sp (by first | exact pLm sl_32 | exact pLs sl_32 | exact pLv sl_32) ?_
 refine sp pMa ?_
 refine oNil ?_
 refine aSeq ?_
 refine aSeq ?_
 refine aReg ?_
 refine sp pM ?_
 refine sp pB ?_
 refine oNil ?_
 refine aCondF rfl ?_
 refine aSkip ?_
 refine aSeq ?_
 refine aReg ?_
 refine sp pM ?_
 refine sp (by first | exact pLm sl_32 | exact pLs sl_32 | exact pLv sl_32) ?_
 refine sp pMa ?_
 refine oNil ?_
 refine aSeq ?_
 refine aSeq ?_
 refine aReg ?_
 refine sp pM ?_
 refine sp pM ?_
 refine sp pB ?_
 refine oNil ?_
 refine aCondEq rfl (fun c22 => ?_) (fun c22 => ?_)
 ·skip
  refine aSeq ?_
  refine aReg ?_
  refine sp pM ?_
  refine sp pM ?_
  refine sa ?_
  first | refine oAppT ([x] : List Lsa) rfl rfl (by repeat constructor) (.inl rfl) el_32 sl_32 (fun g25 k25 => ?_) | refine oAppT ([x] : List Lsa) rfl rfl (by repeat constructor) (srcOwn rfl (by repeat constructor) (by first | rfl | simp)) el_32 sl_32 (fun g25 k25 => ?_)
  refine sp pMa ?_
  refine oNil ?_
  refine aRet ?_
  refine finOwn rfl ?_
  obtain rfl : i = l.length := by omega
  rw [List.take_length, List.drop_length]
 ·skip
  refine aSkip ?_
  refine aSeq ?_
  refine aSeq ?_
  have hlt : i < l.length := by omega
  refine aSome .hd (by intro e; simp at e; subst e; simp at hlt) (fun b hb => ?_)
  subst hb
  refine aReg ?_
  refine sp pM ?_
  refine sp pM ?_
  refine sp pAd ?_
  refine sp pM ?_
  refine sp (pCap sl_32) ?_
  refine sp pB ?_
  refine oNil ?_
  refine aCondDec rfl (fun c31 => ?_) (fun c31 => ?_)
  ·skip
   refine aSeq ?_
   refine aReg ?_
   refine sp pM ?_
   refine sp pM ?_
   refine sp (pSlHi rfl rfl es_32 (bdI rfl) (by omega)) ?_
   refine sp pM ?_
   refine sp pM ?_
   refine sp pAd ?_
   refine sp pM ?_
   refine sp pSu ?_
   rw [show (l.length : Int) + ((1 : Nat) : Int) - i = ((l.length + 1 - i : Nat) : Int) by omega]
   refine sa ?_
   refine oAppZg (m := l.length + 1 - i) [.int 0, .int 0, .v (.slice none 0 0)] rfl rfl (by decide) rfl rfl .hd (by rw [List.length_map]; omega) (by omega) el_32 ik_3 ze_55 rfl rfl (by intro F w j av x hj hx; repeat (first | (cases j with | zero => (simp at hj; simp [Value.cells] at hx; subst hj; subst hx; exact .v _) | succ j => _) | (simp at hj; done))) (by omega) (by omega) (by omega) (fun b40 k40 hge => ?_)
   rw [show i + (l.length + 1 - i) = l.length + 1 by omega]
   refine sp pMa ?_
   refine oNil ?_
   refine aSeq ?_
   refine aReg ?_
   refine sp pM ?_
   refine sp pM ?_
   refine sp (pSlLo rfl rfl es_32 (bdI rfl) (by omega) (by omega)) ?_
   rw [tailV_at (by omega)]
   refine sp pM ?_
   refine sa ?_
   refine oCopyG (k := i) (ns := [x].map lsaC) rfl rfl (by decide) rfl (srcG_is (srcOwn rfl (by repeat constructor) rfl) el_32 (by simp [lsaC])) (by simp [Nat.min_def]; try omega) (by repeat constructor) el_32 (by simp; omega) (by simp; omega) ?_
   refine oNil ?_
   refine aSeq ?_
   refine aDrawT insert_Lsa_r11_t insert_Lsa_r11_b [8] 9 #[false, false, false, false, false, false, false, false, false] (by kernel_rfl) rfl rfl (fun HT => ?_)
   refine dp HT 0 rfl pM ?_
   refine dp HT 1 rfl pM ?_
   refine dp HT 2 rfl pM ?_
   refine dp HT 3 rfl pAd ?_
   refine dp HT 4 rfl (pSlLo rfl rfl es_32 (bdI rfl) (by omega) (by omega)) ?_
   rw [tailV_at (by omega)]
   refine dp HT 5 rfl pM ?_
   refine dp HT 6 rfl pM ?_
   refine dp HT 7 rfl (pSlLo rfl rfl es_32 (bdI rfl) (by omega) (by omega)) ?_
   rw [tailV_at (by omega)]
   refine dGo ?_
   refine eLast ?_
   refine f1 HT 8 rfl ?_
   refine oCopyG (k := i + 1) (ns := ((l.map lsaC).drop i).take (l.length - i)) rfl rfl (by decide) rfl (srcG_at (k := i) (cnt := l.length - i) rfl (by repeat constructor) (by rw [List.length_map]; omega) (by simp [lsaC])) (by simp [Nat.min_def]; try omega) (by repeat constructor) el_32 (by simp; omega) (by simp; omega) ?_
   refine fE HT ?_
   clear HT
   refine aSeq ?_
   refine aReg ?_
   refine sp pM ?_
   refine sp pMa ?_
   refine oNil ?_
   refine aRet ?_
   refine finOwn rfl ?_
   have hE := ins_new (l := l.map lsaC) (x := lsaC x) (z := [.int 0, .int 0, .v (.slice none 0 0)]) (i := i) (by simpa using hlt)
   rw [List.length_map] at hE
   exact hE.trans (by simp [List.map_take, List.map_drop])
  ·skip
   refine aSkip ?_
   refine aSeq ?_
   refine aReg ?_
   refine sp pM ?_
   refine sp pM ?_
   refine sp pM ?_
   refine sp pAd ?_
   refine sp (pSlHi rfl rfl es_32 (bdI rfl) (by omega)) ?_
   refine sp pMa ?_
   refine oNil ?_
   refine aSeq ?_
   refine aSeq ?_
   refine aReg ?_
   refine sp pM ?_
   refine sp pM ?_
   refine sp pM ?_
   refine sp pM ?_
   refine sp pAd ?_
   refine sp (pSlLo rfl rfl es_32 (bdI rfl) (by omega) (by omega)) ?_
   rw [tailV_at (by omega)]
   refine sa ?_
   refine oOverl (ho := rfl) (c := c) (tS := 32) (tR := 4) rfl (by decide) rfl rfl (.cons (by repeat constructor) (.cons (by repeat constructor) .nil)) Tryz.func338 (by kernel_rfl) (by kernel_rfl) (by kernel_rfl) (by kernel_rfl) el_32 (by omega) ?_
   refine sp pNo ?_
   refine oNil ?_
   refine aCondT rfl ?_
   refine aSeq ?_
   refine aDrawT insert_Lsa_r15_t insert_Lsa_r15_b [8] 9 #[false, false, false, false, false, false, false, false, false] (by kernel_rfl) rfl rfl (fun HT => ?_)
   refine dp HT 0 rfl pM ?_
   refine dp HT 1 rfl pM ?_
   refine dp HT 2 rfl pM ?_
   refine dp HT 3 rfl pAd ?_
   refine dp HT 4 rfl (pSlLo rfl rfl es_32 (bdI rfl) (by omega) (by omega)) ?_
   rw [tailV_at (by omega)]
   refine dp HT 5 rfl pM ?_
   refine dp HT 6 rfl pM ?_
   refine dp HT 7 rfl (pSlLo rfl rfl es_32 (bdI rfl) (by omega) (by omega)) ?_
   rw [tailV_at (by omega)]
   refine dGo ?_
   refine eLast ?_
   refine f1 HT 8 rfl ?_
   refine oCopyG (k := i + 1) (ns := ((l.map lsaC).drop i).take (l.length - i)) rfl rfl (by decide) rfl (srcG_at (k := i) (cnt := l.length - i) rfl (by repeat constructor) (by rw [List.length_map]; omega) (by simp [lsaC])) (by simp [Nat.min_def]; try omega) (by repeat constructor) el_32 (by simp; omega) (by simp; omega) ?_
   refine fE HT ?_
   clear HT
   refine aSeq ?_
   refine aReg ?_
   refine sp pM ?_
   refine sp pM ?_
   refine sp (pSlLo rfl rfl es_32 (bdI rfl) (by omega) (by omega)) ?_
   rw [tailV_at (by omega)]
   refine sp pM ?_
   refine sa ?_
   refine oCopyG (k := i) (ns := [x].map lsaC) rfl rfl (by decide) rfl (srcG_is (srcOwn rfl (by repeat constructor) rfl) el_32 (by simp [lsaC])) (by simp [Nat.min_def]; try omega) (by repeat constructor) el_32 (by simp; omega) (by simp; omega) ?_
   refine oNil ?_
   refine aSeq ?_
   refine aReg ?_
   refine sp pM ?_
   refine sp pMa ?_
   refine oNil ?_
   refine aRet ?_
   refine finOwn rfl ?_
   have hE := ins_shift (l := l.map lsaC) (x := lsaC x) (i := i) (by simpa using hlt)
   rw [List.length_map] at hE
   exact hE.trans (by simp [List.map_take, List.map_drop])
end A
end Go.Proofs.YthkgdhamnpiagaaGreat
namespace Go.Proofs.YthkgdhamnpiagaaGreat
namespace A
/- api.Epoch] -/
def insert_Ep_r11_T : Bool × List (List Nat × List Nat) := (true, [([], []), ([], []), ([], []), ([1, 2], [1, 2]), ([0, 3], [0, 3]), ([], []), ([], []), ([5, 6], [5, 6]), ([4, 7], [4, 7])])
def insert_Ep_r11_B : List Nat := [0, 0, 0, 6, 15, 0, 0, 96, 255]
theorem insert_Ep_r11_t : Go.Proofs.YthkgdhamnpiagaaGreatW.PrintLast.rtab .any (Go.Proofs.YthkgdhamnpiagaaGreatW.PrintLast.opsOf Tryz.f324 11) = insert_Ep_r11_T := by kernel_rfl
theorem insert_Ep_r11_b : Go.Proofs.YthkgdhamnpiagaaGreatW.PrintLast.waitsOk insert_Ep_r11_T.2 insert_Ep_r11_B = true := by kernel_rfl
def insert_Ep_r15_T : Bool × List (List Nat × List Nat) := (true, [([], []), ([], []), ([], []), ([1, 2], [1, 2]), ([0, 3], [0, 3]), ([], []), ([], []), ([5, 6], [5, 6]), ([4, 7], [4, 7])])
def insert_Ep_r15_B : List Nat := [0, 0, 0, 6, 15, 0, 0, 96, 255]
theorem insert_Ep_r15_t : Go.Proofs.YthkgdhamnpiagaaGreatW.PrintLast.rtab .any (Go.Proofs.YthkgdhamnpiagaaGreatW.PrintLast.opsOf Tryz.f324 15) = insert_Ep_r15_T := by kernel_rfl
theorem insert_Ep_r15_b : Go.Proofs.YthkgdhamnpiagaaGreatW.PrintLast.waitsOk insert_Ep_r15_T.2 insert_Ep_r15_B = true := by kernel_rfl
set_option maxRecDepth 100000 in
set_option maxHeartbeats 4000000 in
theorem insert_Ep {l : List Ep} {x : Ep} {i : Nat} {g : Option Nat} {c vb vc : Nat} (hi : i ≤ l.length) (hl : l.length ≤ 1000000) : Triple Tryz.prog 324 [.v (slV g l.length c), .int i, .v (slV (some vb) 1 vc)] [.sl g c 132 2 (l.map epC), .sl (some vb) vc 132 2 ([x].map epC)] (Own 132 2 ((l.take i ++ x :: l.drop i).map epC) []) := by
 refine triple_of Tryz.func324 rfl (by kernel_rfl) rfl (by simp) ?_
 refine aSeq ?_
 refine aReg ?_
 refine sp pMa ?_
 refine oNil ?_
 refine aSeq ?_
 refine aCap .hd (fun hcap => ?_)
 rw [List.length_map] at hcap
 refine aReg ?_
 refine sp pM ?_
 refine sp pM ?_
 refine sp (pSlLo rfl rfl es_33 (bdI rfl) (by omega) (by omega)) ?_
 refine oNil ?_
 refine aSeq ?_
 refine aReg ?_
 refine sp pM ?_
 refine sp (by first | exact pLm sl_33 | exact pLs sl_33 | exact pLv sl_33) ?_
 refine sp pMa ?_
 refine oNil ?_
 refine aSeq ?_
 refine aSeq ?_
 refine aReg ?_
 refine sp pM ?_
 refine sp pB ?_
 refine oNil ?_
 refine aCondF rfl ?_
 refine aSkip ?_
 refine aSeq ?_
 refine aReg ?_
 refine sp pM ?_
 refine sp (by first | exact pLm sl_33 | exact pLs sl_33 | exact pLv sl_33) ?_
 refine sp pMa ?_
 refine oNil ?_
 refine aSeq ?_
 refine aSeq ?_
 refine aReg ?_
 refine sp pM ?_
 refine sp pM ?_
 refine sp pB ?_
 refine oNil ?_
 refine aCondEq rfl (fun c22 => ?_) (fun c22 => ?_)
 ·skip
  refine aSeq ?_
  refine aReg ?_
  refine sp pM ?_
  refine sp pM ?_
  refine sa ?_
  first | refine oAppT ([x] : List Ep) rfl rfl (by repeat constructor) (.inl rfl) el_33 sl_33 (fun g25 k25 => ?_) | refine oAppT ([x] : List Ep) rfl rfl (by repeat constructor) (srcOwn rfl (by repeat constructor) (by first | rfl | simp)) el_33 sl_33 (fun g25 k25 => ?_)
  refine sp pMa ?_
  refine oNil ?_
  refine aRet ?_
  refine finOwn rfl ?_
  obtain rfl : i = l.length := by omega
  rw [List.take_length, List.drop_length]
 ·skip
  refine aSkip ?_
  refine aSeq ?_
  refine aSeq ?_
  have hlt : i < l.length := by omega
  refine aSome .hd (by intro e; simp at e; subst e; simp at hlt) (fun b hb => ?_)
  subst hb
  refine aReg ?_
  refine sp pM ?_
  refine sp pM ?_
  refine sp pAd ?_
  refine sp pM ?_
  refine sp (pCap sl_33) ?_
  refine sp pB ?_
  refine oNil ?_
  refine aCondDec rfl (fun c31 => ?_) (fun c31 => ?_)
  ·skip
   refine aSeq ?_
   refine aReg ?_
   refine sp pM ?_
   refine sp pM ?_
   refine sp (pSlHi rfl rfl es_33 (bdI rfl) (by omega)) ?_
   refine sp pM ?_
   refine sp pM ?_
   refine sp pAd ?_
   refine sp pM ?_
   refine sp pSu ?_
   rw [show (l.length : Int) + ((1 : Nat) : Int) - i = ((l.length + 1 - i : Nat) : Int) by omega]
   refine sa ?_
   refine oAppZg (m := l.length + 1 - i) [.int 0, .int 0] rfl rfl (by decide) rfl rfl .hd (by rw [List.length_map]; omega) (by omega) el_33 ik_3 ze_132 rfl rfl (by intro F w j av x hj hx; repeat (first | (cases j with | zero => (simp at hj; simp [Value.cells] at hx; subst hj; subst hx; exact .v _) | succ j => _) | (simp at hj; done))) (by omega) (by omega) (by omega) (fun b40 k40 hge => ?_)
   rw [show i + (l.length + 1 - i) = l.length + 1 by omega]
   refine sp pMa ?_
   refine oNil ?_
   refine aSeq ?_
   refine aReg ?_
   refine sp pM ?_
   refine sp pM ?_
   refine sp (pSlLo rfl rfl es_33 (bdI rfl) (by omega) (by omega)) ?_
   rw [tailV_at (by omega)]
   refine sp pM ?_
   refine sa ?_
   refine oCopyG (k := i) (ns := [x].map epC) rfl rfl (by decide) rfl (srcG_is (srcOwn rfl (by repeat constructor) rfl) el_33 (by simp [epC])) (by simp [Nat.min_def]; try omega) (by repeat constructor) el_33 (by simp; omega) (by simp; omega) ?_
   refine oNil ?_
   refine aSeq ?_
   refine aDrawT insert_Ep_r11_t insert_Ep_r11_b [8] 9 #[false, false, false, false, false, false, false, false, false] (by kernel_rfl) rfl rfl (fun HT => ?_)
   refine dp HT 0 rfl pM ?_
   refine dp HT 1 rfl pM ?_
   refine dp HT 2 rfl pM ?_
   refine dp HT 3 rfl pAd ?_
   refine dp HT 4 rfl (pSlLo rfl rfl es_33 (bdI rfl) (by omega) (by omega)) ?_
   rw [tailV_at (by omega)]
   refine dp HT 5 rfl pM ?_
   refine dp HT 6 rfl pM ?_
   refine dp HT 7 rfl (pSlLo rfl rfl es_33 (bdI rfl) (by omega) (by omega)) ?_
   rw [tailV_at (by omega)]
   refine dGo ?_
   refine eLast ?_
   refine f1 HT 8 rfl ?_
   refine oCopyG (k := i + 1) (ns := ((l.map epC).drop i).take (l.length - i)) rfl rfl (by decide) rfl (srcG_at (k := i) (cnt := l.length - i) rfl (by repeat constructor) (by rw [List.length_map]; omega) (by simp [epC])) (by simp [Nat.min_def]; try omega) (by repeat constructor) el_33 (by simp; omega) (by simp; omega) ?_
   refine fE HT ?_
   clear HT
   refine aSeq ?_
   refine aReg ?_
   refine sp pM ?_
   refine sp pMa ?_
   refine oNil ?_
   refine aRet ?_
   refine finOwn rfl ?_
   have hE := ins_new (l := l.map epC) (x := epC x) (z := [.int 0, .int 0]) (i := i) (by simpa using hlt)
   rw [List.length_map] at hE
   exact hE.trans (by simp [List.map_take, List.map_drop])
  ·skip
   refine aSkip ?_
   refine aSeq ?_
   refine aReg ?_
   refine sp pM ?_
   refine sp pM ?_
   refine sp pM ?_
   refine sp pAd ?_
   refine sp (pSlHi rfl rfl es_33 (bdI rfl) (by omega)) ?_
   refine sp pMa ?_
   refine oNil ?_
   refine aSeq ?_
   refine aSeq ?_
   refine aReg ?_
   refine sp pM ?_
   refine sp pM ?_
   refine sp pM ?_
   refine sp pM ?_
   refine sp pAd ?_
   refine sp (pSlLo rfl rfl es_33 (bdI rfl) (by omega) (by omega)) ?_
   rw [tailV_at (by omega)]
   refine sa ?_
   refine oOverl (ho := rfl) (c := c) (tS := 33) (tR := 4) rfl (by decide) rfl rfl (.cons (by repeat constructor) (.cons (by repeat constructor) .nil)) Tryz.func354 (by kernel_rfl) (by kernel_rfl) (by kernel_rfl) (by kernel_rfl) el_33 (by omega) ?_
   refine sp pNo ?_
   refine oNil ?_
   refine aCondT rfl ?_
   refine aSeq ?_
   refine aDrawT insert_Ep_r15_t insert_Ep_r15_b [8] 9 #[false, false, false, false, false, false, false, false, false] (by kernel_rfl) rfl rfl (fun HT => ?_)
   refine dp HT 0 rfl pM ?_
   refine dp HT 1 rfl pM ?_
   refine dp HT 2 rfl pM ?_
   refine dp HT 3 rfl pAd ?_
   refine dp HT 4 rfl (pSlLo rfl rfl es_33 (bdI rfl) (by omega) (by omega)) ?_
   rw [tailV_at (by omega)]
   refine dp HT 5 rfl pM ?_
   refine dp HT 6 rfl pM ?_
   refine dp HT 7 rfl (pSlLo rfl rfl es_33 (bdI rfl) (by omega) (by omega)) ?_
   rw [tailV_at (by omega)]
   refine dGo ?_
   refine eLast ?_
   refine f1 HT 8 rfl ?_
   refine oCopyG (k := i + 1) (ns := ((l.map epC).drop i).take (l.length - i)) rfl rfl (by decide) rfl (srcG_at (k := i) (cnt := l.length - i) rfl (by repeat constructor) (by rw [List.length_map]; omega) (by simp [epC])) (by simp [Nat.min_def]; try omega) (by repeat constructor) el_33 (by simp; omega) (by simp; omega) ?_
   refine fE HT ?_
   clear HT
   refine aSeq ?_
   refine aReg ?_
   refine sp pM ?_
   refine sp pM ?_
   refine sp (pSlLo rfl rfl es_33 (bdI rfl) (by omega) (by omega)) ?_
   rw [tailV_at (by omega)]
   refine sp pM ?_
   refine sa ?_
   refine oCopyG (k := i) (ns := [x].map epC) rfl rfl (by decide) rfl (srcG_is (srcOwn rfl (by repeat constructor) rfl) el_33 (by simp [epC])) (by simp [Nat.min_def]; try omega) (by repeat constructor) el_33 (by simp; omega) (by simp; omega) ?_
   refine oNil ?_
   refine aSeq ?_
   refine aReg ?_
   refine sp pM ?_
   refine sp pMa ?_
   refine oNil ?_
   refine aRet ?_
   refine finOwn rfl ?_
   have hE := ins_shift (l := l.map epC) (x := epC x) (i := i) (by simpa using hlt)
   rw [List.length_map] at hE
   exact hE.trans (by simp [List.map_take, List.map_drop])
end A
end Go.Proofs.YthkgdhamnpiagaaGreat
namespace Go.Proofs.YthkgdhamnpiagaaGreat
namespace A
variable {P : Program} {N : Nat} {env : Env} {h : List HA} {K : Cont} {X : List (Nat × Cont)} {Rt : Cont}
theorem civ {o : Oper} {d : Nat} {fo : Operand} {xs : Array Operand} {ts : Array TypeId} {f : FuncId} {caps l l' : List AV} {x : AV} (hop : o.op = .call ⟨.value fo, xs, ts⟩) (hfo : ev env fo = some (.fn (.func f) caps)) (hl : evs env xs.toList = some l) (hlent : Lents h (l ++ caps) l') (t : Triple P f l' [] (fun r h' => r = x ∧ h' = [])) (hf : Flat x) (k : K ((d, x) :: env) h) (hd : o.dst = some d := by rfl) (hN : d < N := by decide) : AOpQ P N o env h K :=
 qCallL (caps' := []) hop hd hN hfo hl hlent t (fun r h' ⟨hr, hh⟩ => by subst hr; subst hh; exact ⟨hf, fun x hx => by simp at hx⟩) (fun r h' ⟨hr, hh⟩ => by subst hr; subst hh; exact k)
theorem flat2 {a b : Value} : Flat (.tup [.v a, .v b]) := .tup fun c hc => by
 simp only [List.mem_cons, List.not_mem_nil, or_false] at hc
 rcases hc with rfl | rfl <;> exact .v _
end A
end Go.Proofs.YthkgdhamnpiagaaGreat
namespace Go.Proofs.YthkgdhamnpiagaaGreat
namespace A
theorem ik_332 : intKindOf Tryz.prog 332 = some .u64 := by kernel_rfl
def cmpI (a b : Int) : Int := if a < b then -1 else if b < a then 1 else 0
/- cmp.isNaN[int] -/
set_option maxRecDepth 100000 in
set_option maxHeartbeats 400000 in
theorem cmp_isNaN {n : Int} : Triple Tryz.prog 294 [.int n] [] (Is (.v (.bool false)) []) := by
 refine triple_of Tryz.func294 rfl (by kernel_rfl) rfl (by simp) ?_
 refine aSeq ?_
 refine aReg ?_
 refine sp pMa ?_
 refine oNil ?_
 refine aSeq ?_
 refine aReg ?_
 refine sp pM ?_
 refine sp pM ?_
 refine sp pB ?_
 refine sp pMa ?_
 refine oNil ?_
 refine aRet ?_
 refine finIs rfl ?_
 simp [retOf]
/- cmp.Compare[int] -/
set_option maxRecDepth 100000 in
set_option maxHeartbeats 400000 in
theorem cmp_Compare {a b : Int} : Triple Tryz.prog 229 [.int a, .int b] [] (Is (.v (.int .i64 (cmpI a b))) []) := by
 refine triple_of Tryz.func229 rfl (by kernel_rfl) rfl (by simp) ?_
 refine aSeq ?_
 refine aReg ?_
 refine sp pMa ?_
 refine oNil ?_
 refine aSeq ?_
 refine aReg ?_
 refine sp pM ?_
 refine sq ?_
 refine cv rfl rfl rfl (lents_refl _) cmp_isNaN ?_
 refine sp pMa ?_
 refine oNil ?_
 refine aSeq ?_
 refine aReg ?_
 refine sp pM ?_
 refine sq ?_
 refine cv rfl rfl rfl (lents_refl _) cmp_isNaN ?_
 refine sp pMa ?_
 refine oNil ?_
 refine aSeq ?_
 refine aSeq ?_
 refine aReg ?_
 refine sp pM ?_
 refine oNil ?_
 refine aCond rfl (fun c11 => ?_) (fun c11 => ?_)
 ·skip
  refine aSeq ?_
  refine aSeq ?_
  refine aReg ?_
  refine sp pM ?_
  refine oNil ?_
  refine aCond rfl (fun c12 => ?_) (fun c12 => ?_)
  ·skip
   refine aSeq ?_
   refine aReg ?_
   refine sp pMa ?_
   refine oNil ?_
   refine aRet ?_
   refine finIs rfl ?_
   simp_all [retOf, cmpI] <;> omega
  ·skip
   refine aSkip ?_
   refine aSeq ?_
   refine aReg ?_
   refine sp pMa ?_
   refine oNil ?_
   refine aRet ?_
   refine finIs rfl ?_
   simp_all [retOf, cmpI] <;> omega
 ·skip
  refine aSkip ?_
  refine aSeq ?_
  refine aSeq ?_
  refine aReg ?_
  refine sp pM ?_
  refine oNil ?_
  refine aCond rfl (fun c13 => ?_) (fun c13 => ?_)
  ·skip
   refine aSeq ?_
   refine aReg ?_
   refine sp pMa ?_
   refine oNil ?_
   refine aRet ?_
   refine finIs rfl ?_
   simp_all [retOf, cmpI] <;> omega
  ·skip
   refine aSkip ?_
   refine aSeq ?_
   refine aSeq ?_
   refine aReg ?_
   refine sp pM ?_
   refine sp pM ?_
   refine sp pB ?_
   refine oNil ?_
   refine aCondDec rfl (fun c16 => ?_) (fun c16 => ?_)
   ·skip
    refine aSeq ?_
    refine aReg ?_
    refine sp pMa ?_
    refine oNil ?_
    refine aRet ?_
    refine finIs rfl ?_
    simp_all [retOf, cmpI] <;> omega
   ·skip
    refine aSkip ?_
    refine aSeq ?_
    refine aSeq ?_
    refine aReg ?_
    refine sp pM ?_
    refine sp pM ?_
    refine sp pB ?_
    refine oNil ?_
    refine aCondDec rfl (fun c19 => ?_) (fun c19 => ?_)
    ·skip
     refine aSeq ?_
     refine aReg ?_
     refine sp pMa ?_
     refine oNil ?_
     refine aRet ?_
     refine finIs rfl ?_
     simp_all [retOf, cmpI] <;> omega
    ·skip
     refine aSkip ?_
     refine aSeq ?_
     refine aReg ?_
     refine sp pMa ?_
     refine oNil ?_
     refine aRet ?_
     refine finIs rfl ?_
     simp_all [retOf, cmpI] <;> omega
theorem cmpI_ne {a b : Int} : cmpI a b ≠ 0 ↔ a ≠ b := by unfold cmpI; split <;> (try split) <;> omega
theorem cmpI_lt {a b : Int} : cmpI a b < 0 ↔ a < b := by unfold cmpI; split <;> (try split) <;> omega
def kL (x : Lsa) : Int := x.o
def kE (x : Ep) : Int := x.o
/- api.Lsa,int] -/
set_option maxRecDepth 100000 in
set_option maxHeartbeats 2000000 in
theorem bs_Lsa {f : FuncId} (hf : ∀ (x : Lsa) (n : Int), Triple Tryz.prog f [.agg (lsaC x), .int n] [] (Is (.v (.int .i64 (cmpI (kL x) n))) [])) {l : List Lsa} {n : Int} (hs : l.Pairwise (fun x y => kL x < kL y)) (hl : l.length ≤ 1000000) : Triple Tryz.prog 292 [.sl 3 (l.map lsaC), .int n, .fn (.func f) []] [] (Is (.tup [.int (posK kL l n : Nat), .v (.bool (hasK kL l n))]) []) := by
 refine triple_of Tryz.func292 rfl (by kernel_rfl) rfl (by simp) ?_
 refine aSeq ?_
 refine aReg ?_
 refine sp pMa ?_
 refine sp pMa ?_
 refine oNil ?_
 refine aSeq ?_
 refine aReg ?_
 refine sp pM ?_
 refine sp (by first | exact pLm sl_32 | exact pLs sl_32) ?_
 refine sp pMa ?_
 refine oNil ?_
 refine aSeq ?_
 refine aReg ?_
 refine sp pM ?_
 refine sp pMa ?_
 refine sp pMa ?_
 refine oNil ?_
 refine aSeq ?_
 refine aBlock ?_
 refine loopF (α := Nat × Nat) (kept := [(0, _), (1, _), (2, _), (8, _)]) (fun (i, j) => i ≤ j ∧ j ≤ l.length ∧ (∀ k x, k < i → l[k]? = some x → kL x < n) ∧ (∀ k x, j ≤ k → l[k]? = some x → n ≤ kL x)) (fun (i, j) => [(9, .int i), (10, .int j)]) (fun (i, j) => []) (fun (i, j) => j - i) (0, l.length) ?_ ⟨gInt rfl (by first | rfl | omega | simp), gInt rfl (by first | rfl | omega | simp), rfl, rfl, rfl, rfl, trivial⟩ (by repeat constructor) ?_
 ·skip
  exact ⟨by omega, by omega, fun k x hk _ => by omega, fun k x hk hx => by have := (List.getElem?_eq_some_iff.1 hx).1; omega⟩
 ·rintro ⟨i, j⟩ ⟨hij, hj, h1, h2⟩
  refine aSeq ?_
  refine aSeq ?_
  refine aReg ?_
  refine sp pM ?_
  refine sp pM ?_
  refine sp pB ?_
  refine oNil ?_
  refine aCondDec rfl (fun c17 => ?_) (fun c17 => ?_)
  ·skip
   refine aSkip ?_
   refine aBlock ?_
   refine aSeq ?_
   refine aReg ?_
   refine sp pM ?_
   refine sp pM ?_
   refine sp pAd ?_
   refine sp (pConv (n' := ((i + j : Nat) : Int)) rfl rfl ik_3 ik_332 (by rw [show (i : Int) + j = ((i + j : Nat) : Int) by omega]; exact wrap_u64 (by omega) (by omega))) ?_
   refine sp (pShrN (a := i + j) (r := 1) rfl rfl rfl rfl (by decide)) ?_
   refine sp (pConv (n' := (((i + j) / 2 : Nat) : Int)) rfl rfl ik_332 ik_3 (wrap_i64 (by omega) (by omega))) ?_
   refine sp pMa ?_
   refine oNil ?_
   refine aSeq ?_
   obtain ⟨m, hm⟩ : ∃ m, m = (i + j) / 2 := ⟨_, rfl⟩
   rw [← hm]
   obtain ⟨x, hx⟩ : ∃ z, l[m]? = some z := ⟨_, List.getElem?_eq_getElem (by omega)⟩
   refine aReg ?_
   refine sp pM ?_
   refine sp pM ?_
   refine sp pM ?_
   first | refine sp (pIx es_32) ?_ | (refine obtSN 25 26 rfl rfl (by omega) (fun x27 hx27 => ?_); refine sp (pIs es_32 hx27) ?_) | (refine obtS 25 26 rfl rfl (by omega) (by omega) (fun x27 hx27 => ?_); refine sp (pIs es_32 hx27) ?_) | refine sp (pIo es_32) ?_
   refine sr (by first | exact rSW ty_55 rfl | exact rSA ty_55) ?_
   refine sp pM ?_
   refine sq ?_
   refine cv rfl rfl rfl (lents_refl _) (hf x n) ?_
   refine sp pB ?_
   refine oNil ?_
   refine aCondDec rfl (fun c31 => ?_) (fun c31 => ?_)
   ·skip
    refine aReg ?_
    refine sp pM ?_
    refine sp pAd ?_
    refine sp pMa ?_
    refine oNil ?_
    first
      | (refine ⟨(m + 1, j), ?_, by (try dsimp only); omega, ⟨gInt rfl (by first | rfl | omega | simp), gInt rfl (by first | rfl | omega | simp), rfl, rfl, rfl, rfl, trivial⟩, _, (by repeat constructor)⟩
         have hc := cmpI_lt (a := kL x) (b := n)
         refine ⟨by omega, by omega, fun k y hk hy => ?_, h2⟩
         have hxn : kL x < n := by omega
         by_cases e : k = m
         ·subst e; rw [hx] at hy; cases hy; exact hxn
         ·have := sortK_at (f := kL) hs hy hx (by omega); omega)
      | (refine ⟨(i, m), ?_, by (try dsimp only); omega, ⟨gInt rfl (by first | rfl | omega | simp), gInt rfl (by first | rfl | omega | simp), rfl, rfl, rfl, rfl, trivial⟩, _, (by repeat constructor)⟩
         have hc := cmpI_lt (a := kL x) (b := n)
         refine ⟨by omega, by omega, h1, fun k y hk hy => ?_⟩
         have hxn : n ≤ kL x := by omega
         by_cases e : k = m
         ·subst e; rw [hx] at hy; cases hy; exact hxn
         ·have := sortK_at (f := kL) hs hx hy (by omega); omega)
   ·skip
    refine aReg ?_
    refine sp pM ?_
    refine sp pMa ?_
    refine oNil ?_
    first
      | (refine ⟨(m + 1, j), ?_, by (try dsimp only); omega, ⟨gInt rfl (by first | rfl | omega | simp), gInt rfl (by first | rfl | omega | simp), rfl, rfl, rfl, rfl, trivial⟩, _, (by repeat constructor)⟩
         have hc := cmpI_lt (a := kL x) (b := n)
         refine ⟨by omega, by omega, fun k y hk hy => ?_, h2⟩
         have hxn : kL x < n := by omega
         by_cases e : k = m
         ·subst e; rw [hx] at hy; cases hy; exact hxn
         ·have := sortK_at (f := kL) hs hy hx (by omega); omega)
      | (refine ⟨(i, m), ?_, by (try dsimp only); omega, ⟨gInt rfl (by first | rfl | omega | simp), gInt rfl (by first | rfl | omega | simp), rfl, rfl, rfl, rfl, trivial⟩, _, (by repeat constructor)⟩
         have hc := cmpI_lt (a := kL x) (b := n)
         refine ⟨by omega, by omega, h1, fun k y hk hy => ?_⟩
         have hxn : n ≤ kL x := by omega
         by_cases e : k = m
         ·subst e; rw [hx] at hy; cases hy; exact hxn
         ·have := sortK_at (f := kL) hs hx hy (by omega); omega)
  ·skip
   refine aExit rfl ?_
   refine aSeq ?_
   obtain rfl : i = j := by omega
   have hpos := posK_is (f := kL) (by omega) h1 h2
   have hhas := hasK_pos (f := kL) hs h1 h2
   refine aReg ?_
   refine sp pM ?_
   refine sp pM ?_
   refine sp pM ?_
   refine sp pB ?_
   refine sp pM ?_
   refine oSplitDec 39 rfl (fun c39 => ?_) (fun c39 => ?_)
   ·skip
    refine gp pM ?_
    refine gp pM ?_
    refine gp pM ?_
    first | refine gp (pIx es_32) ?_ | (refine obtSN 41 42 rfl rfl (by omega) (fun x43 hx43 => ?_); refine gp (pIs es_32 hx43) ?_) | (refine obtS 41 42 rfl rfl (by omega) (by omega) (fun x43 hx43 => ?_); refine gp (pIs es_32 hx43) ?_) | refine gp (pIo es_32) ?_
    refine gr (by first | exact rSW ty_55 rfl | exact rSA ty_55) ?_
    refine gp pM ?_
    refine ga ?_
    refine (cv rfl rfl rfl (lents_refl _) (hf x43 n) ?_).op
    refine gp pB ?_
    refine sp pK ?_
    refine sp pMa ?_
    refine sp pMa ?_
    refine oNil ?_
    refine aRet ?_
    refine finIs rfl ?_
    rw [hpos, hhas]
    first
      | (have hc := cmpI_ne (a := kL x43) (b := n)
         simp_all [retOf]
         rw [Bool.eq_iff_iff]
         simp
         omega)
      | (simp_all [retOf]; done)
   ·skip
    refine gf ?_
    refine gf ?_
    refine gf ?_
    refine gf ?_
    refine gf ?_
    refine gf ?_
    refine gf ?_
    refine gf ?_
    refine sp pK ?_
    refine sp pMa ?_
    refine sp pMa ?_
    refine oNil ?_
    refine aRet ?_
    refine finIs rfl ?_
    rw [hpos, hhas]
    first
      | (have hc := cmpI_ne (a := kL x43) (b := n)
         simp_all [retOf]
         rw [Bool.eq_iff_iff]
         simp
         omega)
      | (simp_all [retOf]; done)
/- api.Epoch,int] -/
set_option maxRecDepth 100000 in
set_option maxHeartbeats 2000000 in
theorem bs_Ep {f : FuncId} (hf : ∀ (x : Ep) (n : Int), Triple Tryz.prog f [.agg (epC x), .int n] [] (Is (.v (.int .i64 (cmpI (kE x) n))) [])) {l : List Ep} {n : Int} (hs : l.Pairwise (fun x y => kE x < kE y)) (hl : l.length ≤ 1000000) : Triple Tryz.prog 322 [.sl 2 (l.map epC), .int n, .fn (.func f) []] [] (Is (.tup [.int (posK kE l n : Nat), .v (.bool (hasK kE l n))]) []) := by
 refine triple_of Tryz.func322 rfl (by kernel_rfl) rfl (by simp) ?_
 refine aSeq ?_
 refine aReg ?_
 refine sp pMa ?_
 refine sp pMa ?_
 refine oNil ?_
 refine aSeq ?_
 refine aReg ?_
 refine sp pM ?_
 refine sp (by first | exact pLm sl_33 | exact pLs sl_33) ?_
 refine sp pMa ?_
 refine oNil ?_
 refine aSeq ?_
 refine aReg ?_
 refine sp pM ?_
 refine sp pMa ?_
 refine sp pMa ?_
 refine oNil ?_
 refine aSeq ?_
 refine aBlock ?_
 refine loopF (α := Nat × Nat) (kept := [(0, _), (1, _), (2, _), (8, _)]) (fun (i, j) => i ≤ j ∧ j ≤ l.length ∧ (∀ k x, k < i → l[k]? = some x → kE x < n) ∧ (∀ k x, j ≤ k → l[k]? = some x → n ≤ kE x)) (fun (i, j) => [(9, .int i), (10, .int j)]) (fun (i, j) => []) (fun (i, j) => j - i) (0, l.length) ?_ ⟨gInt rfl (by first | rfl | omega | simp), gInt rfl (by first | rfl | omega | simp), rfl, rfl, rfl, rfl, trivial⟩ (by repeat constructor) ?_
 ·skip
  exact ⟨by omega, by omega, fun k x hk _ => by omega, fun k x hk hx => by have := (List.getElem?_eq_some_iff.1 hx).1; omega⟩
 ·rintro ⟨i, j⟩ ⟨hij, hj, h1, h2⟩
  refine aSeq ?_
  refine aSeq ?_
  refine aReg ?_
  refine sp pM ?_
  refine sp pM ?_
  refine sp pB ?_
  refine oNil ?_
  refine aCondDec rfl (fun c17 => ?_) (fun c17 => ?_)
  ·skip
   refine aSkip ?_
   refine aBlock ?_
   refine aSeq ?_
   refine aReg ?_
   refine sp pM ?_
   refine sp pM ?_
   refine sp pAd ?_
   refine sp (pConv (n' := ((i + j : Nat) : Int)) rfl rfl ik_3 ik_332 (by rw [show (i : Int) + j = ((i + j : Nat) : Int) by omega]; exact wrap_u64 (by omega) (by omega))) ?_
   refine sp (pShrN (a := i + j) (r := 1) rfl rfl rfl rfl (by decide)) ?_
   refine sp (pConv (n' := (((i + j) / 2 : Nat) : Int)) rfl rfl ik_332 ik_3 (wrap_i64 (by omega) (by omega))) ?_
   refine sp pMa ?_
   refine oNil ?_
   refine aSeq ?_
   obtain ⟨m, hm⟩ : ∃ m, m = (i + j) / 2 := ⟨_, rfl⟩
   rw [← hm]
   obtain ⟨x, hx⟩ : ∃ z, l[m]? = some z := ⟨_, List.getElem?_eq_getElem (by omega)⟩
   refine aReg ?_
   refine sp pM ?_
   refine sp pM ?_
   refine sp pM ?_
   first | refine sp (pIx es_33) ?_ | (refine obtSN 25 26 rfl rfl (by omega) (fun x27 hx27 => ?_); refine sp (pIs es_33 hx27) ?_) | (refine obtS 25 26 rfl rfl (by omega) (by omega) (fun x27 hx27 => ?_); refine sp (pIs es_33 hx27) ?_) | refine sp (pIo es_33) ?_
   refine sr (by first | exact rSW ty_132 rfl | exact rSA ty_132) ?_
   refine sp pM ?_
   refine sq ?_
   refine cv rfl rfl rfl (lents_refl _) (hf x n) ?_
   refine sp pB ?_
   refine oNil ?_
   refine aCondDec rfl (fun c31 => ?_) (fun c31 => ?_)
   ·skip
    refine aReg ?_
    refine sp pM ?_
    refine sp pAd ?_
    refine sp pMa ?_
    refine oNil ?_
    first
      | (refine ⟨(m + 1, j), ?_, by (try dsimp only); omega, ⟨gInt rfl (by first | rfl | omega | simp), gInt rfl (by first | rfl | omega | simp), rfl, rfl, rfl, rfl, trivial⟩, _, (by repeat constructor)⟩
         have hc := cmpI_lt (a := kE x) (b := n)
         refine ⟨by omega, by omega, fun k y hk hy => ?_, h2⟩
         have hxn : kE x < n := by omega
         by_cases e : k = m
         ·subst e; rw [hx] at hy; cases hy; exact hxn
         ·have := sortK_at (f := kE) hs hy hx (by omega); omega)
      | (refine ⟨(i, m), ?_, by (try dsimp only); omega, ⟨gInt rfl (by first | rfl | omega | simp), gInt rfl (by first | rfl | omega | simp), rfl, rfl, rfl, rfl, trivial⟩, _, (by repeat constructor)⟩
         have hc := cmpI_lt (a := kE x) (b := n)
         refine ⟨by omega, by omega, h1, fun k y hk hy => ?_⟩
         have hxn : n ≤ kE x := by omega
         by_cases e : k = m
         ·subst e; rw [hx] at hy; cases hy; exact hxn
         ·have := sortK_at (f := kE) hs hx hy (by omega); omega)
   ·skip
    refine aReg ?_
    refine sp pM ?_
    refine sp pMa ?_
    refine oNil ?_
    first
      | (refine ⟨(m + 1, j), ?_, by (try dsimp only); omega, ⟨gInt rfl (by first | rfl | omega | simp), gInt rfl (by first | rfl | omega | simp), rfl, rfl, rfl, rfl, trivial⟩, _, (by repeat constructor)⟩
         have hc := cmpI_lt (a := kE x) (b := n)
         refine ⟨by omega, by omega, fun k y hk hy => ?_, h2⟩
         have hxn : kE x < n := by omega
         by_cases e : k = m
         ·subst e; rw [hx] at hy; cases hy; exact hxn
         ·have := sortK_at (f := kE) hs hy hx (by omega); omega)
      | (refine ⟨(i, m), ?_, by (try dsimp only); omega, ⟨gInt rfl (by first | rfl | omega | simp), gInt rfl (by first | rfl | omega | simp), rfl, rfl, rfl, rfl, trivial⟩, _, (by repeat constructor)⟩
         have hc := cmpI_lt (a := kE x) (b := n)
         refine ⟨by omega, by omega, h1, fun k y hk hy => ?_⟩
         have hxn : n ≤ kE x := by omega
         by_cases e : k = m
         ·subst e; rw [hx] at hy; cases hy; exact hxn
         ·have := sortK_at (f := kE) hs hx hy (by omega); omega)
  ·skip
   refine aExit rfl ?_
   refine aSeq ?_
   obtain rfl : i = j := by omega
   have hpos := posK_is (f := kE) (by omega) h1 h2
   have hhas := hasK_pos (f := kE) hs h1 h2
   refine aReg ?_
   refine sp pM ?_
   refine sp pM ?_
   refine sp pM ?_
   refine sp pB ?_
   refine sp pM ?_
   refine oSplitDec 39 rfl (fun c39 => ?_) (fun c39 => ?_)
   ·skip
    refine gp pM ?_
    refine gp pM ?_
    refine gp pM ?_
    first | refine gp (pIx es_33) ?_ | (refine obtSN 41 42 rfl rfl (by omega) (fun x43 hx43 => ?_); refine gp (pIs es_33 hx43) ?_) | (refine obtS 41 42 rfl rfl (by omega) (by omega) (fun x43 hx43 => ?_); refine gp (pIs es_33 hx43) ?_) | refine gp (pIo es_33) ?_
    refine gr (by first | exact rSW ty_132 rfl | exact rSA ty_132) ?_
    refine gp pM ?_
    refine ga ?_
    refine (cv rfl rfl rfl (lents_refl _) (hf x43 n) ?_).op
    refine gp pB ?_
    refine sp pK ?_
    refine sp pMa ?_
    refine sp pMa ?_
    refine oNil ?_
    refine aRet ?_
    refine finIs rfl ?_
    rw [hpos, hhas]
    first
      | (have hc := cmpI_ne (a := kE x43) (b := n)
         simp_all [retOf]
         rw [Bool.eq_iff_iff]
         simp
         omega)
      | (simp_all [retOf]; done)
   ·skip
    refine gf ?_
    refine gf ?_
    refine gf ?_
    refine gf ?_
    refine gf ?_
    refine gf ?_
    refine gf ?_
    refine gf ?_
    refine sp pK ?_
    refine sp pMa ?_
    refine sp pMa ?_
    refine oNil ?_
    refine aRet ?_
    refine finIs rfl ?_
    rw [hpos, hhas]
    first
      | (have hc := cmpI_ne (a := kE x43) (b := n)
         simp_all [retOf]
         rw [Bool.eq_iff_iff]
         simp
         omega)
      | (simp_all [retOf]; done)
/- base.put$1 -/
set_option maxRecDepth 100000 in
set_option maxHeartbeats 400000 in
theorem base_put1 {x : Lsa} {n : Int} : Triple Tryz.prog 321 [.agg (lsaC x), .int n] [] (Is (.v (.int .i64 (cmpI (kL x) n))) []) := by
 refine triple_of Tryz.func321 rfl (by kernel_rfl) rfl (by simp) ?_
 refine aSeq ?_
 refine aReg ?_
 refine sq ?_
 refine qBox rfl rfl (by decide) rfl rfl (fun b2 => ?_)
 refine sp pMa ?_
 refine oNil ?_
 refine aSeq ?_
 refine aReg ?_
 refine sp (pFb fd_55_0) ?_
 refine sr (rB1 ty_3) ?_
 refine sp pM ?_
 refine sq ?_
 refine cv rfl rfl rfl (lents_refl _) cmp_Compare ?_
 refine sp pMa ?_
 refine oNil ?_
 refine aRet ?_
 refine finIs rfl ?_
 rfl
/- base.epoch$1 -/
set_option maxRecDepth 100000 in
set_option maxHeartbeats 400000 in
theorem base_epoch1 {x : Ep} {n : Int} : Triple Tryz.prog 323 [.agg (epC x), .int n] [] (Is (.v (.int .i64 (cmpI (kE x) n))) []) := by
 refine triple_of Tryz.func323 rfl (by kernel_rfl) rfl (by simp) ?_
 refine aSeq ?_
 refine aReg ?_
 refine sq ?_
 refine qBox rfl rfl (by decide) rfl rfl (fun b2 => ?_)
 refine sp pMa ?_
 refine oNil ?_
 refine aSeq ?_
 refine aReg ?_
 refine sp (pFb fd_132_0) ?_
 refine sr (rB1 ty_3) ?_
 refine sp pM ?_
 refine sq ?_
 refine cv rfl rfl rfl (lents_refl _) cmp_Compare ?_
 refine sp pMa ?_
 refine oNil ?_
 refine aRet ?_
 refine finIs rfl ?_
 rfl
end A
end Go.Proofs.YthkgdhamnpiagaaGreat
namespace Go.Proofs.YthkgdhamnpiagaaGreat
namespace A
/- base.put -/
def base_put_r1_T : Bool × List (List Nat × List Nat) := (true, [([], []), ([0], [0]), ([1], [1]), ([2], [2]), ([], []), ([4], [4]), ([3, 5], [3, 5]), ([6], [6]), ([7], [7]), ([7], [7]), ([8, 6, 0, 1, 2, 3, 4, 5, 6, 7, 8], [8]), ([9, 10, 0, 1, 2, 3, 4, 5, 6, 7, 8, 9, 10], [9])])
def base_put_r1_B : List Nat := [0, 1, 3, 7, 0, 16, 63, 127, 255, 255, 511, 2047]
theorem base_put_r1_t : Go.Proofs.YthkgdhamnpiagaaGreatW.PrintLast.rtab .any (Go.Proofs.YthkgdhamnpiagaaGreatW.PrintLast.opsOf Tryz.f264 1) = base_put_r1_T := by kernel_rfl
theorem base_put_r1_b : Go.Proofs.YthkgdhamnpiagaaGreatW.PrintLast.waitsOk base_put_r1_T.2 base_put_r1_B = true := by kernel_rfl
def base_put_r4_T : Bool × List (List Nat × List Nat) := (true, [([], []), ([], []), ([1], [1]), ([2], [2]), ([3], [3]), ([], []), ([], []), ([6], [6]), ([7], [7]), ([4, 5, 8, 7], [4, 5, 8]), ([0, 0, 1, 2, 3, 4, 5, 6, 7, 8, 9], [0]), ([10, 0, 1, 2, 3, 4, 5, 6, 7, 8, 9], [10]), ([11, 9, 9, 0, 1, 2, 3, 4, 5, 6, 7, 8, 9], [9, 11])])
def base_put_r4_B : List Nat := [0, 0, 2, 6, 14, 0, 0, 64, 192, 510, 1023, 2047, 4095]
theorem base_put_r4_t : Go.Proofs.YthkgdhamnpiagaaGreatW.PrintLast.rtab .any (Go.Proofs.YthkgdhamnpiagaaGreatW.PrintLast.opsOf Tryz.f264 4) = base_put_r4_T := by kernel_rfl
theorem base_put_r4_b : Go.Proofs.YthkgdhamnpiagaaGreatW.PrintLast.waitsOk base_put_r4_T.2 base_put_r4_B = true := by kernel_rfl
def base_put_r5_T : Bool × List (List Nat × List Nat) := (true, [([], []), ([], []), ([1], [1]), ([2], [2]), ([3], [3]), ([], []), ([4, 5], [4, 5]), ([6], [6]), ([0, 7], [0, 7]), ([8, 8], [8])])
def base_put_r5_B : List Nat := [0, 0, 2, 6, 14, 0, 62, 126, 255, 511]
theorem base_put_r5_t : Go.Proofs.YthkgdhamnpiagaaGreatW.PrintLast.rtab .any (Go.Proofs.YthkgdhamnpiagaaGreatW.PrintLast.opsOf Tryz.f264 5) = base_put_r5_T := by kernel_rfl
theorem base_put_r5_b : Go.Proofs.YthkgdhamnpiagaaGreatW.PrintLast.waitsOk base_put_r5_T.2 base_put_r5_B = true := by kernel_rfl
def base_put_r6_T : Bool × List (List Nat × List Nat) := (true, [([], []), ([0], [0]), ([1], [1]), ([2], [2]), ([], []), ([], []), ([5], [5]), ([3, 4, 0, 1, 2, 3, 4, 5, 6], [3, 4]), ([7, 6, 6, 0, 1, 2, 3, 4, 5, 6], [6, 7])])
def base_put_r6_B : List Nat := [0, 1, 3, 7, 0, 0, 32, 127, 255]
theorem base_put_r6_t : Go.Proofs.YthkgdhamnpiagaaGreatW.PrintLast.rtab .any (Go.Proofs.YthkgdhamnpiagaaGreatW.PrintLast.opsOf Tryz.f264 6) = base_put_r6_T := by kernel_rfl
theorem base_put_r6_b : Go.Proofs.YthkgdhamnpiagaaGreatW.PrintLast.waitsOk base_put_r6_T.2 base_put_r6_B = true := by kernel_rfl
set_option maxRecDepth 100000 in
set_option maxHeartbeats 4000000 in
theorem base_put {sb : Nat} {s : St} {g g2 : Option Nat} {c c2 : Nat} {x : Lsa} (hs : s.db.Pairwise (fun x y => kL x < kL y)) (hl : s.db.length ≤ 1000) (hx : x.ls.length ≤ 1000) : Triple Tryz.prog 264 [.v (.pointer (some ⟨sb, 0, none⟩)), .agg (lsaC x)] [.box sb [.v (slV g (s).db.length c), .int (s).upto, .int (s).boot, .v (slV g2 (s).eps.length c2)], .sl g c 55 3 ((s).db.map lsaC), .sl g2 c2 132 2 ((s).eps.map epC)] (fun q h' => ∃ d ok g' c', q = .v (.bool ok) ∧ h' = [.box sb [.v (slV g' (({ s with db := d } : St)).db.length c'), .int (({ s with db := d } : St)).upto, .int (({ s with db := d } : St)).boot, .v (slV g2 (({ s with db := d } : St)).eps.length c2)], .sl g' c' 55 3 ((({ s with db := d } : St)).db.map lsaC), .sl g2 c2 132 2 ((({ s with db := d } : St)).eps.map epC)] ∧ (ok = true ∧ putDb s.db x = some d ∨ ok = false ∧ putDb s.db x = none)) := by
 refine triple_of Tryz.func264 rfl (by kernel_rfl) rfl (by simp) ?_
 refine aSeq ?_
 refine aReg ?_
 refine sq ?_
 refine qBox rfl rfl (by decide) rfl rfl (fun b3 => ?_)
 refine sp pMa ?_
 refine oNil ?_
 refine aSeq ?_
 refine aDrawT base_put_r1_t base_put_r1_b [] 12 #[false, false, false, false, false, false, false, false, false, false, false, false] (by kernel_rfl) rfl rfl (fun HT => ?_)
 refine dp HT 0 rfl pM ?_
 refine dp HT 1 rfl pNv ?_
 refine dp HT 2 rfl (pFb fd_35_0) ?_
 refine dr HT 3 rfl (rB1 ty_32) ?_
 refine dp HT 4 rfl (pFb fd_55_0) ?_
 refine dr HT 5 rfl (rB1 ty_3) ?_
 refine dGo ?_
 refine e1 HT 6 rfl ?_
 refine civ rfl rfl rfl (by repeat (first | exact .nil | refine .cons (.sl (by repeat (first | exact List.mem_cons_self | apply List.mem_cons_of_mem)) (by first | rfl | simp)) ?_ | refine .cons (.same _) ?_)) (bs_Lsa (f := 321) (fun x n => base_put1) (l := s.db) (n := x.o) hs (by omega)) flat2 ?_
 refine ef HT 7 rfl pM ?_
 refine ef HT 8 rfl pX ?_
 refine ef HT 9 rfl pX ?_
 refine ef HT 10 rfl pMa ?_
 refine ef HT 11 rfl pMa ?_
 refine eE HT ?_
 clear HT
 refine aSeq ?_
 refine aBlock ?_
 refine aSeq ?_
 refine aReg ?_
 refine sp pM ?_
 refine sp pNo ?_
 refine sp pMa ?_
 refine oNil ?_
 refine aCondNot rfl (fun c17 => ?_) (fun c17 => ?_)
 ·skip
  refine aDrawS (h1 := [.box sb _, .box b3 _]) base_put_r4_t base_put_r4_b [12] 13 #[false, false, false, false, false, false, false, false, false, false, false, false, false] (by kernel_rfl) rfl rfl (.cons (by repeat constructor) (.cons (by repeat constructor) .nil)) (fun HT => ?_)
  refine ep HT 0 rfl pM ?_
  refine ep HT 1 rfl pM ?_
  refine ep HT 2 rfl pNv ?_
  refine ep HT 3 rfl (pFb fd_35_0) ?_
  refine er HT 4 rfl (rB1 ty_32) ?_
  refine ep HT 5 rfl pM ?_
  refine er HT 6 rfl (by first | exact rBWa ty_55 | exact rBW ty_55 | exact rBA ty_55) ?_
  refine e1 HT 7 rfl ?_
  refine ci rfl rfl rfl (lsa_Copy (l := x) (by omega)) ?_
  refine e1 HT 8 rfl ?_
  refine qLit (l := [_]) rfl rfl (by decide) us_32 ty_55 ze_55 rfl (by decide) (by decide) rfl rfl rfl (fun b28 => ?_)
  refine eOneS (i := 9) #[true, true, true, true, true, true, true, true, true, true, false, false, false] rfl (HT.one (by kernel_rfl)) (by decide) ?_
  ·skip
   refine stA (hx := [.sl g c _ _ _, .sl (some b28) _ _ _ _]) (wantN rfl) (fun t ht => by cases ht <;> decide) (.cons (by repeat constructor) (.cons (by repeat constructor) .nil)) (by repeat constructor) ?_
   first | refine coM rfl rfl rfl (insert_Lsa (l := s.db) (x := x) (posK_le s.db x.o) (by omega)) (fun g29 k29 => ?_) | refine co rfl rfl rfl (insert_Lsa (l := s.db) (x := x) (posK_le s.db x.o) (by omega)) (fun g29 k29 => ?_)
   refine undel (d := 29) rfl ?_
   try dsimp only [List.cons_append, List.nil_append]
   refine ep HT 10 rfl pNv ?_
   refine ep HT 11 rfl (pFb fd_35_0) ?_
   refine eLast ?_
   refine f1 HT 12 rfl ?_
   refine oStB rfl rfl rfl rfl (by repeat constructor) ty_32 rfl (Nat.le_of_ble_eq_true rfl) rfl ?_
   refine fE HT ?_
   clear HT
   refine aSeq ?_
   refine aReg ?_
   refine sp pMa ?_
   refine oNil ?_
   first
     | (have hP : putDb s.db x = some (insK kL s.db x) := by
          show (if hasK kL s.db x.o = true then (if newerB x (s.db.getD (posK kL s.db x.o) lsa0) = true then some (s.db.set (posK kL s.db x.o) x) else none) else some (insK kL s.db x)) = _
          rw [if_neg (by simp_all)]
        refine aRet ?_
        exact ⟨_, [_, _, _], [_], rfl, (.cons (by repeat constructor) (.cons (by repeat constructor) (.cons (by repeat constructor) .nil))), insK kL s.db x, true, g29, k29, rfl, rfl, .inl ⟨rfl, hP⟩⟩)
     | (have hP : putDb s.db x = some (s.db.set (posK kL s.db x.o) x) := by
          show (if hasK kL s.db x.o = true then (if newerB x (s.db.getD (posK kL s.db x.o) lsa0) = true then some (s.db.set (posK kL s.db x.o) x) else none) else some (insK kL s.db x)) = _
          rw [if_pos (by simp_all), if_pos (by rw [show s.db.getD (posK kL s.db x.o) lsa0 = y by rw [List.getD_eq_getElem?_getD, hy]; rfl]; simp_all)]
        refine aWeak (weak_box (b := sb) (cs' := [.v (slV (some b) (s.db.set (posK kL s.db x.o) x).length c), .int s.upto, .int s.boot, .v (slV g2 s.eps.length c2)]) (by repeat constructor) (by rw [List.length_set])) ?_
        refine aRet ?_
        exact ⟨_, [_, _, _], [_], rfl, (.cons (by repeat constructor) (.cons (by repeat constructor) (.cons (by repeat constructor) .nil))), s.db.set (posK kL s.db x.o) x, true, _, c, rfl, rfl, .inl ⟨rfl, hP⟩⟩)
 ·skip
  refine aSeq ?_
  obtain ⟨y, hy, hyo⟩ := hasK_at (f := kL) hs (n := x.o) (by simp_all)
  have hyl := (List.getElem?_eq_some_iff.1 hy).1
  refine aSome (g := g) (c := c) (e := 55) (sz := 3) (es := s.db.map lsaC) (by repeat constructor) (by intro e; have e2 := congrArg List.length e; rw [List.length_map, List.length_nil] at e2; omega) (fun b hb => ?_)
  subst hb
  refine aDrawT base_put_r5_t base_put_r5_b [] 10 #[false, false, false, false, false, false, false, false, false, false] (by kernel_rfl) rfl rfl (fun HT => ?_)
  refine dr HT 0 rfl (by first | exact rBWa ty_55 | exact rBW ty_55 | exact rBA ty_55) ?_
  refine dp HT 1 rfl pM ?_
  refine dp HT 2 rfl pNv ?_
  refine dp HT 3 rfl (pFb fd_35_0) ?_
  refine dr HT 4 rfl (rB1 ty_32) ?_
  refine dp HT 5 rfl pM ?_
  first | refine dp HT 6 rfl (pIx es_32) ?_ | (refine obtDN 37 38 rfl rfl (by omega) (fun x39 hx39 => ?_); refine dp HT 6 rfl (pIs es_32 hx39) ?_) | (refine obtD 37 38 rfl rfl (by omega) (by omega) (fun x39 hx39 => ?_); refine dp HT 6 rfl (pIs es_32 hx39) ?_) | refine dp HT 6 rfl (pIo es_32) ?_
  refine dr HT 7 rfl (rOA ty_55 hy) ?_
  refine dGo ?_
  refine e1 HT 8 rfl ?_
  refine cv rfl rfl rfl (lents_refl _) (lsa_Newer (a := x) (b := y)) ?_
  refine ef HT 9 rfl pMa ?_
  refine eE HT ?_
  clear HT
  refine aCond rfl (fun c32 => ?_) (fun c32 => ?_)
  ·skip
   refine aDrawT base_put_r6_t base_put_r6_b [8] 9 #[false, false, false, false, false, false, false, false, false] (by kernel_rfl) rfl rfl (fun HT => ?_)
   refine dp HT 0 rfl pM ?_
   refine dp HT 1 rfl pNv ?_
   refine dp HT 2 rfl (pFb fd_35_0) ?_
   refine dr HT 3 rfl (rB1 ty_32) ?_
   refine dp HT 4 rfl pM ?_
   refine dr HT 5 rfl (by first | exact rBWa ty_55 | exact rBW ty_55 | exact rBA ty_55) ?_
   refine dGo ?_
   refine e1 HT 6 rfl ?_
   refine ci rfl rfl rfl (lsa_Copy (l := x) (by omega)) ?_
   first | refine ep HT 7 rfl (pIx es_32) ?_ | (refine obtEN 45 46 rfl rfl (by omega) (fun x49 hx49 => ?_); refine ep HT 7 rfl (pIs es_32 hx49) ?_) | (refine obtE 45 46 rfl rfl (by omega) (by omega) (fun x49 hx49 => ?_); refine ep HT 7 rfl (pIs es_32 hx49) ?_) | refine ep HT 7 rfl (pIo es_32) ?_
   refine eLast ?_
   refine f1 HT 8 rfl ?_
   refine oStE (fC := lsaC) (l := s.db) (a := x) (i := ((posK kL s.db x.o : Nat) : Int)) rfl rfl rfl rfl ty_55 ?_
   refine fE HT ?_
   clear HT
   refine aSeq ?_
   refine aReg ?_
   refine sp pMa ?_
   refine oNil ?_
   first
     | (have hP : putDb s.db x = some (insK kL s.db x) := by
          show (if hasK kL s.db x.o = true then (if newerB x (s.db.getD (posK kL s.db x.o) lsa0) = true then some (s.db.set (posK kL s.db x.o) x) else none) else some (insK kL s.db x)) = _
          rw [if_neg (by simp_all)]
        refine aRet ?_
        exact ⟨_, [_, _, _], [_], rfl, (.cons (by repeat constructor) (.cons (by repeat constructor) (.cons (by repeat constructor) .nil))), insK kL s.db x, true, g29, k29, rfl, rfl, .inl ⟨rfl, hP⟩⟩)
     | (have hP : putDb s.db x = some (s.db.set (posK kL s.db x.o) x) := by
          show (if hasK kL s.db x.o = true then (if newerB x (s.db.getD (posK kL s.db x.o) lsa0) = true then some (s.db.set (posK kL s.db x.o) x) else none) else some (insK kL s.db x)) = _
          rw [if_pos (by simp_all), if_pos (by rw [show s.db.getD (posK kL s.db x.o) lsa0 = y by rw [List.getD_eq_getElem?_getD, hy]; rfl]; simp_all)]
        refine aWeak (weak_box (b := sb) (cs' := [.v (slV (some b) (s.db.set (posK kL s.db x.o) x).length c), .int s.upto, .int s.boot, .v (slV g2 s.eps.length c2)]) (by repeat constructor) (by rw [List.length_set])) ?_
        refine aRet ?_
        exact ⟨_, [_, _, _], [_], rfl, (.cons (by repeat constructor) (.cons (by repeat constructor) (.cons (by repeat constructor) .nil))), s.db.set (posK kL s.db x.o) x, true, _, c, rfl, rfl, .inl ⟨rfl, hP⟩⟩)
  ·skip
   refine aSeq ?_
   refine aReg ?_
   refine sp pMa ?_
   refine oNil ?_
   have hP : putDb s.db x = none := by
     show (if hasK kL s.db x.o = true then (if newerB x (s.db.getD (posK kL s.db x.o) lsa0) = true then some (s.db.set (posK kL s.db x.o) x) else none) else some (insK kL s.db x)) = _
     rw [if_pos (by simp_all), if_neg (by rw [show s.db.getD (posK kL s.db x.o) lsa0 = y by rw [List.getD_eq_getElem?_getD, hy]; rfl]; simp_all)]
   refine aRet ?_
   exact ⟨_, [_, _, _], [_], rfl, (.cons (by repeat constructor) (.cons (by repeat constructor) (.cons (by repeat constructor) .nil))), s.db, false, _, c, rfl, rfl, .inr ⟨rfl, hP⟩⟩
end A
end Go.Proofs.YthkgdhamnpiagaaGreat
namespace Go.Proofs.YthkgdhamnpiagaaGreat
namespace A
/- base.epoch -/
def base_epoch_r1_T : Bool × List (List Nat × List Nat) := (true, [([], []), ([0], [0]), ([1], [1]), ([2], [2]), ([], []), ([4], [4]), ([3, 5], [3, 5]), ([6], [6]), ([7], [7]), ([7], [7]), ([8, 6, 0, 1, 2, 3, 4, 5, 6, 7, 8], [8]), ([9, 10, 0, 1, 2, 3, 4, 5, 6, 7, 8, 9, 10], [9])])
def base_epoch_r1_B : List Nat := [0, 1, 3, 7, 0, 16, 63, 127, 255, 255, 511, 2047]
theorem base_epoch_r1_t : Go.Proofs.YthkgdhamnpiagaaGreatW.PrintLast.rtab .any (Go.Proofs.YthkgdhamnpiagaaGreatW.PrintLast.opsOf Tryz.f266 1) = base_epoch_r1_T := by kernel_rfl
theorem base_epoch_r1_b : Go.Proofs.YthkgdhamnpiagaaGreatW.PrintLast.waitsOk base_epoch_r1_T.2 base_epoch_r1_B = true := by kernel_rfl
def base_epoch_r4_T : Bool × List (List Nat × List Nat) := (true, [([], []), ([], []), ([1], [1]), ([2], [2]), ([3], [3]), ([], []), ([], []), ([6], [6]), ([4, 5, 7], [4, 5, 7]), ([0, 0, 1, 2, 3, 4, 5, 6, 7, 8], [0]), ([9, 0, 1, 2, 3, 4, 5, 6, 7, 8], [9]), ([10, 8, 8, 0, 1, 2, 3, 4, 5, 6, 7, 8], [8, 10])])
def base_epoch_r4_B : List Nat := [0, 0, 2, 6, 14, 0, 0, 64, 254, 511, 1023, 2047]
theorem base_epoch_r4_t : Go.Proofs.YthkgdhamnpiagaaGreatW.PrintLast.rtab .any (Go.Proofs.YthkgdhamnpiagaaGreatW.PrintLast.opsOf Tryz.f266 4) = base_epoch_r4_T := by kernel_rfl
theorem base_epoch_r4_b : Go.Proofs.YthkgdhamnpiagaaGreatW.PrintLast.waitsOk base_epoch_r4_T.2 base_epoch_r4_B = true := by kernel_rfl
def base_epoch_r5_T : Bool × List (List Nat × List Nat) := (true, [([], []), ([0], [0]), ([], []), ([2], [2]), ([3], [3]), ([4], [4]), ([], []), ([5, 6], [5, 6]), ([7], [7]), ([8], [8]), ([1, 9], [1, 9]), ([10], [10])])
def base_epoch_r5_B : List Nat := [0, 1, 0, 4, 12, 28, 0, 124, 252, 508, 1023, 2047]
theorem base_epoch_r5_t : Go.Proofs.YthkgdhamnpiagaaGreatW.PrintLast.rtab .any (Go.Proofs.YthkgdhamnpiagaaGreatW.PrintLast.opsOf Tryz.f266 5) = base_epoch_r5_T := by kernel_rfl
theorem base_epoch_r5_b : Go.Proofs.YthkgdhamnpiagaaGreatW.PrintLast.waitsOk base_epoch_r5_T.2 base_epoch_r5_B = true := by kernel_rfl
def base_epoch_r6_T : Bool × List (List Nat × List Nat) := (true, [([], []), ([0], [0]), ([1], [1]), ([2], [2]), ([], []), ([], []), ([3, 4, 0, 1, 2, 3, 4, 5], [3, 4]), ([6, 5, 0, 1, 2, 3, 4, 5], [5, 6])])
def base_epoch_r6_B : List Nat := [0, 1, 3, 7, 0, 0, 63, 127]
theorem base_epoch_r6_t : Go.Proofs.YthkgdhamnpiagaaGreatW.PrintLast.rtab .any (Go.Proofs.YthkgdhamnpiagaaGreatW.PrintLast.opsOf Tryz.f266 6) = base_epoch_r6_T := by kernel_rfl
theorem base_epoch_r6_b : Go.Proofs.YthkgdhamnpiagaaGreatW.PrintLast.waitsOk base_epoch_r6_T.2 base_epoch_r6_B = true := by kernel_rfl
set_option maxRecDepth 100000 in
set_option maxHeartbeats 4000000 in
theorem base_epoch {sb : Nat} {s : St} {g g2 : Option Nat} {c c2 : Nat} {x : Ep} (hs : s.eps.Pairwise (fun x y => kE x < kE y)) (hl : s.eps.length ≤ 1000) : Triple Tryz.prog 266 [.v (.pointer (some ⟨sb, 0, none⟩)), .agg (epC x)] [.box sb [.v (slV g (s).db.length c), .int (s).upto, .int (s).boot, .v (slV g2 (s).eps.length c2)], .sl g c 55 3 ((s).db.map lsaC), .sl g2 c2 132 2 ((s).eps.map epC)] (fun q h' => ∃ d ok g' c', q = .v (.bool ok) ∧ h' = [.box sb [.v (slV g (({ s with eps := d } : St)).db.length c), .int (({ s with eps := d } : St)).upto, .int (({ s with eps := d } : St)).boot, .v (slV g' (({ s with eps := d } : St)).eps.length c')], .sl g c 55 3 ((({ s with eps := d } : St)).db.map lsaC), .sl g' c' 132 2 ((({ s with eps := d } : St)).eps.map epC)] ∧ (ok = true ∧ putEp s.eps x = some d ∨ ok = false ∧ putEp s.eps x = none)) := by
 refine triple_of Tryz.func266 rfl (by kernel_rfl) rfl (by simp) ?_
 refine aSeq ?_
 refine aReg ?_
 refine sq ?_
 refine qBox rfl rfl (by decide) rfl rfl (fun b3 => ?_)
 refine sp pMa ?_
 refine oNil ?_
 refine aSeq ?_
 refine aDrawT base_epoch_r1_t base_epoch_r1_b [] 12 #[false, false, false, false, false, false, false, false, false, false, false, false] (by kernel_rfl) rfl rfl (fun HT => ?_)
 refine dp HT 0 rfl pM ?_
 refine dp HT 1 rfl pNv ?_
 refine dp HT 2 rfl (pFb fd_35_3) ?_
 refine dr HT 3 rfl (rB1 ty_33) ?_
 refine dp HT 4 rfl (pFb fd_132_0) ?_
 refine dr HT 5 rfl (rB1 ty_3) ?_
 refine dGo ?_
 refine e1 HT 6 rfl ?_
 refine civ rfl rfl rfl (by repeat (first | exact .nil | refine .cons (.sl (by repeat (first | exact List.mem_cons_self | apply List.mem_cons_of_mem)) (by first | rfl | simp)) ?_ | refine .cons (.same _) ?_)) (bs_Ep (f := 323) (fun x n => base_epoch1) (l := s.eps) (n := x.o) hs (by omega)) flat2 ?_
 refine ef HT 7 rfl pM ?_
 refine ef HT 8 rfl pX ?_
 refine ef HT 9 rfl pX ?_
 refine ef HT 10 rfl pMa ?_
 refine ef HT 11 rfl pMa ?_
 refine eE HT ?_
 clear HT
 refine aSeq ?_
 refine aBlock ?_
 refine aSeq ?_
 refine aReg ?_
 refine sp pM ?_
 refine sp pNo ?_
 refine sp pMa ?_
 refine oNil ?_
 refine aCondNot rfl (fun c17 => ?_) (fun c17 => ?_)
 ·skip
  refine aDrawS (h1 := [.box sb _, .box b3 _]) base_epoch_r4_t base_epoch_r4_b [11] 12 #[false, false, false, false, false, false, false, false, false, false, false, false] (by kernel_rfl) rfl rfl (.cons (by repeat constructor) (.cons (by repeat constructor) .nil)) (fun HT => ?_)
  refine ep HT 0 rfl pM ?_
  refine ep HT 1 rfl pM ?_
  refine ep HT 2 rfl pNv ?_
  refine ep HT 3 rfl (pFb fd_35_3) ?_
  refine er HT 4 rfl (rB1 ty_33) ?_
  refine ep HT 5 rfl pM ?_
  refine er HT 6 rfl (by first | exact rBWa ty_132 | exact rBW ty_132 | exact rBA ty_132) ?_
  refine e1 HT 7 rfl ?_
  refine qLit (l := [_]) rfl rfl (by decide) us_33 ty_132 ze_132 rfl (by decide) (by decide) rfl rfl rfl (fun b27 => ?_)
  refine eOneS (i := 8) #[true, true, true, true, true, true, true, true, true, false, false, false] rfl (HT.one (by kernel_rfl)) (by decide) ?_
  ·skip
   refine stA (hx := [.sl g2 c2 _ _ _, .sl (some b27) _ _ _ _]) (wantN rfl) (fun t ht => by cases ht <;> decide) (.cons (by repeat constructor) (.cons (by repeat constructor) .nil)) (by repeat constructor) ?_
   first | refine coM rfl rfl rfl (insert_Ep (l := s.eps) (x := x) (posK_le s.eps x.o) (by omega)) (fun g28 k28 => ?_) | refine co rfl rfl rfl (insert_Ep (l := s.eps) (x := x) (posK_le s.eps x.o) (by omega)) (fun g28 k28 => ?_)
   refine undel (d := 28) rfl ?_
   try dsimp only [List.cons_append, List.nil_append]
   refine ep HT 9 rfl pNv ?_
   refine ep HT 10 rfl (pFb fd_35_3) ?_
   refine eLast ?_
   refine f1 HT 11 rfl ?_
   refine oStB rfl rfl rfl rfl (by repeat constructor) ty_33 rfl (Nat.le_of_ble_eq_true rfl) rfl ?_
   refine fE HT ?_
   clear HT
   refine aSeq ?_
   refine aReg ?_
   refine sp pMa ?_
   refine oNil ?_
   first
     | (have hP : putEp s.eps x = some (insK kE s.eps x) := by
          show (if hasK kE s.eps x.o = true then (if (s.eps.getD (posK kE s.eps x.o) ⟨0, 0⟩).n < x.n then some (s.eps.set (posK kE s.eps x.o) x) else none) else some (insK kE s.eps x)) = _
          rw [if_neg (by simp_all)]
        refine aRet ?_
        exact ⟨_, [_, _, _], [_], rfl, (.cons (by repeat constructor) (.cons (by repeat constructor) (.cons (by repeat constructor) .nil))), insK kE s.eps x, true, g28, k28, rfl, rfl, .inl ⟨rfl, hP⟩⟩)
     | (have hP : putEp s.eps x = some (s.eps.set (posK kE s.eps x.o) x) := by
          show (if hasK kE s.eps x.o = true then (if (s.eps.getD (posK kE s.eps x.o) ⟨0, 0⟩).n < x.n then some (s.eps.set (posK kE s.eps x.o) x) else none) else some (insK kE s.eps x)) = _
          rw [if_pos (by simp_all), if_pos (by rw [show s.eps.getD (posK kE s.eps x.o) ⟨0, 0⟩ = y by rw [List.getD_eq_getElem?_getD, hy]; rfl]; simp_all)]
        refine aWeak (weak_box (b := sb) (cs' := [.v (slV g s.db.length c), .int s.upto, .int s.boot, .v (slV (some b) (s.eps.set (posK kE s.eps x.o) x).length c2)]) (by repeat constructor) (by rw [List.length_set])) ?_
        refine aRet ?_
        exact ⟨_, [_, _, _], [_], rfl, (.cons (by repeat constructor) (.cons (by repeat constructor) (.cons (by repeat constructor) .nil))), s.eps.set (posK kE s.eps x.o) x, true, _, c2, rfl, rfl, .inl ⟨rfl, hP⟩⟩)
 ·skip
  refine aSeq ?_
  obtain ⟨y, hy, hyo⟩ := hasK_at (f := kE) hs (n := x.o) (by simp_all)
  have hyl := (List.getElem?_eq_some_iff.1 hy).1
  refine aSome (g := g2) (c := c2) (e := 132) (sz := 2) (es := s.eps.map epC) (by repeat constructor) (by intro e; have e2 := congrArg List.length e; rw [List.length_map, List.length_nil] at e2; omega) (fun b hb => ?_)
  subst hb
  refine aDrawT base_epoch_r5_t base_epoch_r5_b [] 12 #[false, false, false, false, false, false, false, false, false, false, false, false] (by kernel_rfl) rfl rfl (fun HT => ?_)
  refine dp HT 0 rfl (pFb fd_132_1) ?_
  refine dr HT 1 rfl (rB1 ty_3) ?_
  refine dp HT 2 rfl pM ?_
  refine dp HT 3 rfl pNv ?_
  refine dp HT 4 rfl (pFb fd_35_3) ?_
  refine dr HT 5 rfl (rB1 ty_33) ?_
  refine dp HT 6 rfl pM ?_
  first | refine dp HT 7 rfl (pIx es_33) ?_ | (refine obtDN 37 38 rfl rfl (by omega) (fun x39 hx39 => ?_); refine dp HT 7 rfl (pIs es_33 hx39) ?_) | (refine obtD 37 38 rfl rfl (by omega) (by omega) (fun x39 hx39 => ?_); refine dp HT 7 rfl (pIs es_33 hx39) ?_) | refine dp HT 7 rfl (pIo es_33) ?_
  refine dp HT 8 rfl (by first | exact pFb fd_132_1 | exact pFs fd_132_1) ?_
  refine dr HT 9 rfl (rLdO1 (i := posK kE s.eps x.o) (j := 1) (es := s.eps.map epC) rfl rfl (by repeat constructor) ty_3 (by omega) (by rw [List.getElem?_map, hy]; rfl) rfl) ?_
  refine dp HT 10 rfl pB ?_
  refine dp HT 11 rfl pMa ?_
  refine dE HT ?_
  clear HT
  refine aCondDec rfl (fun c31 => ?_) (fun c31 => ?_)
  ·skip
   refine aDrawT base_epoch_r6_t base_epoch_r6_b [7] 8 #[false, false, false, false, false, false, false, false] (by kernel_rfl) rfl rfl (fun HT => ?_)
   refine dp HT 0 rfl pM ?_
   refine dp HT 1 rfl pNv ?_
   refine dp HT 2 rfl (pFb fd_35_3) ?_
   refine dr HT 3 rfl (rB1 ty_33) ?_
   refine dp HT 4 rfl pM ?_
   refine dr HT 5 rfl (by first | exact rBWa ty_132 | exact rBW ty_132 | exact rBA ty_132) ?_
   first | refine dp HT 6 rfl (pIx es_33) ?_ | (refine obtDN 46 47 rfl rfl (by omega) (fun x49 hx49 => ?_); refine dp HT 6 rfl (pIs es_33 hx49) ?_) | (refine obtD 46 47 rfl rfl (by omega) (by omega) (fun x49 hx49 => ?_); refine dp HT 6 rfl (pIs es_33 hx49) ?_) | refine dp HT 6 rfl (pIo es_33) ?_
   refine dGo ?_
   refine eLast ?_
   refine f1 HT 7 rfl ?_
   refine oStE (fC := epC) (l := s.eps) (a := x) (i := ((posK kE s.eps x.o : Nat) : Int)) rfl rfl rfl rfl ty_132 ?_
   refine fE HT ?_
   clear HT
   refine aSeq ?_
   refine aReg ?_
   refine sp pMa ?_
   refine oNil ?_
   first
     | (have hP : putEp s.eps x = some (insK kE s.eps x) := by
          show (if hasK kE s.eps x.o = true then (if (s.eps.getD (posK kE s.eps x.o) ⟨0, 0⟩).n < x.n then some (s.eps.set (posK kE s.eps x.o) x) else none) else some (insK kE s.eps x)) = _
          rw [if_neg (by simp_all)]
        refine aRet ?_
        exact ⟨_, [_, _, _], [_], rfl, (.cons (by repeat constructor) (.cons (by repeat constructor) (.cons (by repeat constructor) .nil))), insK kE s.eps x, true, g28, k28, rfl, rfl, .inl ⟨rfl, hP⟩⟩)
     | (have hP : putEp s.eps x = some (s.eps.set (posK kE s.eps x.o) x) := by
          show (if hasK kE s.eps x.o = true then (if (s.eps.getD (posK kE s.eps x.o) ⟨0, 0⟩).n < x.n then some (s.eps.set (posK kE s.eps x.o) x) else none) else some (insK kE s.eps x)) = _
          rw [if_pos (by simp_all), if_pos (by rw [show s.eps.getD (posK kE s.eps x.o) ⟨0, 0⟩ = y by rw [List.getD_eq_getElem?_getD, hy]; rfl]; simp_all)]
        refine aWeak (weak_box (b := sb) (cs' := [.v (slV g s.db.length c), .int s.upto, .int s.boot, .v (slV (some b) (s.eps.set (posK kE s.eps x.o) x).length c2)]) (by repeat constructor) (by rw [List.length_set])) ?_
        refine aRet ?_
        exact ⟨_, [_, _, _], [_], rfl, (.cons (by repeat constructor) (.cons (by repeat constructor) (.cons (by repeat constructor) .nil))), s.eps.set (posK kE s.eps x.o) x, true, _, c2, rfl, rfl, .inl ⟨rfl, hP⟩⟩)
  ·skip
   refine aSeq ?_
   refine aReg ?_
   refine sp pMa ?_
   refine oNil ?_
   have hP : putEp s.eps x = none := by
     show (if hasK kE s.eps x.o = true then (if (s.eps.getD (posK kE s.eps x.o) ⟨0, 0⟩).n < x.n then some (s.eps.set (posK kE s.eps x.o) x) else none) else some (insK kE s.eps x)) = _
     rw [if_pos (by simp_all), if_neg (by rw [show s.eps.getD (posK kE s.eps x.o) ⟨0, 0⟩ = y by rw [List.getD_eq_getElem?_getD, hy]; rfl]; simp_all)]
   refine aRet ?_
   exact ⟨_, [_, _, _], [_], rfl, (.cons (by repeat constructor) (.cons (by repeat constructor) (.cons (by repeat constructor) .nil))), s.eps, false, _, c2, rfl, rfl, .inr ⟨rfl, hP⟩⟩
/- base.raise -/
set_option maxRecDepth 100000 in
set_option maxHeartbeats 400000 in
theorem base_raise1 {sb : Nat} {u n : Int} {a0 a2 a3 : AV} : Triple Tryz.prog 265 [.v (.pointer (some ⟨sb, 1, none⟩)), .int n] [.box sb [a0, .int u, a2, a3]] (Is (.v (.bool (decide (u < n)))) [.box sb [a0, .int (if u < n then n else u), a2, a3]]) := by
 refine triple_of Tryz.func265 rfl (by kernel_rfl) rfl (by simp) ?_
 refine aSeq ?_
 refine aReg ?_
 refine sp pMa ?_
 refine oNil ?_
 refine aSeq ?_
 refine aSeq ?_
 refine aReg ?_
 refine sp pM ?_
 refine sp pM ?_
 refine sp pNv ?_
 refine sr (rB1 ty_3) ?_
 refine sp pB ?_
 refine oNil ?_
 refine aCondDec rfl (fun c9 => ?_) (fun c9 => ?_)
 ·skip
  refine aSeq ?_
  refine aReg ?_
  refine sp pMa ?_
  refine oNil ?_
  have hn : ¬ u < n := by omega
  rw [if_neg hn, decide_eq_false hn]
  refine aRet ?_
  exact finIs rfl rfl
 ·skip
  refine aSkip ?_
  refine aSeq ?_
  refine aReg ?_
  refine sp pM ?_
  refine sp pM ?_
  refine sp pNv ?_
  refine sa ?_
  refine oStB rfl rfl rfl rfl (by repeat constructor) ty_3 rfl (Nat.le_of_ble_eq_true rfl) rfl ?_
  refine oNil ?_
  refine aSeq ?_
  refine aReg ?_
  refine sp pMa ?_
  refine oNil ?_
  have hn : u < n := by omega
  rw [if_pos hn, decide_eq_true hn]
  refine aRet ?_
  exact finIs rfl rfl
/- base.raise -/
set_option maxRecDepth 100000 in
set_option maxHeartbeats 400000 in
theorem base_raise2 {sb : Nat} {u n : Int} {a0 a1 a3 : AV} : Triple Tryz.prog 265 [.v (.pointer (some ⟨sb, 2, none⟩)), .int n] [.box sb [a0, a1, .int u, a3]] (Is (.v (.bool (decide (u < n)))) [.box sb [a0, a1, .int (if u < n then n else u), a3]]) := by
 refine triple_of Tryz.func265 rfl (by kernel_rfl) rfl (by simp) ?_
 refine aSeq ?_
 refine aReg ?_
 refine sp pMa ?_
 refine oNil ?_
 refine aSeq ?_
 refine aSeq ?_
 refine aReg ?_
 refine sp pM ?_
 refine sp pM ?_
 refine sp pNv ?_
 refine sr (rB1 ty_3) ?_
 refine sp pB ?_
 refine oNil ?_
 refine aCondDec rfl (fun c9 => ?_) (fun c9 => ?_)
 ·skip
  refine aSeq ?_
  refine aReg ?_
  refine sp pMa ?_
  refine oNil ?_
  have hn : ¬ u < n := by omega
  rw [if_neg hn, decide_eq_false hn]
  refine aRet ?_
  exact finIs rfl rfl
 ·skip
  refine aSkip ?_
  refine aSeq ?_
  refine aReg ?_
  refine sp pM ?_
  refine sp pM ?_
  refine sp pNv ?_
  refine sa ?_
  refine oStB rfl rfl rfl rfl (by repeat constructor) ty_3 rfl (Nat.le_of_ble_eq_true rfl) rfl ?_
  refine oNil ?_
  refine aSeq ?_
  refine aReg ?_
  refine sp pMa ?_
  refine oNil ?_
  have hn : u < n := by omega
  rw [if_pos hn, decide_eq_true hn]
  refine aRet ?_
  exact finIs rfl rfl
end A
end Go.Proofs.YthkgdhamnpiagaaGreat
namespace Go.Proofs.YthkgdhamnpiagaaGreat
namespace A
/- base.do -/
def base_do_r5_T : Bool × List (List Nat × List Nat) := (true, [([], []), ([0], [0]), ([1], [1]), ([], []), ([3], [3]), ([2, 4], [2, 4]), ([5, 5, 0, 1, 2, 3, 4, 5], [5])])
def base_do_r5_B : List Nat := [0, 1, 3, 0, 8, 31, 63]
theorem base_do_r5_t : Go.Proofs.YthkgdhamnpiagaaGreatW.PrintLast.rtab .any (Go.Proofs.YthkgdhamnpiagaaGreatW.PrintLast.opsOf Tryz.f173 5) = base_do_r5_T := by kernel_rfl
theorem base_do_r5_b : Go.Proofs.YthkgdhamnpiagaaGreatW.PrintLast.waitsOk base_do_r5_T.2 base_do_r5_B = true := by kernel_rfl
def base_do_r7_T : Bool × List (List Nat × List Nat) := (true, [([], []), ([0], [0]), ([1], [1]), ([], []), ([3], [3]), ([2, 4], [2, 4]), ([5, 5, 0, 1, 2, 3, 4, 5], [5])])
def base_do_r7_B : List Nat := [0, 1, 3, 0, 8, 31, 63]
theorem base_do_r7_t : Go.Proofs.YthkgdhamnpiagaaGreatW.PrintLast.rtab .any (Go.Proofs.YthkgdhamnpiagaaGreatW.PrintLast.opsOf Tryz.f173 7) = base_do_r7_T := by kernel_rfl
theorem base_do_r7_b : Go.Proofs.YthkgdhamnpiagaaGreatW.PrintLast.waitsOk base_do_r7_T.2 base_do_r7_B = true := by kernel_rfl
set_option maxRecDepth 100000 in
set_option maxHeartbeats 4000000 in
theorem base_do {sb : Nat} {s : St} {g g2 : Option Nat} {c c2 : Nat} {ch : Chg} (hs : s.db.Pairwise (fun x y => kL x < kL y)) (he : s.eps.Pairwise (fun x y => kE x < kE y)) (hl : s.db.length ≤ 1000) (hel : s.eps.length ≤ 1000) (hc : okC ch = true) : Triple Tryz.prog 173 [.v (.pointer (some ⟨sb, 0, none⟩)), .agg (chgC ch)] [.box sb [.v (slV g (s).db.length c), .int (s).upto, .int (s).boot, .v (slV g2 (s).eps.length c2)], .sl g c 55 3 ((s).db.map lsaC), .sl g2 c2 132 2 ((s).eps.map epC)] (fun q h' => ∃ s' ok g' c' g2' c2', q = .v (.bool ok) ∧ h' = [.box sb [.v (slV g' (s').db.length c'), .int (s').upto, .int (s').boot, .v (slV g2' (s').eps.length c2')], .sl g' c' 55 3 ((s').db.map lsaC), .sl g2' c2' 132 2 ((s').eps.map epC)] ∧ (ok = true ∧ doC s ch = some s' ∨ ok = false ∧ doC s ch = none)) := by
 have hkk := kindC hc
 have hll : ch.kind = 1 → ch.lsa.ls.length ≤ 16 := fun h1 => by
   rcases okC_iff.1 hc with h | h | h | h
   ·exact lsa_links h.2.1
   all_goals omega
 refine triple_of Tryz.func173 rfl (by kernel_rfl) rfl (by simp) ?_
 refine aSeq ?_
 refine aReg ?_
 refine sq ?_
 refine qBox rfl rfl (by decide) rfl rfl (fun b3 => ?_)
 refine sp pMa ?_
 refine oNil ?_
 refine aSeq ?_
 refine aSeq ?_
 refine aReg ?_
 refine sp (pFb fd_104_0) ?_
 refine sr (rB1 ty_3) ?_
 refine oNil ?_
 refine aBlock ?_
 refine aSeq ?_
 refine aReg ?_
 refine sp pB ?_
 refine sp pMa ?_
 refine oNil ?_
 refine aCondEq rfl (fun c7 => ?_) (fun c7 => ?_)
 ·skip
  refine aSeq ?_
  refine aReg ?_
  refine sp pM ?_
  refine sp (pFb fd_104_1) ?_
  refine sr (by first | exact rBWa ty_55 | exact rBW ty_55 | exact rBA ty_55) ?_
  refine sa ?_
  refine ca rfl rfl rfl (base_put (x := ch.lsa) hs hl (by have := hll (by omega); omega)) ?_
  rintro _ _ ⟨d, ok, g', c', rfl, rfl, hP⟩
  refine sp pMa ?_
  refine oNil ?_
  refine aRet ?_
  exact ⟨_, [_, _, _], [_], rfl, (.cons (by repeat constructor) (.cons (by repeat constructor) (.cons (by repeat constructor) .nil))), { s with db := d }, ok, g', c', g2, c2, rfl, rfl, by
    rcases hP with ⟨rfl, hP⟩ | ⟨rfl, hP⟩
    ·exact .inl ⟨rfl, by unfold doC; rw [if_pos (by omega), hP]; rfl⟩
    ·exact .inr ⟨rfl, by unfold doC; rw [if_pos (by omega), hP]; rfl⟩⟩
 ·skip
  refine aSeq ?_
  refine aReg ?_
  refine sp pB ?_
  refine sp pMa ?_
  refine oNil ?_
  refine aCondEq rfl (fun c13 => ?_) (fun c13 => ?_)
  ·skip
   refine aSeq ?_
   refine aDrawS (h1 := [.box b3 _]) base_do_r5_t base_do_r5_b [] 7 #[false, false, false, false, false, false, false] (by kernel_rfl) rfl rfl (.cons (by repeat constructor) .nil) (fun HT => ?_)
   refine ep HT 0 rfl pM ?_
   refine ep HT 1 rfl pNv ?_
   refine ep HT 2 rfl (pFb fd_35_1) ?_
   refine ep HT 3 rfl (pFb fd_104_2) ?_
   refine er HT 4 rfl (rB1 ty_3) ?_
   refine eOneS (i := 5) #[true, true, true, true, true, true, false] rfl (HT.one (by kernel_rfl)) (by decide) ?_
   ·skip
    refine stA (hx := [.box sb _]) (wantN rfl) (fun t ht => by cases ht <;> decide) (.cons (by repeat constructor) .nil) (by repeat constructor) ?_
    refine cai rfl rfl rfl (base_raise1 (sb := sb) (u := s.upto) (n := ch.n)) ?_
    refine undel (d := 20) rfl ?_
    try dsimp only [List.cons_append, List.nil_append]
    refine ePure (i := 6) #[true, true, true, true, true, true, true] rfl rfl rfl (HT.any (by kernel_rfl)) (by exact pMa) (by decide) ?_
    refine eE HT ?_
    clear HT
    by_cases hn : s.upto < ch.n
    ·rw [if_pos hn, decide_eq_true hn]
     refine aRet ?_
     exact ⟨_, [_, _, _], [_], rfl, (.cons (by repeat constructor) (.cons (by repeat constructor) (.cons (by repeat constructor) .nil))), { s with upto := ch.n }, true, g, c, g2, c2, rfl, rfl, .inl ⟨rfl, by unfold doC; rw [if_neg (by omega), if_pos (by omega), if_pos hn]⟩⟩
    ·rw [if_neg hn, decide_eq_false hn]
     refine aRet ?_
     exact ⟨_, [_, _, _], [_], rfl, (.cons (by repeat constructor) (.cons (by repeat constructor) (.cons (by repeat constructor) .nil))), s, false, g, c, g2, c2, rfl, rfl, .inr ⟨rfl, by unfold doC; rw [if_neg (by omega), if_pos (by omega), if_neg hn]⟩⟩
  ·skip
   refine aSeq ?_
   refine aReg ?_
   refine sp pB ?_
   refine sp pMa ?_
   refine oNil ?_
   refine aCondEq rfl (fun c21 => ?_) (fun c21 => ?_)
   ·skip
    refine aSeq ?_
    refine aDrawS (h1 := [.box b3 _]) base_do_r7_t base_do_r7_b [] 7 #[false, false, false, false, false, false, false] (by kernel_rfl) rfl rfl (.cons (by repeat constructor) .nil) (fun HT => ?_)
    refine ep HT 0 rfl pM ?_
    refine ep HT 1 rfl pNv ?_
    refine ep HT 2 rfl (pFb fd_35_2) ?_
    refine ep HT 3 rfl (pFb fd_104_2) ?_
    refine er HT 4 rfl (rB1 ty_3) ?_
    refine eOneS (i := 5) #[true, true, true, true, true, true, false] rfl (HT.one (by kernel_rfl)) (by decide) ?_
    ·skip
     refine stA (hx := [.box sb _]) (wantN rfl) (fun t ht => by cases ht <;> decide) (.cons (by repeat constructor) .nil) (by repeat constructor) ?_
     refine cai rfl rfl rfl (base_raise2 (sb := sb) (u := s.boot) (n := ch.n)) ?_
     refine undel (d := 28) rfl ?_
     try dsimp only [List.cons_append, List.nil_append]
     refine ePure (i := 6) #[true, true, true, true, true, true, true] rfl rfl rfl (HT.any (by kernel_rfl)) (by exact pMa) (by decide) ?_
     refine eE HT ?_
     clear HT
     by_cases hn : s.boot < ch.n
     ·rw [if_pos hn, decide_eq_true hn]
      refine aRet ?_
      exact ⟨_, [_, _, _], [_], rfl, (.cons (by repeat constructor) (.cons (by repeat constructor) (.cons (by repeat constructor) .nil))), { s with boot := ch.n }, true, g, c, g2, c2, rfl, rfl, .inl ⟨rfl, by unfold doC; rw [if_neg (by omega), if_neg (by omega), if_pos (by omega), if_pos hn]⟩⟩
     ·rw [if_neg hn, decide_eq_false hn]
      refine aRet ?_
      exact ⟨_, [_, _, _], [_], rfl, (.cons (by repeat constructor) (.cons (by repeat constructor) (.cons (by repeat constructor) .nil))), s, false, g, c, g2, c2, rfl, rfl, .inr ⟨rfl, by unfold doC; rw [if_neg (by omega), if_neg (by omega), if_pos (by omega), if_neg hn]⟩⟩
   ·skip
    refine aSkip ?_
    refine aSeq ?_
    refine aReg ?_
    refine sp pM ?_
    refine sp (pFb fd_104_3) ?_
    refine sr (rB1 ty_3) ?_
    refine sp (pFb fd_104_2) ?_
    refine sr (rB1 ty_3) ?_
    refine sp (pBuild rfl st_132 ze_132 rfl rfl rfl rfl) ?_
    refine sa ?_
    refine ca rfl rfl rfl (base_epoch (x := ⟨ch.o, ch.n⟩) he hel) ?_
    rintro _ _ ⟨d, ok, g', c', rfl, rfl, hP⟩
    refine sp pMa ?_
    refine oNil ?_
    refine aRet ?_
    exact ⟨_, [_, _, _], [_], rfl, (.cons (by repeat constructor) (.cons (by repeat constructor) (.cons (by repeat constructor) .nil))), { s with eps := d }, ok, g, c, g', c', rfl, rfl, by
      rcases hP with ⟨rfl, hP⟩ | ⟨rfl, hP⟩
      ·exact .inl ⟨rfl, by unfold doC; rw [if_neg (by omega), if_neg (by omega), if_neg (by omega), hP]; rfl⟩
      ·exact .inr ⟨rfl, by unfold doC; rw [if_neg (by omega), if_neg (by omega), if_neg (by omega), hP]; rfl⟩⟩
end A
end Go.Proofs.YthkgdhamnpiagaaGreat
namespace Go.Proofs.YthkgdhamnpiagaaGreat
namespace A
/- api.Lsa] -/
set_option maxRecDepth 100000 in
set_option maxHeartbeats 400000 in
theorem clone_Lsa {l : List Lsa} (hl : l.length ≤ 1000000 := by omega) : Triple Tryz.prog 164 [.sl 3 (l.map lsaC)] [] (Own 55 3 (l.map lsaC) []) := by
 refine triple_of Tryz.func164 rfl (by kernel_rfl) rfl (by simp) ?_
 refine aSeq ?_
 refine aReg ?_
 refine sp pMa ?_
 refine oNil ?_
 refine aSeq ?_
 refine aSeq ?_
 refine aReg ?_
 refine sp pM ?_
 refine sa ?_
 refine oSlNil rfl (.inl rfl) rfl sl_32 rfl (by decide) (fun q4 hq4 => ?_)
 refine oNil ?_
 refine aCond rfl (fun c4 => ?_) (fun c4 => ?_)
 ·skip
  refine aSeq ?_
  refine aWeak (weak_nil 55 3) ?_
  refine aReg ?_
  refine sp pMa ?_
  refine oNil ?_
  refine aRet ?_
  have he : l = [] := by
    cases l with
    | nil => rfl
    | cons x l => have := hq4 (by simp); simp_all
  subst he
  exact ⟨_, _, _, rfl, .cons .hd .nil, none, 0, rfl, rfl⟩
 ·skip
  refine aSkip ?_
  refine aSeq ?_
  refine aReg ?_
  refine sq ?_
  refine qLit (l := []) rfl rfl (by decide) us_32 ty_55 ze_55 rfl (by decide) (by decide) rfl rfl rfl (fun b5 => ?_)
  refine sp pM ?_
  refine sa ?_
  first | refine oAppT (out := []) _ rfl rfl (by repeat constructor) (.inl rfl) el_32 sl_32 (fun g7 k7 => ?_) | refine oAppT (out := []) _ rfl rfl (by repeat constructor) (srcOwn rfl (by repeat constructor) (by first | rfl | simp)) el_32 sl_32 (fun g7 k7 => ?_)
  refine sp pMa ?_
  refine oNil ?_
  refine aRet ?_
  refine finOwn rfl ?_
  rfl
/- api.Epoch] -/
set_option maxRecDepth 100000 in
set_option maxHeartbeats 400000 in
theorem clone_Ep {l : List Ep} (hl : l.length ≤ 1000000 := by omega) : Triple Tryz.prog 165 [.sl 2 (l.map epC)] [] (Own 132 2 (l.map epC) []) := by
 refine triple_of Tryz.func165 rfl (by kernel_rfl) rfl (by simp) ?_
 refine aSeq ?_
 refine aReg ?_
 refine sp pMa ?_
 refine oNil ?_
 refine aSeq ?_
 refine aSeq ?_
 refine aReg ?_
 refine sp pM ?_
 refine sa ?_
 refine oSlNil rfl (.inl rfl) rfl sl_33 rfl (by decide) (fun q4 hq4 => ?_)
 refine oNil ?_
 refine aCond rfl (fun c4 => ?_) (fun c4 => ?_)
 ·skip
  refine aSeq ?_
  refine aWeak (weak_nil 132 2) ?_
  refine aReg ?_
  refine sp pMa ?_
  refine oNil ?_
  refine aRet ?_
  have he : l = [] := by
    cases l with
    | nil => rfl
    | cons x l => have := hq4 (by simp); simp_all
  subst he
  exact ⟨_, _, _, rfl, .cons .hd .nil, none, 0, rfl, rfl⟩
 ·skip
  refine aSkip ?_
  refine aSeq ?_
  refine aReg ?_
  refine sq ?_
  refine qLit (l := []) rfl rfl (by decide) us_33 ty_132 ze_132 rfl (by decide) (by decide) rfl rfl rfl (fun b5 => ?_)
  refine sp pM ?_
  refine sa ?_
  first | refine oAppT (out := []) _ rfl rfl (by repeat constructor) (.inl rfl) el_33 sl_33 (fun g7 k7 => ?_) | refine oAppT (out := []) _ rfl rfl (by repeat constructor) (srcOwn rfl (by repeat constructor) (by first | rfl | simp)) el_33 sl_33 (fun g7 k7 => ?_)
  refine sp pMa ?_
  refine oNil ?_
  refine aRet ?_
  refine finOwn rfl ?_
  rfl
theorem set_same {α : Type} {l : List α} {i : Nat} {x : α} (h : l[i]? = some x) : l.set i x = l := by
 obtain ⟨hi, rfl⟩ := List.getElem?_eq_some_iff.1 h
 exact List.set_getElem_self hi
/- base.Copy -/
def base_Copy_r1_T : Bool × List (List Nat × List Nat) := (true, [([], []), ([0], [0]), ([1], [1]), ([], []), ([3], [3]), ([4, 2], [4]), ([0, 1, 2, 3, 4], []), ([6, 2, 5, 0, 1, 2, 3, 4], [2, 6]), ([0, 1, 2, 3, 4, 5, 6, 7], []), ([8, 5, 7, 0, 1, 2, 3, 4, 5, 6, 7], [5, 8])])
def base_Copy_r1_B : List Nat := [0, 1, 3, 0, 8, 31, 31, 127, 255, 511]
theorem base_Copy_r1_t : Go.Proofs.YthkgdhamnpiagaaGreatW.PrintLast.rtab .any (Go.Proofs.YthkgdhamnpiagaaGreatW.PrintLast.opsOf Tryz.f74 1) = base_Copy_r1_T := by kernel_rfl
theorem base_Copy_r1_b : Go.Proofs.YthkgdhamnpiagaaGreatW.PrintLast.waitsOk base_Copy_r1_T.2 base_Copy_r1_B = true := by kernel_rfl
def base_Copy_r5_T : Bool × List (List Nat × List Nat) := (true, [([], []), ([0], [0]), ([], []), ([], []), ([3], [3]), ([1, 2, 0, 1, 2, 3, 4], [1, 2]), ([5, 4, 4, 0, 1, 2, 3, 4], [4, 5])])
def base_Copy_r5_B : List Nat := [0, 1, 0, 0, 8, 31, 63]
theorem base_Copy_r5_t : Go.Proofs.YthkgdhamnpiagaaGreatW.PrintLast.rtab .any (Go.Proofs.YthkgdhamnpiagaaGreatW.PrintLast.opsOf Tryz.f74 5) = base_Copy_r5_T := by kernel_rfl
theorem base_Copy_r5_b : Go.Proofs.YthkgdhamnpiagaaGreatW.PrintLast.waitsOk base_Copy_r5_T.2 base_Copy_r5_B = true := by kernel_rfl
set_option maxRecDepth 100000 in
set_option maxHeartbeats 4000000 in
theorem base_Copy {s : St} (hl : s.db.length ≤ 1000) (hel : s.eps.length ≤ 1000) (hk : ∀ x ∈ s.db, x.ls.length ≤ 1000) : Triple Tryz.prog 74 [.agg (stC s)] [] (fun q h' => ∃ g c g2 c2, q = .agg [.v (slV g s.db.length c), .int s.upto, .int s.boot, .v (slV g2 s.eps.length c2)] ∧ h' = [.sl g c 55 3 ((s).db.map lsaC), .sl g2 c2 132 2 ((s).eps.map epC)]) := by
 refine triple_ofR Tryz.func74 rfl (by kernel_rfl) rfl (by simp) ?_
 refine aSeq ?_
 refine aReg ?_
 refine sq ?_
 refine qBox rfl rfl (by decide) rfl rfl (fun b1 => ?_)
 refine sq ?_
 refine qAlloc rfl rfl (by decide) ze_35 rfl (fun b2 => ?_)
 refine oNil ?_
 refine aSeq ?_
 refine aDrawT base_Copy_r1_t base_Copy_r1_b [7, 9] 10 #[false, false, false, false, false, false, false, false, false, false] (by kernel_rfl) rfl rfl (fun HT => ?_)
 refine dp HT 0 rfl (pFb fd_35_0) ?_
 refine dr HT 1 rfl (rB1 ty_32) ?_
 refine dp HT 3 rfl (pFb fd_35_3) ?_
 refine dr HT 4 rfl (rB1 ty_33) ?_
 refine dGo ?_
 refine eOneS (i := 2) #[true, true, true, true, true, false, false, false, false, false] rfl (HT.one (by kernel_rfl)) (by decide) ?_
 ·skip
  refine stA (hx := []) (wantN rfl) (fun t ht => by cases ht <;> decide) .nil (by repeat constructor) ?_
  first | refine coM rfl rfl rfl (clone_Lsa (l := s.db) (by omega)) (fun g7 k7 => ?_) | refine co rfl rfl rfl (clone_Lsa (l := s.db) (by omega)) (fun g7 k7 => ?_)
  refine undel (d := 7) rfl ?_
  try dsimp only [List.cons_append, List.nil_append]
  refine ep HT 6 rfl (pFb fd_35_0) ?_
  refine eOneS (i := 5) #[true, true, true, true, true, true, true, false, false, false] rfl (HT.one (by kernel_rfl)) (by decide) ?_
  ·skip
   refine stA (hx := []) (wantN rfl) (fun t ht => by cases ht <;> decide) .nil (by repeat constructor) ?_
   first | refine coM rfl rfl rfl (clone_Ep (l := s.eps) (by omega)) (fun g10 k10 => ?_) | refine co rfl rfl rfl (clone_Ep (l := s.eps) (by omega)) (fun g10 k10 => ?_)
   refine undel (d := 10) rfl ?_
   try dsimp only [List.cons_append, List.nil_append]
   refine eLast ?_
   refine f1 HT 7 rfl ?_
   refine oStB rfl rfl rfl rfl (by repeat constructor) ty_32 rfl (Nat.le_of_ble_eq_true rfl) rfl ?_
   refine fp HT 8 rfl (pFb fd_35_3) ?_
   refine f1 HT 9 rfl ?_
   refine oStB rfl rfl rfl rfl (by repeat constructor) ty_33 rfl (Nat.le_of_ble_eq_true rfl) rfl ?_
   refine fE HT ?_
   clear HT
   refine aSeq ?_
   refine aSeq ?_
   refine aReg ?_
   refine sp (pFb fd_35_0) ?_
   refine sr (rB1 ty_32) ?_
   refine sp (by first | exact pLm sl_32 | exact pLs sl_32 | exact pLv sl_32) ?_
   refine sp pM ?_
   refine oNil ?_
   refine aBlock ?_
   refine loopF (α := Nat) (kept := [(1, _), (2, _), (14, _), (15, _)]) (fun i => i ≤ s.db.length) (fun i => [(16, .int i)]) (fun i => []) (fun i => s.db.length - i) 0 ?_ ⟨gInt rfl (by first | rfl | omega | simp), rfl, rfl, rfl, rfl, trivial⟩ (by repeat constructor) ?_
   ·skip
    omega
   ·rintro i hi
    refine aSeq ?_
    refine aReg ?_
    refine sp pB ?_
    refine oNil ?_
    refine aSeq ?_
    refine aCondDec rfl (fun c17 => ?_) (fun c17 => ?_)
    ·skip
     refine aSkip ?_
     refine aSeq ?_
     refine aBlock ?_
     refine aSeq ?_
     obtain ⟨x, hx⟩ : ∃ z, s.db[i]? = some z := ⟨_, List.getElem?_eq_getElem (by omega)⟩
     have hxl := (List.getElem?_eq_some_iff.1 hx).1
     refine aSome (g := g7) (c := k7) (e := 55) (sz := 3) (es := s.db.map lsaC) (by repeat constructor) (by intro e; have e2 := congrArg List.length e; rw [List.length_map, List.length_nil] at e2; omega) (fun b hb => ?_)
     subst hb
     refine aReg ?_
     refine sp pM ?_
     first | refine sp (pIx es_32) ?_ | (refine obtSN 14 16 rfl rfl (by omega) (fun x19 hx19 => ?_); refine sp (pIs es_32 hx19) ?_) | (refine obtS 14 16 rfl rfl (by omega) (by omega) (fun x19 hx19 => ?_); refine sp (pIs es_32 hx19) ?_) | refine sp (pIo es_32) ?_
     refine sr (rOA ty_55 hx) ?_
     refine sq ?_
     refine qAlloc rfl rfl (by decide) ze_55 rfl (fun b4 => ?_)
     refine sp pMa ?_
     refine sa ?_
     refine oStW rfl rfl rfl rfl (by repeat constructor) ty_55 ?_
     refine oNil ?_
     refine aDrawT base_Copy_r5_t base_Copy_r5_b [6] 7 #[false, false, false, false, false, false, false] (by kernel_rfl) rfl rfl (fun HT => ?_)
     refine dp HT 0 rfl (pFb fd_35_0) ?_
     refine dr HT 1 rfl (rB1 ty_32) ?_
     refine dp HT 2 rfl pM ?_
     refine dr HT 3 rfl (by first | exact rBWa ty_55 | exact rBW ty_55 | exact rBA ty_55) ?_
     refine dGo ?_
     refine e1 HT 4 rfl ?_
     refine ci rfl rfl rfl (lsa_Copy (l := x) (by have := hk x (List.mem_of_getElem? hx); omega)) ?_
     first | refine ep HT 5 rfl (pIx es_32) ?_ | (refine obtEN 22 23 rfl rfl (by omega) (fun x26 hx26 => ?_); refine ep HT 5 rfl (pIs es_32 hx26) ?_) | (refine obtE 22 23 rfl rfl (by omega) (by omega) (fun x26 hx26 => ?_); refine ep HT 5 rfl (pIs es_32 hx26) ?_) | refine ep HT 5 rfl (pIo es_32) ?_
     refine eLast ?_
     refine f1 HT 6 rfl ?_
     refine oStE (fC := lsaC) (l := s.db) (a := x) (i := ((i : Nat) : Int)) rfl rfl rfl rfl ty_55 ?_
     rw [show s.db.set ((i : Int)).toNat x = s.db from set_same hx]
     refine fE HT ?_
     clear HT
     refine aReg ?_
     refine sp pAd ?_
     refine sp pM ?_
     refine oNil ?_
     refine ⟨i + 1, ?_, by (try dsimp only); omega, ⟨gInt rfl (by first | rfl | omega | simp), rfl, rfl, rfl, rfl, trivial⟩, _, (by repeat constructor)⟩
     omega
    ·skip
     refine aExit rfl ?_
     refine aSeq ?_
     refine aReg ?_
     refine sr (by first | exact rBWa ty_35 | exact rBW ty_35 | exact rBA ty_35) ?_
     refine sa ?_
     refine oStW rfl rfl rfl rfl (by repeat constructor) ty_35 ?_
     refine oNil ?_
     refine aRet ?_
     exact ⟨[.agg [.v (slV g7 s.db.length k7), .int s.upto, .int s.boot, .v (slV g10 s.eps.length k10)]], [_, _], _, .cons (.cellA rfl (by repeat (first | exact List.mem_cons_self | apply List.mem_cons_of_mem)) ty_35) .nil, (.cons (by repeat constructor) (.cons (by repeat constructor) .nil)), g7, k7, g10, k10, rfl, rfl⟩
end A
end Go.Proofs.YthkgdhamnpiagaaGreat
namespace Go.Proofs.YthkgdhamnpiagaaGreat
namespace A
theorem putDb_keep {db d : List Lsa} {x : Lsa} (hs : db.Pairwise (fun x y => kL x < kL y)) (h : putDb db x = some d) : d.Pairwise (fun x y => kL x < kL y) ∧ d.length ≤ db.length + 1 := by
 change (if hasK kL db x.o = true then (if newerB x (db.getD (posK kL db x.o) lsa0) = true then some (db.set (posK kL db x.o) x) else none) else some (insK kL db x)) = some d at h
 split at h
 ·rename_i hh
  obtain ⟨y, hy, hyo⟩ := hasK_at (f := kL) hs hh
  split at h
  ·cases h
   exact ⟨setK_sorted hs hy (by rw [hyo]; rfl), by rw [List.length_set]; omega⟩
  ·cases h
 ·rename_i hh
  cases h
  exact ⟨insK_sorted hs (by show hasK kL db x.o = false; simpa using hh), by rw [insK_len]; omega⟩
theorem putEp_keep {db d : List Ep} {x : Ep} (hs : db.Pairwise (fun x y => kE x < kE y)) (h : putEp db x = some d) : d.Pairwise (fun x y => kE x < kE y) ∧ d.length ≤ db.length + 1 := by
 change (if hasK kE db x.o = true then (if (db.getD (posK kE db x.o) ⟨0, 0⟩).n < x.n then some (db.set (posK kE db x.o) x) else none) else some (insK kE db x)) = some d at h
 split at h
 ·rename_i hh
  obtain ⟨y, hy, hyo⟩ := hasK_at (f := kE) hs hh
  split at h
  ·cases h
   exact ⟨setK_sorted hs hy (by rw [hyo]; rfl), by rw [List.length_set]; omega⟩
  ·cases h
 ·rename_i hh
  cases h
  exact ⟨insK_sorted hs (by show hasK kE db x.o = false; simpa using hh), by rw [insK_len]; omega⟩
structure StS (s : St) (n : Nat) : Prop where
 d : s.db.Pairwise (fun x y => kL x < kL y)
 e : s.eps.Pairwise (fun x y => kE x < kE y)
 dl : s.db.length ≤ n
 el : s.eps.length ≤ n
theorem doC_keep {s s' : St} {c : Chg} {n : Nat} (k : StS s n) (h : doC s c = some s') : StS s' (n + 1) := by
 have h1 := k.dl
 have h2 := k.el
 unfold doC at h
 split at h
 ·obtain ⟨d, hd, rfl⟩ := Option.map_eq_some_iff.1 h
  have := putDb_keep k.d hd
  exact ⟨this.1, k.e, by show d.length ≤ n + 1; omega, by show s.eps.length ≤ n + 1; omega⟩
 ·split at h
  ·split at h
   ·cases h; exact ⟨k.d, k.e, by show s.db.length ≤ n + 1; omega, by show s.eps.length ≤ n + 1; omega⟩
   ·cases h
  ·split at h
   ·split at h
    ·cases h; exact ⟨k.d, k.e, by show s.db.length ≤ n + 1; omega, by show s.eps.length ≤ n + 1; omega⟩
    ·cases h
   ·obtain ⟨d, hd, rfl⟩ := Option.map_eq_some_iff.1 h
    have := putEp_keep k.e hd
    exact ⟨k.d, this.1, by show s.db.length ≤ n + 1; omega, by show d.length ≤ n + 1; omega⟩
theorem lsdb_sorted : ∀ {l : List Lsa} {last : Int}, lsdbB last l = true → (∀ x ∈ l, last < kL x) ∧ l.Pairwise (fun x y => kL x < kL y)
 | [], _, _ => by simp
 | x :: l, last, h => by
   simp only [lsdbB, Bool.and_eq_true, decide_eq_true_eq] at h
   have ih := lsdb_sorted h.2
   have hx : last < kL x := h.1.2
   exact ⟨fun y hy => by rcases List.mem_cons.1 hy with rfl | hy; exact hx; have := ih.1 y hy; unfold kL at *; omega, List.pairwise_cons.2 ⟨ih.1, ih.2⟩⟩
theorem eps_sorted : ∀ {l : List Ep} {last : Int}, epsB last l = true → (∀ x ∈ l, last < kE x) ∧ l.Pairwise (fun x y => kE x < kE y)
 | [], _, _ => by simp
 | x :: l, last, h => by
   simp only [epsB, Bool.and_eq_true, decide_eq_true_eq] at h
   have ih := eps_sorted h.2
   have hx : last < kE x := h.1.1
   exact ⟨fun y hy => by rcases List.mem_cons.1 hy with rfl | hy; exact hx; have := ih.1 y hy; unfold kE at *; omega, List.pairwise_cons.2 ⟨ih.1, ih.2⟩⟩
theorem okS_keep {s : St} (h : okS s = true) : StS s 64 := by
 obtain ⟨_, _, h1, h2⟩ := okS_iff.1 h
 exact ⟨(lsdb_sorted h1).2, (eps_sorted h2).2, lsdb_len64 h1, eps_len64 h2⟩
theorem doCs_step {s : St} {l : List Chg} {i : Nat} {c : Chg} (h : l[i]? = some c) : doCs s (l.drop i) = match doC s c with | none => none | some s' => doCs s' (l.drop (i + 1)) := by
 rw [drop_step h]
 rfl
/- api.Change] -/
set_option maxRecDepth 100000 in
set_option maxHeartbeats 400000 in
theorem index_Chg {f : FuncId} {caps : List AV} {p : Chg → Bool} (hf : ∀ x : Chg, Triple Tryz.prog f ([AV.agg (chgC x)] ++ caps) [] (Is (.v (.bool (p x))) [])) (l : List Chg) (hl : l.length ≤ 1000000) : Triple Tryz.prog 263 [.sl 6 (l.map chgC), .fn (.func f) caps] [] (Is (.v (.int .i64 (idxF p l))) []) := by
 refine triple_of Tryz.func263 rfl (by kernel_rfl) rfl (by simp) ?_
 refine aSeq ?_
 refine aReg ?_
 refine sp pMa ?_
 refine oNil ?_
 refine aSeq ?_
 refine aSeq ?_
 refine aReg ?_
 refine sp pM ?_
 refine sp (by first | exact pLm sl_105 | exact pLs sl_105) ?_
 refine sp pM ?_
 refine oNil ?_
 refine aBlock ?_
 refine loopF (α := Nat) (kept := [(0, _), (1, _), (7, _)]) (fun i => i ≤ l.length ∧ ∀ y ∈ l.take i, p y = false) (fun i => [(8, .int i)]) (fun i => []) (fun i => l.length - i) 0 ?_ ⟨gInt rfl (by first | rfl | omega | simp), rfl, rfl, rfl, trivial⟩ (by repeat constructor) ?_
 ·skip
  exact ⟨by omega, fun y hy => by simp at hy⟩
 ·rintro i ⟨hi, hv⟩
  refine aSeq ?_
  refine aReg ?_
  refine sp pB ?_
  refine oNil ?_
  refine aSeq ?_
  refine aCondDec rfl (fun c9 => ?_) (fun c9 => ?_)
  ·skip
   refine aSkip ?_
   refine aSeq ?_
   refine aBlock ?_
   refine aSeq ?_
   refine aReg ?_
   refine sp pM ?_
   refine sp pMa ?_
   refine oNil ?_
   refine aSeq ?_
   obtain ⟨x, hx⟩ : ∃ x, l[i]? = some x := ⟨_, List.getElem?_eq_getElem (by omega)⟩
   refine aReg ?_
   refine sp pM ?_
   refine sp pM ?_
   refine sp pM ?_
   first | refine sp (pIx es_105) ?_ | (refine obtSN 12 13 rfl rfl (by omega) (fun x14 hx14 => ?_); refine sp (pIs es_105 hx14) ?_) | (refine obtS 12 13 rfl rfl (by omega) (by omega) (fun x14 hx14 => ?_); refine sp (pIs es_105 hx14) ?_) | refine sp (pIo es_105) ?_
   refine sr (by first | exact rSW ty_104 rfl | exact rSA ty_104) ?_
   refine sq ?_
   refine cv rfl rfl rfl (lents_refl _) (hf x) ?_
   refine oNil ?_
   refine aCond rfl (fun c16 => ?_) (fun c16 => ?_)
   ·skip
    refine aSeq ?_
    refine aReg ?_
    refine sp pM ?_
    refine sp pMa ?_
    refine oNil ?_
    refine aRet ?_
    refine finIs rfl ?_
    show AV.int _ = AV.int _
    rw [(idxF_at hv hx (by simp_all)).1]
   ·skip
    refine aSkip ?_
    refine aReg ?_
    refine sp pAd ?_
    refine sp pM ?_
    refine oNil ?_
    refine ⟨i + 1, ?_, by (try dsimp only); omega, ⟨gInt rfl (by first | rfl | omega | simp), rfl, rfl, rfl, trivial⟩, _, (by repeat constructor)⟩
    refine ⟨by omega, fun y hy => ?_⟩
    rw [take_step hx] at hy
    rcases List.mem_append.1 hy with hy | hy
    ·exact hv y hy
    ·rw [List.mem_singleton.1 hy]; simp_all
  ·skip
   refine aExit rfl ?_
   refine aSeq ?_
   refine aReg ?_
   refine sp pMa ?_
   refine oNil ?_
   refine aRet ?_
   refine finIs rfl ?_
   show AV.int _ = AV.int _
   rw [take_all (by omega)] at hv
   rw [(idxF_no hv).1]
/- api.Change] -/
set_option maxRecDepth 100000 in
set_option maxHeartbeats 400000 in
theorem contains_Chg {f : FuncId} {caps : List AV} {p : Chg → Bool} (hf : ∀ x : Chg, Triple Tryz.prog f ([AV.agg (chgC x)] ++ caps) [] (Is (.v (.bool (p x))) [])) (l : List Chg) (hl : l.length ≤ 1000000) : Triple Tryz.prog 171 [.sl 6 (l.map chgC), .fn (.func f) caps] [] (Is (.v (.bool (l.any p))) []) := by
 refine triple_of Tryz.func171 rfl (by kernel_rfl) rfl (by simp) ?_
 refine aSeq ?_
 refine aReg ?_
 refine sp pMa ?_
 refine oNil ?_
 refine aSeq ?_
 refine aReg ?_
 refine sp pM ?_
 refine sp pM ?_
 refine sq ?_
 refine cv rfl rfl rfl (lents_refl _) (index_Chg hf l hl) ?_
 refine sp pB ?_
 refine sp pMa ?_
 refine oNil ?_
 refine aRet ?_
 refine finIs rfl ?_
 rw [← anyR_idx]
 rfl
/- base.Apply$1 -/
set_option maxRecDepth 100000 in
set_option maxHeartbeats 400000 in
theorem base_Apply1 {x : Chg} : Triple Tryz.prog 172 [.agg (chgC x)] [] (Is (.v (.bool (!okC x))) []) := by
 refine triple_of Tryz.func172 rfl (by kernel_rfl) rfl (by simp) ?_
 refine aSeq ?_
 refine aReg ?_
 refine sq ?_
 refine qBox rfl rfl (by decide) rfl rfl (fun b1 => ?_)
 refine sp pMa ?_
 refine oNil ?_
 refine aSeq ?_
 refine aReg ?_
 refine sr (by first | exact rBWa ty_104 | exact rBW ty_104 | exact rBA ty_104) ?_
 refine sq ?_
 refine ci rfl rfl rfl (chg_Check (c := x)) ?_
 refine sp pB ?_
 refine sp pMa ?_
 refine oNil ?_
 refine aRet ?_
 refine finIs rfl ?_
 cases h : okC x <;> simp [retOf, h]
/- base.Apply -/
set_option maxRecDepth 100000 in
set_option maxHeartbeats 4000000 in
theorem base_Apply {s : St} {l : List Chg} (hl : s.db.length ≤ 1000) (hel : s.eps.length ≤ 1000) (hll : l.length ≤ 800) : Triple Tryz.prog 77 [.agg (stC s), .sl 6 (l.map chgC)] [] (Is (.tup [.agg (stC (applyS s l)), .int (applyE s l)]) []) := by
 refine triple_ofR Tryz.func77 rfl (by kernel_rfl) rfl (by simp) ?_
 refine aSeq ?_
 refine aReg ?_
 refine sq ?_
 refine qBox rfl rfl (by decide) rfl rfl (fun b2 => ?_)
 refine sq ?_
 refine qAlloc rfl rfl (by decide) ze_35 rfl (fun b4 => ?_)
 refine sp pMa ?_
 refine oNil ?_
 refine aSeq ?_
 refine aSeq ?_
 refine aReg ?_
 refine sr (by first | exact rBWa ty_35 | exact rBW ty_35 | exact rBA ty_35) ?_
 refine sq ?_
 refine ci rfl rfl rfl (base_Check (s := s) (by omega) (by omega)) ?_
 refine sp pB ?_
 refine sp pM ?_
 refine oSplitNe 12 rfl (fun c12 => ?_) (fun c12 => ?_)
 ·skip
  refine gf ?_
  refine gf ?_
  refine sp pK ?_
  refine oNil ?_
  refine aCondT rfl ?_
  refine aSeq ?_
  refine aReg ?_
  refine sp (pBuild rfl st_35 ze_35 rfl rfl rfl rfl) ?_
  refine sa ?_
  refine oStW rfl rfl rfl rfl (by repeat constructor) ty_35 ?_
  refine sp pMa ?_
  refine oNil ?_
  have hE : applyE s l = 1 := by
    unfold applyE
    rw [if_pos (by simp_all)]
  rw [show applyS s l = st0 by unfold applyS; rw [hE]; rfl, hE]
  refine aRet ?_
  refine finRIs (l := [.agg (stC st0), .int 1]) (.cons (.cast (a := .agg [.v (.slice none 0 0), .int 0, .int 0, .v (.slice none 0 0)]) (.cellA rfl (by repeat (first | exact List.mem_cons_self | apply List.mem_cons_of_mem)) ty_35) cast_st0) (.cons (.tmp rfl) .nil)) rfl
 ·skip
  refine gp pM ?_
  refine ga ?_
  refine (cv rfl rfl rfl (lents_refl _) (contains_Chg (f := 172) (caps := []) (p := fun c => !okC c) (fun x => base_Apply1) l (by omega)) ?_).op
  refine sp pK ?_
  refine oNil ?_
  refine aCond rfl (fun c15 => ?_) (fun c15 => ?_)
  ·skip
   refine aSeq ?_
   refine aReg ?_
   refine sp (pBuild rfl st_35 ze_35 rfl rfl rfl rfl) ?_
   refine sa ?_
   refine oStW rfl rfl rfl rfl (by repeat constructor) ty_35 ?_
   refine sp pMa ?_
   refine oNil ?_
   have hE : applyE s l = 1 := by
     unfold applyE
     rw [if_pos (by simp_all)]
   rw [show applyS s l = st0 by unfold applyS; rw [hE]; rfl, hE]
   refine aRet ?_
   refine finRIs (l := [.agg (stC st0), .int 1]) (.cons (.cast (a := .agg [.v (.slice none 0 0), .int 0, .int 0, .v (.slice none 0 0)]) (.cellA rfl (by repeat (first | exact List.mem_cons_self | apply List.mem_cons_of_mem)) ty_35) cast_st0) (.cons (.tmp rfl) .nil)) rfl
  ·skip
   refine aSkip ?_
   refine aSeq ?_
   have hok : okS s = true := by simp_all
   have hany : (l.any fun c => !okC c) = false := by simp_all
   have k0 := okS_keep hok
   refine aReg ?_
   refine sr (by first | exact rBWa ty_35 | exact rBW ty_35 | exact rBA ty_35) ?_
   refine sa ?_
   refine ca rfl rfl rfl (base_Copy (s := s) hl hel (fun x hx => by have := lsa_links (lsdb_mem (okS_iff.1 hok).2.2.1 x hx); omega)) ?_
   rintro _ _ ⟨g0, c0, g20, c20, rfl, rfl⟩
   refine sq ?_
   refine qAlloc rfl rfl (by decide) ze_35 rfl (fun b6 => ?_)
   refine sa ?_
   refine oStW rfl rfl rfl rfl (by repeat constructor) ty_35 ?_
   refine oNil ?_
   refine aSeq ?_
   refine aSeq ?_
   refine aReg ?_
   refine sp pM ?_
   refine sp (by first | exact pLm sl_105 | exact pLs sl_105) ?_
   refine sp pM ?_
   refine oNil ?_
   refine aBlock ?_
   refine loopF (α := Nat × St × Option Nat × Nat × Option Nat × Nat) (kept := [(4, _), (6, _), (19, _), (20, _)]) (fun (i, t, g, c, g2, c2) => i ≤ l.length ∧ StS t (64 + i) ∧ doCs s l = doCs t (l.drop i)) (fun (i, t, g, c, g2, c2) => [(21, .int i)]) (fun (i, t, g, c, g2, c2) => [.box b6 [.v (slV g (t).db.length c), .int (t).upto, .int (t).boot, .v (slV g2 (t).eps.length c2)], .sl g c 55 3 ((t).db.map lsaC), .sl g2 c2 132 2 ((t).eps.map epC)]) (fun (i, t, g, c, g2, c2) => l.length - i) (0, s, g0, c0, g20, c20) ?_ ⟨gInt rfl (by first | rfl | omega | simp), rfl, rfl, rfl, rfl, trivial⟩ (by repeat constructor) ?_
   ·skip
    exact ⟨by omega, k0, rfl⟩
   ·rintro ⟨i, t, g, c, g2, c2⟩ ⟨hi, kt, hv⟩
    refine aSeq ?_
    refine aReg ?_
    refine sp pB ?_
    refine oNil ?_
    refine aSeq ?_
    refine aCondDec rfl (fun c22 => ?_) (fun c22 => ?_)
    ·skip
     refine aSkip ?_
     refine aSeq ?_
     refine aBlock ?_
     refine aSeq ?_
     obtain ⟨x, hx⟩ : ∃ z, l[i]? = some z := ⟨_, List.getElem?_eq_getElem (by omega)⟩
     have hst := doCs_step (s := t) hx
     refine aReg ?_
     first | refine sp (pIx es_105) ?_ | (refine obtSN 19 21 rfl rfl (by omega) (fun x23 hx23 => ?_); refine sp (pIs es_105 hx23) ?_) | (refine obtS 19 21 rfl rfl (by omega) (by omega) (fun x23 hx23 => ?_); refine sp (pIs es_105 hx23) ?_) | refine sp (pIo es_105) ?_
     refine sr (by first | exact rSW ty_104 rfl | exact rSA ty_104) ?_
     refine sq ?_
     refine qAlloc rfl rfl (by decide) ze_104 rfl (fun b8 => ?_)
     refine sa ?_
     refine oStW rfl rfl rfl rfl (by repeat constructor) ty_104 ?_
     refine oNil ?_
     refine aSeq ?_
     refine aReg ?_
     refine sr (by first | exact rBWa ty_104 | exact rBW ty_104 | exact rBA ty_104) ?_
     refine sa ?_
     refine ca rfl rfl rfl (base_do (sb := b6) (s := t) (ch := x) kt.d kt.e (by have := kt.dl; omega) (by have := kt.el; omega) (by have := List.any_eq_false.1 hany x (List.mem_of_getElem? hx); simpa using this)) ?_
     rintro _ _ ⟨t2, okk, g3, c3, g4, c4, rfl, rfl, hP⟩
     refine sp pNo ?_
     refine oNil ?_
     refine aCondNot rfl (fun c27 => ?_) (fun c27 => ?_)
     ·skip
      refine aSeq ?_
      refine aReg ?_
      refine sp (pBuild rfl st_35 ze_35 rfl rfl rfl rfl) ?_
      refine sa ?_
      refine oStW rfl rfl rfl rfl (by repeat constructor) ty_35 ?_
      refine sp pMa ?_
      refine oNil ?_
      have hN : doCs s l = none := by
        rcases hP with ⟨rfl, hP⟩ | ⟨rfl, hP⟩
        ·simp_all
        ·rw [hv, hst, hP]
      have hE : applyE s l = 10 := by
        unfold applyE
        rw [if_neg (by rw [hok, hany]; decide), hN]
      rw [show applyS s l = st0 by unfold applyS; rw [hE]; rfl, hE]
      refine aRet ?_
      refine finRIs (l := [.agg (stC st0), .int 10]) (.cons (.cast (a := .agg [.v (.slice none 0 0), .int 0, .int 0, .v (.slice none 0 0)]) (.cellA rfl (by repeat (first | exact List.mem_cons_self | apply List.mem_cons_of_mem)) ty_35) cast_st0) (.cons (.tmp rfl) .nil)) rfl
     ·skip
      refine aSkip ?_
      refine aReg ?_
      refine sp pAd ?_
      refine sp pM ?_
      refine oNil ?_
      refine ⟨(i + 1, t2, _, _, _, _), ?_, by (try dsimp only); omega, ⟨gInt rfl (by first | rfl | omega | simp), rfl, rfl, rfl, rfl, trivial⟩, _, (by repeat constructor)⟩
      rcases hP with ⟨rfl, hP⟩ | ⟨rfl, hP⟩
      ·refine ⟨by omega, doC_keep kt hP, ?_⟩
       rw [hv, hst, hP]
      ·simp_all
    ·skip
     refine aExit rfl ?_
     refine aSeq ?_
     obtain rfl : i = l.length := by omega
     rw [List.drop_length] at hv
     refine aWeak (weak_settleB (b := b6) (j := 0) (es := t.db.map lsaC) (.cons (by repeat constructor) (.cons (by repeat constructor) .nil)) rfl (by simp)) ?_
     refine aWeak (weak_settleB (b := b6) (j := 3) (es := t.eps.map epC) (.cons (by repeat constructor) (.cons (by repeat constructor) .nil)) rfl (by simp)) ?_
     refine aReg ?_
     refine sr (by first | exact rBWa ty_35 | exact rBW ty_35 | exact rBA ty_35) ?_
     refine sa ?_
     refine oStW rfl rfl rfl rfl (by repeat constructor) ty_35 ?_
     refine sp pMa ?_
     refine oNil ?_
     replace hv : doCs s l = some t := hv
     have hE : applyE s l = 0 := by
       unfold applyE
       rw [if_neg (by rw [hok, hany]; decide), hv]
     rw [show applyS s l = t by unfold applyS; rw [hE, hv]; rfl, hE]
     refine aRet ?_
     refine finRIs (l := [.agg (stC t), .int 0]) (.cons (.cellA rfl (by repeat (first | exact List.mem_cons_self | apply List.mem_cons_of_mem)) ty_35) (.cons (.tmp rfl) .nil)) rfl
end A
end Go.Proofs.YthkgdhamnpiagaaGreat
namespace Go.Proofs.YthkgdhamnpiagaaGreat
namespace A
def sayStep (o : Option St) (r : BS) : Option St := match o with
 | none => none
 | some s => match getCs r with
   | none => none
   | some l => if applyE s l = 0 then some (applyS s l) else none
def say0 (b : BS) : Option St := if 0 < b.length then getS b else some st0
def sayL (b : BS) (recs : List BS) : Option St := recs.foldl sayStep (say0 b)
theorem sayN : ∀ (l : List BS), l.foldl sayStep none = none
 | [] => rfl
 | _ :: l => sayN l
theorem say_step {l : List BS} {i : Nat} {r : BS} {o : Option St} (h : l[i]? = some r) : (l.drop i).foldl sayStep o = (l.drop (i + 1)).foldl sayStep (sayStep o r) := by
 rw [drop_step h]
 rfl
theorem getCs_len {b : BS} {l : List Chg} (h : getCs b = some l) : l.length ≤ 40 := by
 unfold getCs at h
 simp only at h
 split at h
 ·cases h
 ·split at h
  ·cases h
   have := rdChgs_len (RS.num 1 ⟨b, false⟩).1 (RS.num 1 ⟨b, false⟩).2
   omega
  ·cases h
theorem getS_ok {b : BS} {s : St} (h : getS b = some s) : okS s = true := by
 rw [getS_eq] at h
 simp only at h
 split at h
 ·split at h
  ·rename_i h1
   cases h
   simp only [Bool.and_eq_true] at h1
   exact h1.2
  ·cases h
 ·cases h
theorem doCs_keep : ∀ {l : List Chg} {s s' : St} {n : Nat}, StS s n → doCs s l = some s' → StS s' (n + l.length)
 | [], s, s', n, k, h => by cases h; exact k
 | c :: l, s, s', n, k, h => by
   unfold doCs at h
   split at h
   ·cases h
   ·rename_i s1 h1
    have := doCs_keep (doC_keep k h1) h
    rw [List.length_cons, show n + (l.length + 1) = n + 1 + l.length by omega]
    exact this
theorem apply_keep {s : St} {l : List Chg} (h : applyE s l = 0) : StS (applyS s l) (64 + l.length) := by
 have h0 := h
 unfold applyE at h
 split at h
 ·cases h
 ·rename_i h1
  split at h
  ·cases h
  ·rename_i s' hs
   unfold applyS
   rw [h0, if_pos rfl, hs]
   have hok : okS s = true := by
     cases hk : okS s with
     | true => rfl
     | false => simp [hk] at h1
   exact doCs_keep (okS_keep hok) hs
theorem st0_keep : StS st0 200 := ⟨.nil, .nil, by decide, by decide⟩
theorem StS.mono {s : St} {n m : Nat} (k : StS s n) (h : n ≤ m) : StS s m := ⟨k.d, k.e, Nat.le_trans k.dl h, Nat.le_trans k.el h⟩
/- store.say -/
set_option maxRecDepth 100000 in
set_option maxHeartbeats 4000000 in
theorem store_say {b : BS} {recs : List BS} (hb : b.length ≤ 900000) (hk : BOk b) (hl : recs.length ≤ 1000000) (hrb : ∀ r ∈ recs, r.length ≤ 900000) (hrk : ∀ r ∈ recs, BOk r) : Triple Tryz.prog 73 [.sl 1 (b.map by1), .sl 1 (recs.map rowC)] [] (Is (.tup [.agg (stC ((sayL b recs).getD st0)), .v (.bool (sayL b recs).isSome)]) []) := by
 refine triple_ofR Tryz.func73 rfl (by kernel_rfl) rfl (by simp) ?_
 refine aSeq ?_
 refine aReg ?_
 refine sq ?_
 refine qAlloc rfl rfl (by decide) ze_35 rfl (fun b4 => ?_)
 refine sp pMa ?_
 refine oNil ?_
 refine aSeq ?_
 refine aReg ?_
 refine sq ?_
 refine qAlloc rfl rfl (by decide) ze_35 rfl (fun b6 => ?_)
 refine oNil ?_
 refine aSeq ?_
 refine aSeq ?_
 refine aReg ?_
 refine sp pM ?_
 refine sp (by first | exact pLm sl_50 | exact pLs sl_50) ?_
 refine sp pB ?_
 refine oNil ?_
 refine aCondDec rfl (fun c15 => ?_) (fun c15 => ?_)
 ·skip
  refine aSeq ?_
  refine aReg ?_
  refine sp pM ?_
  refine sq ?_
  refine ci rfl rfl rfl (base_Get hb hk) ?_
  refine sp pM ?_
  refine sp pX ?_
  refine sp pX ?_
  refine sq ?_
  refine qAlloc rfl rfl (by decide) ze_35 rfl (fun b7 => ?_)
  refine sa ?_
  refine oStW rfl rfl rfl rfl (by repeat constructor) ty_35 ?_
  refine sp pMa ?_
  refine oNil ?_
  refine aSeq ?_
  refine aSeq ?_
  refine aReg ?_
  refine sp pM ?_
  refine sp pB ?_
  refine oNil ?_
  refine aCondNe rfl (fun c22 => ?_) (fun c22 => ?_)
  ·skip
   refine aSeq ?_
   refine aReg ?_
   refine sp (pBuild rfl st_35 ze_35 rfl rfl rfl rfl) ?_
   refine sa ?_
   refine oStW rfl rfl rfl rfl (by repeat constructor) ty_35 ?_
   refine sp pMa ?_
   refine oNil ?_
   have hN : sayL b recs = none := by
     unfold sayL say0
     rw [if_pos (by omega), show getS b = none by cases hg : getS b <;> simp_all]
     exact sayN _
   rw [hN]
   refine aRet ?_
   refine finRIs (l := [.agg (stC st0), .v (.bool false)]) (.cons (.cast (a := .agg [.v (.slice none 0 0), .int 0, .int 0, .v (.slice none 0 0)]) (.cellA rfl (by repeat (first | exact List.mem_cons_self | apply List.mem_cons_of_mem)) ty_35) cast_st0) (.cons (.tmp rfl) .nil)) rfl
  ·skip
   refine aSkip ?_
   refine aReg ?_
   refine sr (by first | exact rBWa ty_35 | exact rBW ty_35 | exact rBA ty_35) ?_
   refine sa ?_
   refine oStW rfl rfl rfl rfl (by repeat constructor) ty_35 ?_
   refine oNil ?_
   refine aSeq ?_
   refine aSeq ?_
   obtain ⟨s1, hs1, ks1⟩ : ∃ s1, say0 b = some s1 ∧ StS s1 200 := by
     unfold say0
     split
     ·cases hg : getS b with
      | none => simp_all
      | some z => exact ⟨z, rfl, (okS_keep (getS_ok hg)).mono (by decide)⟩
     ·exact ⟨st0, rfl, st0_keep⟩
   refine aWeak (weak_castB (b := b6) (cs' := stC s1) (by repeat constructor) (by
     unfold say0 at hs1
     first
       | (rw [if_pos (by omega)] at hs1; rw [hs1]; exact .cons .refl (.cons .refl (.cons .refl (.cons .refl .nil))))
       | (rw [if_neg (by omega)] at hs1; cases hs1; exact .cons cast_nil (.cons .refl (.cons .refl (.cons cast_nil .nil)))))) ?_
   refine aReg ?_
   refine sp pM ?_
   refine sp (by first | exact pLm sl_177 | exact pLs sl_177) ?_
   refine sp pM ?_
   refine oNil ?_
   refine aBlock ?_
   refine loopF (α := Nat × St) (kept := [(4, _), (6, _), (25, _), (26, _)]) (fun (i, s) => i ≤ recs.length ∧ StS s 200 ∧ sayL b recs = (recs.drop i).foldl sayStep (some s)) (fun (i, s) => [(27, .int i)]) (fun (i, s) => [.box b6 (stC s)]) (fun (i, s) => recs.length - i) (0, s1) ?_ ⟨gInt rfl (by first | rfl | omega | simp), rfl, rfl, rfl, rfl, trivial⟩ (by repeat constructor) ?_
   ·skip
    exact ⟨by omega, ks1, by unfold sayL; rw [hs1]; rfl⟩
   ·rintro ⟨i, s⟩ ⟨hi, ks, hv⟩
    refine aSeq ?_
    refine aReg ?_
    refine sp pB ?_
    refine oNil ?_
    refine aSeq ?_
    refine aCondDec rfl (fun c28 => ?_) (fun c28 => ?_)
    ·skip
     refine aSkip ?_
     refine aSeq ?_
     refine aBlock ?_
     refine aSeq ?_
     obtain ⟨r, hr⟩ : ∃ z, recs[i]? = some z := ⟨_, List.getElem?_eq_getElem (by omega)⟩
     have hst := say_step (o := some s) hr
     refine aReg ?_
     first | refine sp (pIx es_177) ?_ | (refine obtSN 25 27 rfl rfl (by omega) (fun x29 hx29 => ?_); refine sp (pIs es_177 hx29) ?_) | (refine obtS 25 27 rfl rfl (by omega) (by omega) (fun x29 hx29 => ?_); refine sp (pIs es_177 hx29) ?_) | refine sp (pIo es_177) ?_
     refine sr (rS1 ty_50) ?_
     refine sp pMa ?_
     refine oNil ?_
     refine aSeq ?_
     refine aReg ?_
     refine sp pM ?_
     refine sq ?_
     refine ci rfl rfl rfl (chg_Get (b := r) (hrb r (List.mem_of_getElem? hr)) (hrk r (List.mem_of_getElem? hr))) ?_
     refine sp pM ?_
     refine sp pX ?_
     refine sp pX ?_
     refine sp pMa ?_
     refine sp pMa ?_
     refine oNil ?_
     refine aSeq ?_
     refine aSeq ?_
     refine aReg ?_
     refine sp pM ?_
     refine sp pB ?_
     refine oNil ?_
     refine aCondNe rfl (fun c37 => ?_) (fun c37 => ?_)
     ·skip
      refine aSeq ?_
      refine aReg ?_
      refine sp (pBuild rfl st_35 ze_35 rfl rfl rfl rfl) ?_
      refine sa ?_
      refine oStW rfl rfl rfl rfl (by repeat constructor) ty_35 ?_
      refine sp pMa ?_
      refine oNil ?_
      have hN : sayL b recs = none := by
        rw [hv, hst, show sayStep (some s) r = none by simp only [sayStep]; rw [show getCs r = none by cases hg : getCs r <;> simp_all [getE]]]
        exact sayN _
      rw [hN]
      refine aRet ?_
      refine finRIs (l := [.agg (stC st0), .v (.bool false)]) (.cons (.cast (a := .agg [.v (.slice none 0 0), .int 0, .int 0, .v (.slice none 0 0)]) (.cellA rfl (by repeat (first | exact List.mem_cons_self | apply List.mem_cons_of_mem)) ty_35) cast_st0) (.cons (.tmp rfl) .nil)) rfl
     ·skip
      refine aSkip ?_
      refine aSeq ?_
      obtain ⟨l, hg⟩ : ∃ l, getCs r = some l := by
        cases hg : getCs r with
        | none => simp_all [getE]
        | some l => exact ⟨l, rfl⟩
      rw [hg]
      simp only [Option.getD_some]
      refine aReg ?_
      refine sr (by first | exact rBWa ty_35 | exact rBW ty_35 | exact rBA ty_35) ?_
      refine sp pM ?_
      refine sq ?_
      refine ci rfl rfl rfl (base_Apply (s := s) (l := l) (by have := ks.dl; omega) (by have := ks.el; omega) (by have := getCs_len hg; omega)) ?_
      refine sp pM ?_
      refine sp pX ?_
      refine sp pX ?_
      refine sa ?_
      refine oStW rfl rfl rfl rfl (by repeat constructor) ty_35 ?_
      refine sp pMa ?_
      refine oNil ?_
      refine aSeq ?_
      refine aReg ?_
      refine sp pM ?_
      refine sp pB ?_
      refine oNil ?_
      refine aCondNe rfl (fun c46 => ?_) (fun c46 => ?_)
      ·skip
       refine aSeq ?_
       refine aReg ?_
       refine sp (pBuild rfl st_35 ze_35 rfl rfl rfl rfl) ?_
       refine sa ?_
       refine oStW rfl rfl rfl rfl (by repeat constructor) ty_35 ?_
       refine sp pMa ?_
       refine oNil ?_
       have hN : sayL b recs = none := by
         rw [hv, hst, show sayStep (some s) r = none by simp only [sayStep, hg]; rw [if_neg (by simp_all)]]
         exact sayN _
       rw [hN]
       refine aRet ?_
       refine finRIs (l := [.agg (stC st0), .v (.bool false)]) (.cons (.cast (a := .agg [.v (.slice none 0 0), .int 0, .int 0, .v (.slice none 0 0)]) (.cellA rfl (by repeat (first | exact List.mem_cons_self | apply List.mem_cons_of_mem)) ty_35) cast_st0) (.cons (.tmp rfl) .nil)) rfl
      ·skip
       refine aSkip ?_
       refine aReg ?_
       refine sp pAd ?_
       refine sp pM ?_
       refine oNil ?_
       refine ⟨(i + 1, applyS s l), ?_, by (try dsimp only); omega, ⟨gInt rfl (by first | rfl | omega | simp), rfl, rfl, rfl, rfl, trivial⟩, _, (by repeat constructor)⟩
       have hE : applyE s l = 0 := by simp_all
       refine ⟨by omega, (apply_keep hE).mono (by have := getCs_len hg; omega), ?_⟩
       rw [hv, hst]
       show _ = _
       rw [show sayStep (some s) r = some (applyS s l) by simp only [sayStep, hg]; rw [if_pos hE]]
    ·skip
     refine aExit rfl ?_
     refine aSeq ?_
     refine aReg ?_
     refine sr (by first | exact rBWa ty_35 | exact rBW ty_35 | exact rBA ty_35) ?_
     refine sa ?_
     refine oStW rfl rfl rfl rfl (by repeat constructor) ty_35 ?_
     refine sp pMa ?_
     refine oNil ?_
     obtain rfl : i = recs.length := by omega
     rw [List.drop_length] at hv
     rw [hv]
     refine aRet ?_
     refine finRIs (l := [.agg (stC s), .v (.bool true)]) (.cons (.cellA rfl (by repeat (first | exact List.mem_cons_self | apply List.mem_cons_of_mem)) ty_35) (.cons (.tmp rfl) .nil)) rfl
 ·skip
  refine aSkip ?_
  refine aSeq ?_
  refine aSeq ?_
  obtain ⟨s1, hs1, ks1⟩ : ∃ s1, say0 b = some s1 ∧ StS s1 200 := by
    unfold say0
    split
    ·cases hg : getS b with
     | none => simp_all
     | some z => exact ⟨z, rfl, (okS_keep (getS_ok hg)).mono (by decide)⟩
    ·exact ⟨st0, rfl, st0_keep⟩
  refine aWeak (weak_castB (b := b6) (cs' := stC s1) (by repeat constructor) (by
    unfold say0 at hs1
    first
      | (rw [if_pos (by omega)] at hs1; rw [hs1]; exact .cons .refl (.cons .refl (.cons .refl (.cons .refl .nil))))
      | (rw [if_neg (by omega)] at hs1; cases hs1; exact .cons cast_nil (.cons .refl (.cons .refl (.cons cast_nil .nil)))))) ?_
  refine aReg ?_
  refine sp pM ?_
  refine sp (by first | exact pLm sl_177 | exact pLs sl_177) ?_
  refine sp pM ?_
  refine oNil ?_
  refine aBlock ?_
  refine loopF (α := Nat × St) (kept := [(4, _), (6, _), (25, _), (26, _)]) (fun (i, s) => i ≤ recs.length ∧ StS s 200 ∧ sayL b recs = (recs.drop i).foldl sayStep (some s)) (fun (i, s) => [(27, .int i)]) (fun (i, s) => [.box b6 (stC s)]) (fun (i, s) => recs.length - i) (0, s1) ?_ ⟨gInt rfl (by first | rfl | omega | simp), rfl, rfl, rfl, rfl, trivial⟩ (by repeat constructor) ?_
  ·skip
   exact ⟨by omega, ks1, by unfold sayL; rw [hs1]; rfl⟩
  ·rintro ⟨i, s⟩ ⟨hi, ks, hv⟩
   refine aSeq ?_
   refine aReg ?_
   refine sp pB ?_
   refine oNil ?_
   refine aSeq ?_
   refine aCondDec rfl (fun c28 => ?_) (fun c28 => ?_)
   ·skip
    refine aSkip ?_
    refine aSeq ?_
    refine aBlock ?_
    refine aSeq ?_
    obtain ⟨r, hr⟩ : ∃ z, recs[i]? = some z := ⟨_, List.getElem?_eq_getElem (by omega)⟩
    have hst := say_step (o := some s) hr
    refine aReg ?_
    first | refine sp (pIx es_177) ?_ | (refine obtSN 25 27 rfl rfl (by omega) (fun x29 hx29 => ?_); refine sp (pIs es_177 hx29) ?_) | (refine obtS 25 27 rfl rfl (by omega) (by omega) (fun x29 hx29 => ?_); refine sp (pIs es_177 hx29) ?_) | refine sp (pIo es_177) ?_
    refine sr (rS1 ty_50) ?_
    refine sp pMa ?_
    refine oNil ?_
    refine aSeq ?_
    refine aReg ?_
    refine sp pM ?_
    refine sq ?_
    refine ci rfl rfl rfl (chg_Get (b := r) (hrb r (List.mem_of_getElem? hr)) (hrk r (List.mem_of_getElem? hr))) ?_
    refine sp pM ?_
    refine sp pX ?_
    refine sp pX ?_
    refine sp pMa ?_
    refine sp pMa ?_
    refine oNil ?_
    refine aSeq ?_
    refine aSeq ?_
    refine aReg ?_
    refine sp pM ?_
    refine sp pB ?_
    refine oNil ?_
    refine aCondNe rfl (fun c37 => ?_) (fun c37 => ?_)
    ·skip
     refine aSeq ?_
     refine aReg ?_
     refine sp (pBuild rfl st_35 ze_35 rfl rfl rfl rfl) ?_
     refine sa ?_
     refine oStW rfl rfl rfl rfl (by repeat constructor) ty_35 ?_
     refine sp pMa ?_
     refine oNil ?_
     have hN : sayL b recs = none := by
       rw [hv, hst, show sayStep (some s) r = none by simp only [sayStep]; rw [show getCs r = none by cases hg : getCs r <;> simp_all [getE]]]
       exact sayN _
     rw [hN]
     refine aRet ?_
     refine finRIs (l := [.agg (stC st0), .v (.bool false)]) (.cons (.cast (a := .agg [.v (.slice none 0 0), .int 0, .int 0, .v (.slice none 0 0)]) (.cellA rfl (by repeat (first | exact List.mem_cons_self | apply List.mem_cons_of_mem)) ty_35) cast_st0) (.cons (.tmp rfl) .nil)) rfl
    ·skip
     refine aSkip ?_
     refine aSeq ?_
     obtain ⟨l, hg⟩ : ∃ l, getCs r = some l := by
       cases hg : getCs r with
       | none => simp_all [getE]
       | some l => exact ⟨l, rfl⟩
     rw [hg]
     simp only [Option.getD_some]
     refine aReg ?_
     refine sr (by first | exact rBWa ty_35 | exact rBW ty_35 | exact rBA ty_35) ?_
     refine sp pM ?_
     refine sq ?_
     refine ci rfl rfl rfl (base_Apply (s := s) (l := l) (by have := ks.dl; omega) (by have := ks.el; omega) (by have := getCs_len hg; omega)) ?_
     refine sp pM ?_
     refine sp pX ?_
     refine sp pX ?_
     refine sa ?_
     refine oStW rfl rfl rfl rfl (by repeat constructor) ty_35 ?_
     refine sp pMa ?_
     refine oNil ?_
     refine aSeq ?_
     refine aReg ?_
     refine sp pM ?_
     refine sp pB ?_
     refine oNil ?_
     refine aCondNe rfl (fun c46 => ?_) (fun c46 => ?_)
     ·skip
      refine aSeq ?_
      refine aReg ?_
      refine sp (pBuild rfl st_35 ze_35 rfl rfl rfl rfl) ?_
      refine sa ?_
      refine oStW rfl rfl rfl rfl (by repeat constructor) ty_35 ?_
      refine sp pMa ?_
      refine oNil ?_
      have hN : sayL b recs = none := by
        rw [hv, hst, show sayStep (some s) r = none by simp only [sayStep, hg]; rw [if_neg (by simp_all)]]
        exact sayN _
      rw [hN]
      refine aRet ?_
      refine finRIs (l := [.agg (stC st0), .v (.bool false)]) (.cons (.cast (a := .agg [.v (.slice none 0 0), .int 0, .int 0, .v (.slice none 0 0)]) (.cellA rfl (by repeat (first | exact List.mem_cons_self | apply List.mem_cons_of_mem)) ty_35) cast_st0) (.cons (.tmp rfl) .nil)) rfl
     ·skip
      refine aSkip ?_
      refine aReg ?_
      refine sp pAd ?_
      refine sp pM ?_
      refine oNil ?_
      refine ⟨(i + 1, applyS s l), ?_, by (try dsimp only); omega, ⟨gInt rfl (by first | rfl | omega | simp), rfl, rfl, rfl, rfl, trivial⟩, _, (by repeat constructor)⟩
      have hE : applyE s l = 0 := by simp_all
      refine ⟨by omega, (apply_keep hE).mono (by have := getCs_len hg; omega), ?_⟩
      rw [hv, hst]
      show _ = _
      rw [show sayStep (some s) r = some (applyS s l) by simp only [sayStep, hg]; rw [if_pos hE]]
   ·skip
    refine aExit rfl ?_
    refine aSeq ?_
    refine aReg ?_
    refine sr (by first | exact rBWa ty_35 | exact rBW ty_35 | exact rBA ty_35) ?_
    refine sa ?_
    refine oStW rfl rfl rfl rfl (by repeat constructor) ty_35 ?_
    refine sp pMa ?_
    refine oNil ?_
    obtain rfl : i = recs.length := by omega
    rw [List.drop_length] at hv
    rw [hv]
    refine aRet ?_
    refine finRIs (l := [.agg (stC s), .v (.bool true)]) (.cons (.cellA rfl (by repeat (first | exact List.mem_cons_self | apply List.mem_cons_of_mem)) ty_35) (.cons (.tmp rfl) .nil)) rfl
end A
end Go.Proofs.YthkgdhamnpiagaaGreat
namespace Go.Proofs.YthkgdhamnpiagaaGreat
namespace A
theorem fd_183_0 : fieldOf Tryz.prog 183 0 = some (0, 1, false) := by kernel_rfl
theorem fd_183_1 : fieldOf Tryz.prog 183 1 = some (1, 4, true) := by kernel_rfl
theorem pt_80 : isPtrT Tryz.prog 80 = true := by kernel_rfl
theorem ty_176 : tyOf Tryz.prog 176 = some (1, false) := by kernel_rfl
theorem BOk_app {a b : BS} (ha : BOk a) (hb : BOk b) : BOk (a ++ b) := fun x hx => by
 rcases List.mem_append.1 hx with h | h
 ·exact ha x h
 ·exact hb x h
theorem BOk_flat {α : Type} {f : α → BS} {l : List α} (h : ∀ x ∈ l, BOk (f x)) : BOk (l.flatMap f) := fun x hx => by
 obtain ⟨a, ha, hx⟩ := List.mem_flatMap.1 hx
 exact h a ha x hx
theorem lsaBs_ok (l : Lsa) : BOk (lsaBs l) := BOk_app (be_ok _ _) (BOk_app (be_ok _ _) (BOk_app (be_ok _ _) (BOk_flat fun x _ => BOk_app (be_ok _ _) (be_ok _ _))))
theorem stBs_ok (s : St) : BOk (stBs s) := BOk_app (be_ok _ _) (BOk_app (be_ok _ _) (BOk_app (be_ok _ _) (BOk_app (BOk_flat fun x _ => lsaBs_ok x) (BOk_app (be_ok _ _) (BOk_flat fun x _ => BOk_app (be_ok _ _) (be_ok _ _))))))
theorem stBs_len {s : St} (h : okS s = true) : (stBs s).length ≤ 8000 := by
 obtain ⟨_, _, h1, h2⟩ := okS_iff.1 h
 rw [← epP_all]
 exact epP_len _ h1 h2
theorem chgBs_ok (c : Chg) : BOk (chgBs c) := BOk_app (be_ok _ _) (by
 split
 ·exact lsaBs_ok _
 ·split
  ·exact be_ok _ _
  ·split
   ·exact BOk_app (be_ok _ _) (be_ok _ _)
   ·exact be_ok _ _)
theorem chgsBs_ok (l : List Chg) : BOk (chgsBs l) := BOk_app (be_ok _ _) (BOk_flat fun x _ => chgBs_ok x)
/-- Writes a base that is made of what is kept. -/
def WS.turnS (V : WS) (D : DW) (x : St) : WS × DW × Int := if okS x = true then ((V.turn D (stBs x)).1, (V.turn D (stBs x)).2.1, if (V.turn D (stBs x)).2.2 = 5 then 4 else (V.turn D (stBs x)).2.2) else (V, D, 1)
/- store.Store).Broken -/
set_option maxRecDepth 100000 in
set_option maxHeartbeats 400000 in
theorem store_Broken {tb wb db : Nat} {V : WS} {s : St} : Triple Tryz.prog 75 [.v (.pointer (some ⟨tb, 0, none⟩))] [.box tb (.v (.pointer (some ⟨wb, 0, none⟩)) :: stC s), .box wb (wsC db V)] (Is (.v (.bool V.broken)) [.box wb (wsC db V), .box tb (.v (.pointer (some ⟨wb, 0, none⟩)) :: stC s)]) := by
 refine triple_of Tryz.func75 rfl (by kernel_rfl) rfl (by simp) ?_
 refine aSeq ?_
 refine aReg ?_
 refine sp pMa ?_
 refine oNil ?_
 refine aSeq ?_
 refine aReg ?_
 refine sp pM ?_
 refine sp (by first | exact pPtrNil rfl (.inl rfl) rfl pt_80 rfl rfl | exact pSpNil rfl (.inl rfl) rfl pt_80 rfl) ?_
 refine sp pM ?_
 refine gp pM ?_
 refine gp pNv ?_
 refine gp (pFb fd_183_0) ?_
 refine gr (rB1 ty_176) ?_
 refine ga ?_
 refine cai rfl rfl rfl (wal_Broken (wb := wb) (db := db) (V := V)) ?_
 refine sp pK ?_
 refine sp pMa ?_
 refine oNil ?_
 refine aRet ?_
 refine finIs rfl ?_
 rfl
/- store.Store).State -/
set_option maxRecDepth 100000 in
set_option maxHeartbeats 2000000 in
theorem store_State {tb wb : Nat} {s : St} (hl : s.db.length ≤ 1000) (hel : s.eps.length ≤ 1000) (hk : ∀ x ∈ s.db, x.ls.length ≤ 1000) : Triple Tryz.prog 34 [.v (.pointer (some ⟨tb, 0, none⟩))] [.box tb (.v (.pointer (some ⟨wb, 0, none⟩)) :: stC s)] (Is (.agg (stC s)) [.box tb (.v (.pointer (some ⟨wb, 0, none⟩)) :: stC s)]) := by
 refine triple_ofR Tryz.func34 rfl (by kernel_rfl) rfl (by simp) ?_
 refine aSeq ?_
 refine aReg ?_
 refine sq ?_
 refine qAlloc rfl rfl (by decide) ze_35 rfl (fun b2 => ?_)
 refine oNil ?_
 refine aSeq ?_
 refine aSeq ?_
 refine aReg ?_
 refine sp pM ?_
 refine sp (by first | exact pPtrNil rfl (.inl rfl) rfl pt_80 rfl rfl | exact pSpNil rfl (.inl rfl) rfl pt_80 rfl) ?_
 refine oNil ?_
 refine aCondF rfl ?_
 refine aSkip ?_
 refine aSeq ?_
 refine aReg ?_
 refine sp pM ?_
 refine sp pNv ?_
 refine sp (pFb fd_183_1) ?_
 refine sr (by first | exact rBWa ty_35 | exact rBW ty_35 | exact rBA ty_35) ?_
 refine sa ?_
 refine ca rfl rfl rfl (base_Copy (s := s) hl hel hk) ?_
 rintro _ _ ⟨g0, c0, g20, c20, rfl, rfl⟩
 refine sa ?_
 refine oStW rfl rfl rfl rfl (by repeat constructor) ty_35 ?_
 refine oNil ?_
 refine aWeak (weak_settleB (b := b2) (j := 0) (es := s.db.map lsaC) (.cons (by repeat constructor) (.cons (by repeat constructor) .nil)) rfl (by simp)) ?_
 refine aWeak (weak_settleB (b := b2) (j := 3) (es := s.eps.map epC) (.cons (by repeat constructor) (.cons (by repeat constructor) .nil)) rfl (by simp)) ?_
 refine aRet ?_
 refine finRIs (l := [.agg (stC s)]) (.cons (.cellA rfl (by repeat (first | exact List.mem_cons_self | apply List.mem_cons_of_mem)) ty_35) .nil) rfl
/- store.Store).turn -/
set_option maxRecDepth 100000 in
set_option maxHeartbeats 2000000 in
theorem store_turn {tb wb db bs bw n : Nat} {V : WS} {s x : St} {S W : List (Int × BS)} {D : DW} (r : Rel n S W D) (o : WOk V n) (hl : x.db.length ≤ 1000) (hel : x.eps.length ≤ 1000) : Triple Tryz.prog 79 [.v (.pointer (some ⟨tb, 0, none⟩)), .agg (stC x)] (.box tb (.v (.pointer (some ⟨wb, 0, none⟩)) :: stC s) :: .box wb (wsC db V) :: [.box db [.int n, .v (.map (some bs)), .v (.map (some bw)), .int D.armed, .v (.bool D.dead)], .map bs (kvA S), .map bw (kvA W)]) (fun q h' => q = .int (V.turnS D x).2.2 ∧ ∃ S' W', Rel n S' W' (V.turnS D x).2.1 ∧ h' = .box tb (.v (.pointer (some ⟨wb, 0, none⟩)) :: stC s) :: .box wb (wsC db (V.turnS D x).1) :: [.box db [.int n, .v (.map (some bs)), .v (.map (some bw)), .int (V.turnS D x).2.1.armed, .v (.bool (V.turnS D x).2.1.dead)], .map bs (kvA S'), .map bw (kvA W')]) := by
 refine triple_of Tryz.func79 rfl (by kernel_rfl) rfl (by simp) ?_
 refine aSeq ?_
 refine aReg ?_
 refine sq ?_
 refine qBox rfl rfl (by decide) rfl rfl (fun b3 => ?_)
 refine sp pMa ?_
 refine oNil ?_
 refine aSeq ?_
 refine aReg ?_
 refine sr (by first | exact rBWa ty_35 | exact rBW ty_35 | exact rBA ty_35) ?_
 refine sq ?_
 refine ci rfl rfl rfl (base_Put (s := x) (by omega) (by omega)) ?_
 refine sp pM ?_
 refine sp pX ?_
 refine sp pX ?_
 refine sp pMa ?_
 refine sp pMa ?_
 refine oNil ?_
 refine aSeq ?_
 refine aSeq ?_
 refine aReg ?_
 refine sp pM ?_
 refine sp pB ?_
 refine oNil ?_
 refine aCondEq rfl (fun c13 => ?_) (fun c13 => ?_)
 ·skip
  have hok : okS x = true := by simp_all
  simp only [if_pos hok]
  refine aReg ?_
  refine sp pM ?_
  refine sp pNv ?_
  refine sp (pFb fd_183_0) ?_
  refine sr (rB1 ty_176) ?_
  refine sp pM ?_
  refine sa ?_
  refine ca rfl rfl rfl (wal_Turn (V := V) (db := db) (b := stBs x) r o (by have := stBs_len hok; omega) (stBs_ok x)) ?_
  rintro _ _ ⟨rfl, S2, W2, r2, rfl⟩
  refine sp pMa ?_
  refine oNil ?_
  refine aSeq ?_
  refine aSeq ?_
  refine aReg ?_
  refine sp pM ?_
  refine sp pB ?_
  refine oNil ?_
  refine aCondEq rfl (fun c21 => ?_) (fun c21 => ?_)
  ·skip
   refine aSeq ?_
   refine aReg ?_
   refine sp pMa ?_
   refine oNil ?_
   first
     | (have h5 : (V.turn D (stBs x)).2.2 = 5 := by assumption
        have hT : V.turnS D x = ((V.turn D (stBs x)).1, (V.turn D (stBs x)).2.1, 4) := by unfold WS.turnS; rw [if_pos hok, if_pos h5]
        refine aRet ?_
        rw [hT]
        exact ⟨_, [_, _, _, _, _], [_], rfl, (.cons (by repeat constructor) (.cons (by repeat constructor) (.cons (by repeat constructor) (.cons (by repeat constructor) (.cons (by repeat constructor) .nil))))), rfl, S2, W2, r2, rfl⟩)
     | (exfalso; cases hok : okS x <;> simp_all)
  ·skip
   refine aSkip ?_
   refine aSeq ?_
   refine aReg ?_
   refine sp pM ?_
   refine sp pMa ?_
   refine oNil ?_
   first
     | (have h5 : ¬ (V.turn D (stBs x)).2.2 = 5 := by assumption
        have hT : V.turnS D x = ((V.turn D (stBs x)).1, (V.turn D (stBs x)).2.1, (V.turn D (stBs x)).2.2) := by unfold WS.turnS; rw [if_pos hok, if_neg h5]
        refine aRet ?_
        rw [hT]
        exact ⟨_, [_, _, _, _, _], [_], rfl, (.cons (by repeat constructor) (.cons (by repeat constructor) (.cons (by repeat constructor) (.cons (by repeat constructor) (.cons (by repeat constructor) .nil))))), rfl, S2, W2, r2, rfl⟩)
     | (have hno : okS x = false := by cases hok : okS x <;> simp_all
        have hT : V.turnS D x = (V, D, 1) := by unfold WS.turnS; rw [if_neg (by rw [hno]; decide)]
        refine aRet ?_
        rw [hT, hno]
        exact ⟨_, [_, _, _, _, _], [_], rfl, (.cons (by repeat constructor) (.cons (by repeat constructor) (.cons (by repeat constructor) (.cons (by repeat constructor) (.cons (by repeat constructor) .nil))))), rfl, S, W, r, rfl⟩)
 ·skip
  refine aSkip ?_
  refine aSeq ?_
  refine aSeq ?_
  refine aReg ?_
  refine sp pM ?_
  refine sp pB ?_
  refine oNil ?_
  refine aCondEq rfl (fun c21 => ?_) (fun c21 => ?_)
  ·skip
   refine aSeq ?_
   refine aReg ?_
   refine sp pMa ?_
   refine oNil ?_
   first
     | (have h5 : (V.turn D (stBs x)).2.2 = 5 := by assumption
        have hT : V.turnS D x = ((V.turn D (stBs x)).1, (V.turn D (stBs x)).2.1, 4) := by unfold WS.turnS; rw [if_pos hok, if_pos h5]
        refine aRet ?_
        rw [hT]
        exact ⟨_, [_, _, _, _, _], [_], rfl, (.cons (by repeat constructor) (.cons (by repeat constructor) (.cons (by repeat constructor) (.cons (by repeat constructor) (.cons (by repeat constructor) .nil))))), rfl, S2, W2, r2, rfl⟩)
     | (exfalso; cases hok : okS x <;> simp_all)
  ·skip
   refine aSkip ?_
   refine aSeq ?_
   refine aReg ?_
   refine sp pM ?_
   refine sp pMa ?_
   refine oNil ?_
   first
     | (have h5 : ¬ (V.turn D (stBs x)).2.2 = 5 := by assumption
        have hT : V.turnS D x = ((V.turn D (stBs x)).1, (V.turn D (stBs x)).2.1, (V.turn D (stBs x)).2.2) := by unfold WS.turnS; rw [if_pos hok, if_neg h5]
        refine aRet ?_
        rw [hT]
        exact ⟨_, [_, _, _, _, _], [_], rfl, (.cons (by repeat constructor) (.cons (by repeat constructor) (.cons (by repeat constructor) (.cons (by repeat constructor) (.cons (by repeat constructor) .nil))))), rfl, S2, W2, r2, rfl⟩)
     | (have hno : okS x = false := by cases hok : okS x <;> simp_all
        have hT : V.turnS D x = (V, D, 1) := by unfold WS.turnS; rw [if_neg (by rw [hno]; decide)]
        refine aRet ?_
        rw [hT, hno]
        exact ⟨_, [_, _, _, _, _], [_], rfl, (.cons (by repeat constructor) (.cons (by repeat constructor) (.cons (by repeat constructor) (.cons (by repeat constructor) (.cons (by repeat constructor) .nil))))), rfl, S, W, r, rfl⟩)
end A
end Go.Proofs.YthkgdhamnpiagaaGreat
namespace Go.Proofs.YthkgdhamnpiagaaGreat
namespace A
theorem commit_ok {V : WS} {n : Nat} {D : DW} {b : BS} (o : WOk V n) : WOk (V.commit D b).1 n := by
 have h1 := o.x0
 have h2 := o.x1
 unfold WS.commit
 split
 ·exact o
 ·split
  ·exact o
  ·split
   ·exact o
   ·rename_i h3
    simp only
    split
    ·exact ⟨o.p, o.g0, o.g1, by show 0 ≤ V.next + _; omega, by show V.next + _ ≤ V.p.log; omega⟩
    ·exact ⟨o.p, o.g0, o.g1, o.x0, o.x1⟩
theorem chgsBs_len {l : List Chg} (h : chgsE l = 0) : (chgsBs l).length ≤ 5000 := by
 have hh := h
 unfold chgsE at h
 split at h
 ·cases h
 ·rename_i h1
  split at h
  ·rename_i h2
   rw [← chgsP_all]
   exact chgsP_len (by omega) (fun j c _ hj => List.all_eq_true.1 h2 c (List.mem_of_getElem? hj))
  ·cases h
theorem chgsE_len {l : List Chg} (h : chgsE l = 0) : l.length ≤ 40 := by
 unfold chgsE at h
 split at h
 ·cases h
 ·omega
/-- Keeps changes. -/
def WS.doS (V : WS) (s : St) (D : DW) (l : List Chg) : WS × St × DW × Int :=
 if V.broken = true then (V, s, D, 6) else
 if chgsE l ≠ 0 then (V, s, D, chgsE l) else
 if applyE s l ≠ 0 then (V, s, D, applyE s l) else
 if (V.commit D (chgsBs l)).2.2 = 4 then
   (((V.commit D (chgsBs l)).1.turnS (V.commit D (chgsBs l)).2.1 (applyS s l)).1, if ((V.commit D (chgsBs l)).1.turnS (V.commit D (chgsBs l)).2.1 (applyS s l)).2.2 = 0 then applyS s l else s, ((V.commit D (chgsBs l)).1.turnS (V.commit D (chgsBs l)).2.1 (applyS s l)).2.1, ((V.commit D (chgsBs l)).1.turnS (V.commit D (chgsBs l)).2.1 (applyS s l)).2.2)
 else ((V.commit D (chgsBs l)).1, if (V.commit D (chgsBs l)).2.2 = 0 then applyS s l else s, (V.commit D (chgsBs l)).2.1, (V.commit D (chgsBs l)).2.2)
/- store.Store).Do -/
set_option maxRecDepth 100000 in
set_option maxHeartbeats 4000000 in
theorem store_Do {tb wb db bs bw n : Nat} {V : WS} {s : St} {l : List Chg} {S W : List (Int × BS)} {D : DW} (r : Rel n S W D) (o : WOk V n) (hl : s.db.length ≤ 1000) (hel : s.eps.length ≤ 1000) (hll : l.length ≤ 800) : Triple Tryz.prog 35 [.v (.pointer (some ⟨tb, 0, none⟩)), .sl 6 (l.map chgC)] (.box tb (.v (.pointer (some ⟨wb, 0, none⟩)) :: stC s) :: .box wb (wsC db V) :: [.box db [.int n, .v (.map (some bs)), .v (.map (some bw)), .int D.armed, .v (.bool D.dead)], .map bs (kvA S), .map bw (kvA W)]) (fun q h' => q = .int (V.doS s D l).2.2.2 ∧ ∃ S' W', Rel n S' W' (V.doS s D l).2.2.1 ∧ h' = .box tb (.v (.pointer (some ⟨wb, 0, none⟩)) :: stC (V.doS s D l).2.1) :: .box wb (wsC db (V.doS s D l).1) :: [.box db [.int n, .v (.map (some bs)), .v (.map (some bw)), .int (V.doS s D l).2.2.1.armed, .v (.bool (V.doS s D l).2.2.1.dead)], .map bs (kvA S'), .map bw (kvA W')]) := by
 refine triple_of Tryz.func35 rfl (by kernel_rfl) rfl (by simp) ?_
 refine aSeq ?_
 refine aReg ?_
 refine sp pMa ?_
 refine oNil ?_
 refine aSeq ?_
 refine aSeq ?_
 refine aReg ?_
 refine sp pM ?_
 refine sa ?_
 refine cai rfl rfl rfl (store_Broken (tb := tb) (wb := wb) (db := db) (V := V) (s := s)) ?_
 refine oNil ?_
 refine aCond rfl (fun c9 => ?_) (fun c9 => ?_)
 ·skip
  refine aSeq ?_
  refine aReg ?_
  refine sp pMa ?_
  refine oNil ?_
  have hT : V.doS s D l = (V, s, D, 6) := by
    unfold WS.doS
    rw [if_pos (by simp_all)]
  refine aRet ?_
  rw [hT]
  exact ⟨_, [_, _, _, _, _], _, rfl, (.cons (by repeat constructor) (.cons (by repeat constructor) (.cons (by repeat constructor) (.cons (by repeat constructor) (.cons (by repeat constructor) .nil))))), rfl, S, W, r, rfl⟩
 ·skip
  refine aSkip ?_
  refine aSeq ?_
  refine aReg ?_
  refine sp pM ?_
  refine sq ?_
  refine ci rfl rfl rfl (chg_Put (l := l) (by omega)) ?_
  refine sp pM ?_
  refine sp pX ?_
  refine sp pX ?_
  refine sp pMa ?_
  refine sp pMa ?_
  refine oNil ?_
  refine aSeq ?_
  refine aSeq ?_
  refine aReg ?_
  refine sp pM ?_
  refine sp pB ?_
  refine oNil ?_
  refine aCondNe rfl (fun c16 => ?_) (fun c16 => ?_)
  ·skip
   refine aSeq ?_
   refine aReg ?_
   refine sp pM ?_
   refine sp pMa ?_
   refine oNil ?_
   have hT : V.doS s D l = (V, s, D, chgsE l) := by
     unfold WS.doS
     rw [if_neg (by simp_all), if_pos (by simp_all)]
   refine aRet ?_
   rw [hT]
   exact ⟨_, [_, _, _, _, _], _, rfl, (.cons (by repeat constructor) (.cons (by repeat constructor) (.cons (by repeat constructor) (.cons (by repeat constructor) (.cons (by repeat constructor) .nil))))), rfl, S, W, r, rfl⟩
  ·skip
   refine aSkip ?_
   refine aSeq ?_
   have hE : chgsE l = 0 := by simp_all
   refine aReg ?_
   refine sp pM ?_
   refine sp pNv ?_
   refine sp (pFb fd_183_1) ?_
   refine sr (by first | exact rBWa ty_35 | exact rBW ty_35 | exact rBA ty_35) ?_
   refine sp pM ?_
   refine sq ?_
   refine ci rfl rfl rfl (base_Apply (s := s) (l := l) hl hel hll) ?_
   refine sp pM ?_
   refine sp pX ?_
   refine sp pX ?_
   refine sq ?_
   refine qAlloc rfl rfl (by decide) ze_35 rfl (fun b7 => ?_)
   refine sa ?_
   refine oStW rfl rfl rfl rfl (by repeat constructor) ty_35 ?_
   refine sp pMa ?_
   refine oNil ?_
   refine aSeq ?_
   refine aSeq ?_
   refine aReg ?_
   refine sp pM ?_
   refine sp pB ?_
   refine oNil ?_
   refine aCondNe rfl (fun c28 => ?_) (fun c28 => ?_)
   ·skip
    refine aSeq ?_
    refine aReg ?_
    refine sp pM ?_
    refine sp pMa ?_
    refine oNil ?_
    have hT : V.doS s D l = (V, s, D, applyE s l) := by
      unfold WS.doS
      rw [if_neg (by simp_all), if_neg (not_not_intro hE), if_pos (by simp_all)]
    refine aRet ?_
    rw [hT]
    exact ⟨_, [_, _, _, _, _], _, rfl, (.cons (by repeat constructor) (.cons (by repeat constructor) (.cons (by repeat constructor) (.cons (by repeat constructor) (.cons (by repeat constructor) .nil))))), rfl, S, W, r, rfl⟩
   ·skip
    refine aSkip ?_
    refine aSeq ?_
    have hA : applyE s l = 0 := by simp_all
    rw [show chgsR l = chgsBs l by unfold chgsR; rw [if_pos hE]]
    refine aReg ?_
    refine sp pM ?_
    refine sp pNv ?_
    refine sp (pFb fd_183_0) ?_
    refine sr (rB1 ty_176) ?_
    refine sp pM ?_
    refine sa ?_
    refine ca rfl rfl rfl (wal_Commit (V := V) (db := db) (b := chgsBs l) r o (by have := chgsBs_len hE; omega) (chgsBs_ok l)) ?_
    rintro _ _ ⟨rfl, S2, W2, r2, rfl⟩
    refine sp pMa ?_
    refine oNil ?_
    refine aSeq ?_
    refine aSeq ?_
    refine aReg ?_
    refine sp pM ?_
    refine sp pB ?_
    refine oNil ?_
    refine aCondEq rfl (fun c37 => ?_) (fun c37 => ?_)
    ·skip
     refine aReg ?_
     refine sp pM ?_
     refine sr (by first | exact rBWa ty_35 | exact rBW ty_35 | exact rBA ty_35) ?_
     refine sa ?_
     refine ca rfl rfl rfl (store_turn (tb := tb) (wb := wb) (db := db) (V := (V.commit D (chgsBs l)).1) (s := s) (x := applyS s l) r2 (commit_ok o) (by have := (apply_keep hA).dl; have := chgsE_len hE; omega) (by have := (apply_keep hA).el; have := chgsE_len hE; omega)) ?_
     rintro _ _ ⟨rfl, S3, W3, r3, rfl⟩
     refine sp pMa ?_
     refine oNil ?_
     refine aSeq ?_
     refine aSeq ?_
     refine aReg ?_
     refine sp pM ?_
     refine sp pB ?_
     refine oNil ?_
     refine aCondEq rfl (fun c42 => ?_) (fun c42 => ?_)
     ·skip
      refine aReg ?_
      refine sp pM ?_
      refine sr (by first | exact rBWa ty_35 | exact rBW ty_35 | exact rBA ty_35) ?_
      refine sp pNv ?_
      refine sp (pFb fd_183_1) ?_
      refine sa ?_
      refine oStB rfl rfl rfl rfl (by repeat constructor) ty_35 rfl (Nat.le_of_ble_eq_true rfl) rfl ?_
      refine oNil ?_
      refine aSeq ?_
      refine aReg ?_
      refine sp pM ?_
      refine sp pMa ?_
      refine oNil ?_
      first
        | (have h4 : (V.commit D (chgsBs l)).2.2 = 4 := by assumption
           have h0 : ((V.commit D (chgsBs l)).1.turnS (V.commit D (chgsBs l)).2.1 (applyS s l)).2.2 = 0 := by assumption
           have hT : V.doS s D l = (((V.commit D (chgsBs l)).1.turnS (V.commit D (chgsBs l)).2.1 (applyS s l)).1, applyS s l, ((V.commit D (chgsBs l)).1.turnS (V.commit D (chgsBs l)).2.1 (applyS s l)).2.1, ((V.commit D (chgsBs l)).1.turnS (V.commit D (chgsBs l)).2.1 (applyS s l)).2.2) := by unfold WS.doS; rw [if_neg (by simp_all), if_neg (not_not_intro hE), if_neg (not_not_intro hA), if_pos h4, if_pos h0]
           refine aRet ?_
           rw [hT]
           exact ⟨_, [_, _, _, _, _], _, rfl, (.cons (by repeat constructor) (.cons (by repeat constructor) (.cons (by repeat constructor) (.cons (by repeat constructor) (.cons (by repeat constructor) .nil))))), rfl, _, _, (by first | exact r3 | exact r2), rfl⟩)
        | (have h4 : (V.commit D (chgsBs l)).2.2 = 4 := by assumption
           have h0 : ¬ ((V.commit D (chgsBs l)).1.turnS (V.commit D (chgsBs l)).2.1 (applyS s l)).2.2 = 0 := by assumption
           have hT : V.doS s D l = (((V.commit D (chgsBs l)).1.turnS (V.commit D (chgsBs l)).2.1 (applyS s l)).1, s, ((V.commit D (chgsBs l)).1.turnS (V.commit D (chgsBs l)).2.1 (applyS s l)).2.1, ((V.commit D (chgsBs l)).1.turnS (V.commit D (chgsBs l)).2.1 (applyS s l)).2.2) := by unfold WS.doS; rw [if_neg (by simp_all), if_neg (not_not_intro hE), if_neg (not_not_intro hA), if_pos h4, if_neg h0]
           refine aRet ?_
           rw [hT]
           exact ⟨_, [_, _, _, _, _], _, rfl, (.cons (by repeat constructor) (.cons (by repeat constructor) (.cons (by repeat constructor) (.cons (by repeat constructor) (.cons (by repeat constructor) .nil))))), rfl, _, _, (by first | exact r3 | exact r2), rfl⟩)
        | (have h4 : ¬ (V.commit D (chgsBs l)).2.2 = 4 := by assumption
           have h0 : (V.commit D (chgsBs l)).2.2 = 0 := by assumption
           have hT : V.doS s D l = ((V.commit D (chgsBs l)).1, applyS s l, (V.commit D (chgsBs l)).2.1, (V.commit D (chgsBs l)).2.2) := by unfold WS.doS; rw [if_neg (by simp_all), if_neg (not_not_intro hE), if_neg (not_not_intro hA), if_neg h4, if_pos h0]
           refine aRet ?_
           rw [hT]
           exact ⟨_, [_, _, _, _, _], _, rfl, (.cons (by repeat constructor) (.cons (by repeat constructor) (.cons (by repeat constructor) (.cons (by repeat constructor) (.cons (by repeat constructor) .nil))))), rfl, _, _, (by first | exact r3 | exact r2), rfl⟩)
        | (have h4 : ¬ (V.commit D (chgsBs l)).2.2 = 4 := by assumption
           have h0 : ¬ (V.commit D (chgsBs l)).2.2 = 0 := by assumption
           have hT : V.doS s D l = ((V.commit D (chgsBs l)).1, s, (V.commit D (chgsBs l)).2.1, (V.commit D (chgsBs l)).2.2) := by unfold WS.doS; rw [if_neg (by simp_all), if_neg (not_not_intro hE), if_neg (not_not_intro hA), if_neg h4, if_neg h0]
           refine aRet ?_
           rw [hT]
           exact ⟨_, [_, _, _, _, _], _, rfl, (.cons (by repeat constructor) (.cons (by repeat constructor) (.cons (by repeat constructor) (.cons (by repeat constructor) (.cons (by repeat constructor) .nil))))), rfl, _, _, (by first | exact r3 | exact r2), rfl⟩)
     ·skip
      refine aSkip ?_
      refine aSeq ?_
      refine aReg ?_
      refine sp pM ?_
      refine sp pMa ?_
      refine oNil ?_
      first
        | (have h4 : (V.commit D (chgsBs l)).2.2 = 4 := by assumption
           have h0 : ((V.commit D (chgsBs l)).1.turnS (V.commit D (chgsBs l)).2.1 (applyS s l)).2.2 = 0 := by assumption
           have hT : V.doS s D l = (((V.commit D (chgsBs l)).1.turnS (V.commit D (chgsBs l)).2.1 (applyS s l)).1, applyS s l, ((V.commit D (chgsBs l)).1.turnS (V.commit D (chgsBs l)).2.1 (applyS s l)).2.1, ((V.commit D (chgsBs l)).1.turnS (V.commit D (chgsBs l)).2.1 (applyS s l)).2.2) := by unfold WS.doS; rw [if_neg (by simp_all), if_neg (not_not_intro hE), if_neg (not_not_intro hA), if_pos h4, if_pos h0]
           refine aRet ?_
           rw [hT]
           exact ⟨_, [_, _, _, _, _], _, rfl, (.cons (by repeat constructor) (.cons (by repeat constructor) (.cons (by repeat constructor) (.cons (by repeat constructor) (.cons (by repeat constructor) .nil))))), rfl, _, _, (by first | exact r3 | exact r2), rfl⟩)
        | (have h4 : (V.commit D (chgsBs l)).2.2 = 4 := by assumption
           have h0 : ¬ ((V.commit D (chgsBs l)).1.turnS (V.commit D (chgsBs l)).2.1 (applyS s l)).2.2 = 0 := by assumption
           have hT : V.doS s D l = (((V.commit D (chgsBs l)).1.turnS (V.commit D (chgsBs l)).2.1 (applyS s l)).1, s, ((V.commit D (chgsBs l)).1.turnS (V.commit D (chgsBs l)).2.1 (applyS s l)).2.1, ((V.commit D (chgsBs l)).1.turnS (V.commit D (chgsBs l)).2.1 (applyS s l)).2.2) := by unfold WS.doS; rw [if_neg (by simp_all), if_neg (not_not_intro hE), if_neg (not_not_intro hA), if_pos h4, if_neg h0]
           refine aRet ?_
           rw [hT]
           exact ⟨_, [_, _, _, _, _], _, rfl, (.cons (by repeat constructor) (.cons (by repeat constructor) (.cons (by repeat constructor) (.cons (by repeat constructor) (.cons (by repeat constructor) .nil))))), rfl, _, _, (by first | exact r3 | exact r2), rfl⟩)
        | (have h4 : ¬ (V.commit D (chgsBs l)).2.2 = 4 := by assumption
           have h0 : (V.commit D (chgsBs l)).2.2 = 0 := by assumption
           have hT : V.doS s D l = ((V.commit D (chgsBs l)).1, applyS s l, (V.commit D (chgsBs l)).2.1, (V.commit D (chgsBs l)).2.2) := by unfold WS.doS; rw [if_neg (by simp_all), if_neg (not_not_intro hE), if_neg (not_not_intro hA), if_neg h4, if_pos h0]
           refine aRet ?_
           rw [hT]
           exact ⟨_, [_, _, _, _, _], _, rfl, (.cons (by repeat constructor) (.cons (by repeat constructor) (.cons (by repeat constructor) (.cons (by repeat constructor) (.cons (by repeat constructor) .nil))))), rfl, _, _, (by first | exact r3 | exact r2), rfl⟩)
        | (have h4 : ¬ (V.commit D (chgsBs l)).2.2 = 4 := by assumption
           have h0 : ¬ (V.commit D (chgsBs l)).2.2 = 0 := by assumption
           have hT : V.doS s D l = ((V.commit D (chgsBs l)).1, s, (V.commit D (chgsBs l)).2.1, (V.commit D (chgsBs l)).2.2) := by unfold WS.doS; rw [if_neg (by simp_all), if_neg (not_not_intro hE), if_neg (not_not_intro hA), if_neg h4, if_neg h0]
           refine aRet ?_
           rw [hT]
           exact ⟨_, [_, _, _, _, _], _, rfl, (.cons (by repeat constructor) (.cons (by repeat constructor) (.cons (by repeat constructor) (.cons (by repeat constructor) (.cons (by repeat constructor) .nil))))), rfl, _, _, (by first | exact r3 | exact r2), rfl⟩)
    ·skip
     refine aSkip ?_
     refine aSeq ?_
     refine aSeq ?_
     refine aReg ?_
     refine sp pM ?_
     refine sp pB ?_
     refine oNil ?_
     refine aCondEq rfl (fun c42 => ?_) (fun c42 => ?_)
     ·skip
      refine aReg ?_
      refine sp pM ?_
      refine sr (by first | exact rBWa ty_35 | exact rBW ty_35 | exact rBA ty_35) ?_
      refine sp pNv ?_
      refine sp (pFb fd_183_1) ?_
      refine sa ?_
      refine oStB rfl rfl rfl rfl (by repeat constructor) ty_35 rfl (Nat.le_of_ble_eq_true rfl) rfl ?_
      refine oNil ?_
      refine aSeq ?_
      refine aReg ?_
      refine sp pM ?_
      refine sp pMa ?_
      refine oNil ?_
      first
        | (have h4 : (V.commit D (chgsBs l)).2.2 = 4 := by assumption
           have h0 : ((V.commit D (chgsBs l)).1.turnS (V.commit D (chgsBs l)).2.1 (applyS s l)).2.2 = 0 := by assumption
           have hT : V.doS s D l = (((V.commit D (chgsBs l)).1.turnS (V.commit D (chgsBs l)).2.1 (applyS s l)).1, applyS s l, ((V.commit D (chgsBs l)).1.turnS (V.commit D (chgsBs l)).2.1 (applyS s l)).2.1, ((V.commit D (chgsBs l)).1.turnS (V.commit D (chgsBs l)).2.1 (applyS s l)).2.2) := by unfold WS.doS; rw [if_neg (by simp_all), if_neg (not_not_intro hE), if_neg (not_not_intro hA), if_pos h4, if_pos h0]
           refine aRet ?_
           rw [hT]
           exact ⟨_, [_, _, _, _, _], _, rfl, (.cons (by repeat constructor) (.cons (by repeat constructor) (.cons (by repeat constructor) (.cons (by repeat constructor) (.cons (by repeat constructor) .nil))))), rfl, _, _, (by first | exact r3 | exact r2), rfl⟩)
        | (have h4 : (V.commit D (chgsBs l)).2.2 = 4 := by assumption
           have h0 : ¬ ((V.commit D (chgsBs l)).1.turnS (V.commit D (chgsBs l)).2.1 (applyS s l)).2.2 = 0 := by assumption
           have hT : V.doS s D l = (((V.commit D (chgsBs l)).1.turnS (V.commit D (chgsBs l)).2.1 (applyS s l)).1, s, ((V.commit D (chgsBs l)).1.turnS (V.commit D (chgsBs l)).2.1 (applyS s l)).2.1, ((V.commit D (chgsBs l)).1.turnS (V.commit D (chgsBs l)).2.1 (applyS s l)).2.2) := by unfold WS.doS; rw [if_neg (by simp_all), if_neg (not_not_intro hE), if_neg (not_not_intro hA), if_pos h4, if_neg h0]
           refine aRet ?_
           rw [hT]
           exact ⟨_, [_, _, _, _, _], _, rfl, (.cons (by repeat constructor) (.cons (by repeat constructor) (.cons (by repeat constructor) (.cons (by repeat constructor) (.cons (by repeat constructor) .nil))))), rfl, _, _, (by first | exact r3 | exact r2), rfl⟩)
        | (have h4 : ¬ (V.commit D (chgsBs l)).2.2 = 4 := by assumption
           have h0 : (V.commit D (chgsBs l)).2.2 = 0 := by assumption
           have hT : V.doS s D l = ((V.commit D (chgsBs l)).1, applyS s l, (V.commit D (chgsBs l)).2.1, (V.commit D (chgsBs l)).2.2) := by unfold WS.doS; rw [if_neg (by simp_all), if_neg (not_not_intro hE), if_neg (not_not_intro hA), if_neg h4, if_pos h0]
           refine aRet ?_
           rw [hT]
           exact ⟨_, [_, _, _, _, _], _, rfl, (.cons (by repeat constructor) (.cons (by repeat constructor) (.cons (by repeat constructor) (.cons (by repeat constructor) (.cons (by repeat constructor) .nil))))), rfl, _, _, (by first | exact r3 | exact r2), rfl⟩)
        | (have h4 : ¬ (V.commit D (chgsBs l)).2.2 = 4 := by assumption
           have h0 : ¬ (V.commit D (chgsBs l)).2.2 = 0 := by assumption
           have hT : V.doS s D l = ((V.commit D (chgsBs l)).1, s, (V.commit D (chgsBs l)).2.1, (V.commit D (chgsBs l)).2.2) := by unfold WS.doS; rw [if_neg (by simp_all), if_neg (not_not_intro hE), if_neg (not_not_intro hA), if_neg h4, if_neg h0]
           refine aRet ?_
           rw [hT]
           exact ⟨_, [_, _, _, _, _], _, rfl, (.cons (by repeat constructor) (.cons (by repeat constructor) (.cons (by repeat constructor) (.cons (by repeat constructor) (.cons (by repeat constructor) .nil))))), rfl, _, _, (by first | exact r3 | exact r2), rfl⟩)
     ·skip
      refine aSkip ?_
      refine aSeq ?_
      refine aReg ?_
      refine sp pM ?_
      refine sp pMa ?_
      refine oNil ?_
      first
        | (have h4 : (V.commit D (chgsBs l)).2.2 = 4 := by assumption
           have h0 : ((V.commit D (chgsBs l)).1.turnS (V.commit D (chgsBs l)).2.1 (applyS s l)).2.2 = 0 := by assumption
           have hT : V.doS s D l = (((V.commit D (chgsBs l)).1.turnS (V.commit D (chgsBs l)).2.1 (applyS s l)).1, applyS s l, ((V.commit D (chgsBs l)).1.turnS (V.commit D (chgsBs l)).2.1 (applyS s l)).2.1, ((V.commit D (chgsBs l)).1.turnS (V.commit D (chgsBs l)).2.1 (applyS s l)).2.2) := by unfold WS.doS; rw [if_neg (by simp_all), if_neg (not_not_intro hE), if_neg (not_not_intro hA), if_pos h4, if_pos h0]
           refine aRet ?_
           rw [hT]
           exact ⟨_, [_, _, _, _, _], _, rfl, (.cons (by repeat constructor) (.cons (by repeat constructor) (.cons (by repeat constructor) (.cons (by repeat constructor) (.cons (by repeat constructor) .nil))))), rfl, _, _, (by first | exact r3 | exact r2), rfl⟩)
        | (have h4 : (V.commit D (chgsBs l)).2.2 = 4 := by assumption
           have h0 : ¬ ((V.commit D (chgsBs l)).1.turnS (V.commit D (chgsBs l)).2.1 (applyS s l)).2.2 = 0 := by assumption
           have hT : V.doS s D l = (((V.commit D (chgsBs l)).1.turnS (V.commit D (chgsBs l)).2.1 (applyS s l)).1, s, ((V.commit D (chgsBs l)).1.turnS (V.commit D (chgsBs l)).2.1 (applyS s l)).2.1, ((V.commit D (chgsBs l)).1.turnS (V.commit D (chgsBs l)).2.1 (applyS s l)).2.2) := by unfold WS.doS; rw [if_neg (by simp_all), if_neg (not_not_intro hE), if_neg (not_not_intro hA), if_pos h4, if_neg h0]
           refine aRet ?_
           rw [hT]
           exact ⟨_, [_, _, _, _, _], _, rfl, (.cons (by repeat constructor) (.cons (by repeat constructor) (.cons (by repeat constructor) (.cons (by repeat constructor) (.cons (by repeat constructor) .nil))))), rfl, _, _, (by first | exact r3 | exact r2), rfl⟩)
        | (have h4 : ¬ (V.commit D (chgsBs l)).2.2 = 4 := by assumption
           have h0 : (V.commit D (chgsBs l)).2.2 = 0 := by assumption
           have hT : V.doS s D l = ((V.commit D (chgsBs l)).1, applyS s l, (V.commit D (chgsBs l)).2.1, (V.commit D (chgsBs l)).2.2) := by unfold WS.doS; rw [if_neg (by simp_all), if_neg (not_not_intro hE), if_neg (not_not_intro hA), if_neg h4, if_pos h0]
           refine aRet ?_
           rw [hT]
           exact ⟨_, [_, _, _, _, _], _, rfl, (.cons (by repeat constructor) (.cons (by repeat constructor) (.cons (by repeat constructor) (.cons (by repeat constructor) (.cons (by repeat constructor) .nil))))), rfl, _, _, (by first | exact r3 | exact r2), rfl⟩)
        | (have h4 : ¬ (V.commit D (chgsBs l)).2.2 = 4 := by assumption
           have h0 : ¬ (V.commit D (chgsBs l)).2.2 = 0 := by assumption
           have hT : V.doS s D l = ((V.commit D (chgsBs l)).1, s, (V.commit D (chgsBs l)).2.1, (V.commit D (chgsBs l)).2.2) := by unfold WS.doS; rw [if_neg (by simp_all), if_neg (not_not_intro hE), if_neg (not_not_intro hA), if_neg h4, if_neg h0]
           refine aRet ?_
           rw [hT]
           exact ⟨_, [_, _, _, _, _], _, rfl, (.cons (by repeat constructor) (.cons (by repeat constructor) (.cons (by repeat constructor) (.cons (by repeat constructor) (.cons (by repeat constructor) .nil))))), rfl, _, _, (by first | exact r3 | exact r2), rfl⟩)
end A
end Go.Proofs.YthkgdhamnpiagaaGreat
namespace Go.Proofs.YthkgdhamnpiagaaGreat
namespace A
theorem st_183 : structPlaces Tryz.prog 183 = some [(0, 1), (1, 4)] := by kernel_rfl
theorem ze_183 : zeroOf Tryz.prog 183 = some (.agg #[.pointer none, .slice none 0 0, .int .i64 0, .int .i64 0, .slice none 0 0]) := by kernel_rfl
/-- What a store is at first: its log, what is kept, the disk, an error. -/
structure SOpn where
 w : WS
 s : St
 d : DW
 e : Int
def storeOpen (D : DW) (n : Nat) : SOpn :=
 if (walOpen D n).e ≠ 0 then ⟨wal0, st0, (walOpen D n).d, (walOpen D n).e⟩ else
 match sayL (walOpen D n).b (walOpen D n).recs with
 | none => ⟨wal0, st0, (walOpen D n).d, 8⟩
 | some s => ⟨(walOpen D n).w, s, (walOpen D n).d, 0⟩
def SPost (db bs bw n : Nat) (O : SOpn) : AV → List HA → Prop := fun q h' => ∃ v S' W', Rel n S' W' O.d ∧ q = .tup [.v v, .int O.e] ∧ ((O.e = 0 ∧ ∃ tb wb, v = .pointer (some ⟨tb, 0, none⟩) ∧ h' = .box tb (.v (.pointer (some ⟨wb, 0, none⟩)) :: stC O.s) :: .box wb (wsC db O.w) :: [.box db [.int n, .v (.map (some bs)), .v (.map (some bw)), .int O.d.armed, .v (.bool O.d.dead)], .map bs (kvA S'), .map bw (kvA W')]) ∨ (O.e ≠ 0 ∧ v = .pointer none ∧ h' = [.box db [.int n, .v (.map (some bs)), .v (.map (some bw)), .int O.d.armed, .v (.bool O.d.dead)], .map bs (kvA S'), .map bw (kvA W')]))
/- store.Open -/
set_option maxRecDepth 100000 in
set_option maxHeartbeats 4000000 in
theorem store_Open {db bs bw n : Nat} {S W : List (Int × BS)} {D : DW} (r : Rel n S W D) (hk : ∀ s ∈ secL D n, BOk s) (hb : (walOpen D n).b.length ≤ 900000) (hbk : BOk (walOpen D n).b) (hrl : (walOpen D n).recs.length ≤ 1000000) (hrb : ∀ r ∈ (walOpen D n).recs, r.length ≤ 900000) (hrk : ∀ r ∈ (walOpen D n).recs, BOk r) : Triple Tryz.prog 33 [.v (.pointer (some ⟨db, 0, none⟩))] [.box db [.int n, .v (.map (some bs)), .v (.map (some bw)), .int D.armed, .v (.bool D.dead)], .map bs (kvA S), .map bw (kvA W)] (SPost db bs bw n (storeOpen D n)) := by
 refine triple_of Tryz.func33 rfl (by kernel_rfl) rfl (by simp) ?_
 refine aSeq ?_
 refine aReg ?_
 refine sp pMa ?_
 refine sp pMa ?_
 refine oNil ?_
 refine aSeq ?_
 refine aReg ?_
 refine sp pM ?_
 refine sa ?_
 refine ca rfl rfl rfl (wal_Open (db := db) r hk) ?_
 rintro _ hh ⟨v, S2, W2, r2, rfl, hc⟩
 refine sp pM ?_
 refine sp pX ?_
 refine sp pX ?_
 refine sp pX ?_
 refine sp pX ?_
 refine sp pMa ?_
 refine sp pMa ?_
 refine sp pMa ?_
 refine sp pMa ?_
 refine oNil ?_
 refine aSeq ?_
 refine aSeq ?_
 refine aReg ?_
 refine sp pM ?_
 refine sp pB ?_
 refine oNil ?_
 refine aCondNe rfl (fun c18 => ?_) (fun c18 => ?_)
 ·skip
  refine aSeq ?_
  refine aReg ?_
  refine sp pM ?_
  refine sp pMa ?_
  refine sp pMa ?_
  refine oNil ?_
  obtain ⟨he, rfl, rfl⟩ := hc.resolve_left (fun h => by simp_all)
  have hO : storeOpen D n = ⟨wal0, st0, (walOpen D n).d, (walOpen D n).e⟩ := by unfold storeOpen; rw [if_pos he]
  refine aRet ?_
  rw [hO]
  exact ⟨_, [_, _, _], _, rfl, (.cons (by repeat constructor) (.cons (by repeat constructor) (.cons (by repeat constructor) .nil))), .pointer none, S2, W2, r2, rfl, .inr ⟨he, rfl, rfl⟩⟩
 ·skip
  refine aSkip ?_
  refine aSeq ?_
  obtain ⟨he, wb, rfl, rfl⟩ := hc.resolve_right (fun h => h.1 (by simp_all))
  refine aReg ?_
  refine sp pM ?_
  refine sp pM ?_
  refine sq ?_
  refine ci rfl rfl rfl (store_say hb hbk hrl hrb hrk) ?_
  refine sp pM ?_
  refine sp pX ?_
  refine sp pX ?_
  refine sq ?_
  refine qAlloc rfl rfl (by decide) ze_35 rfl (fun b8 => ?_)
  refine sa ?_
  refine oStW rfl rfl rfl rfl (by repeat constructor) ty_35 ?_
  refine sp pMa ?_
  refine oNil ?_
  refine aSeq ?_
  refine aSeq ?_
  refine aReg ?_
  refine sp pM ?_
  refine sp pNo ?_
  refine oNil ?_
  refine aCondNot rfl (fun c27 => ?_) (fun c27 => ?_)
  ·skip
   refine aSeq ?_
   refine aReg ?_
   refine sp pMa ?_
   refine sp pMa ?_
   refine oNil ?_
   have hN : sayL (walOpen D n).b (walOpen D n).recs = none := by cases hN : sayL (walOpen D n).b (walOpen D n).recs <;> simp_all
   have hO : storeOpen D n = ⟨wal0, st0, (walOpen D n).d, 8⟩ := by unfold storeOpen; rw [if_neg (not_not_intro he), hN]
   refine aRet ?_
   rw [hO]
   exact ⟨_, [_, _, _], _, rfl, (.cons (by repeat constructor) (.cons (by repeat constructor) (.cons (by repeat constructor) .nil))), .pointer none, S2, W2, r2, rfl, .inr ⟨by show (8 : Int) ≠ 0; decide, rfl, rfl⟩⟩
  ·skip
   refine aSkip ?_
   refine aSeq ?_
   obtain ⟨s, hs⟩ : ∃ s, sayL (walOpen D n).b (walOpen D n).recs = some s := Option.isSome_iff_exists.1 (by simp_all)
   simp only [hs, Option.getD_some]
   refine aReg ?_
   refine sp pM ?_
   refine sr (by first | exact rBWa ty_35 | exact rBW ty_35 | exact rBA ty_35) ?_
   refine sp (pBuild rfl st_183 ze_183 rfl rfl rfl rfl) ?_
   refine sq ?_
   refine qBox rfl rfl (by decide) rfl rfl (fun b31 => ?_)
   refine sp pMa ?_
   refine sp pMa ?_
   refine oNil ?_
   have hO : storeOpen D n = ⟨(walOpen D n).w, s, (walOpen D n).d, 0⟩ := by unfold storeOpen; rw [if_neg (not_not_intro he), hs]
   refine aRet ?_
   rw [hO]
   exact ⟨_, [_, _, _, _, _], _, rfl, (.cons (by repeat constructor) (.cons (by repeat constructor) (.cons (by repeat constructor) (.cons (by repeat constructor) (.cons (by repeat constructor) .nil))))), .pointer (some ⟨b31, 0, none⟩), S2, W2, r2, rfl, .inl ⟨rfl, b31, wb, rfl, rfl⟩⟩
end A
end Go.Proofs.YthkgdhamnpiagaaGreat
namespace Go.Proofs.YthkgdhamnpiagaaGreat
namespace A
theorem fd_40_0 : fieldOf Tryz.prog 40 0 = some (0, 1, false) := by kernel_rfl
theorem fd_40_1 : fieldOf Tryz.prog 40 1 = some (1, 1, false) := by kernel_rfl
theorem st_40 : structPlaces Tryz.prog 40 = some [(0, 1), (1, 1)] := by kernel_rfl
theorem ty_40 : tyOf Tryz.prog 40 = some (2, true) := by kernel_rfl
theorem ze_40 : zeroOf Tryz.prog 40 = some (.agg #[.int .i64 0, .int .i64 0]) := by kernel_rfl
structure Spc where
 next : Int
 upto : Int
 deriving DecidableEq
def spC (s : Spc) : List AV := [.int s.next, .int s.upto]
def sp0 : Spc := ⟨0, 0⟩
def mayS (s : Spc) : Bool := decide (0 ≤ s.upto) && (decide (s.upto ≤ 4611686018427387904) && (decide (1 ≤ s.next) && decide (s.next - 1 ≤ s.upto)))
theorem mayS_iff {s : Spc} : mayS s = true ↔ 0 ≤ s.upto ∧ s.upto ≤ 4611686018427387904 ∧ 1 ≤ s.next ∧ s.next - 1 ≤ s.upto := by
 unfold mayS
 simp only [Bool.and_eq_true, decide_eq_true_eq]
def takeS (s : Spc) : Int × Spc × Int := if mayS s = false then (0, sp0, 1) else if s.upto < s.next then (0, sp0, 3) else (s.next, ⟨s.next + 1, s.upto⟩, 0)
def wantS (s : Spc) : Int × Int := if mayS s = false then (0, 1) else if 4611686018427387904 < s.next then (0, 9) else (min (s.next + 8 - 1) 4611686018427387904, 0)
def grantS (s : Spc) (n : Int) : Spc × Int := if mayS s = false ∨ n ≤ s.upto ∨ 4611686018427387904 < n then (sp0, 1) else (⟨s.next, n⟩, 0)
def afterS (n : Int) : Spc × Int := if n < 0 ∨ 4611686018427387904 < n then (sp0, 1) else (⟨n + 1, n⟩, 0)
/- space.may -/
set_option maxRecDepth 100000 in
set_option maxHeartbeats 400000 in
theorem space_may {s : Spc} (hn : -9223372036854775807 ≤ s.next ∧ s.next ≤ 9223372036854775807) : Triple Tryz.prog 287 [.agg (spC s)] [] (Is (.v (.bool (mayS s))) []) := by
 refine triple_of Tryz.func287 rfl (by kernel_rfl) rfl (by simp) ?_
 refine aSeq ?_
 refine aReg ?_
 refine sq ?_
 refine qBox rfl rfl (by decide) rfl rfl (fun b1 => ?_)
 refine sp pMa ?_
 refine oNil ?_
 refine aSeq ?_
 refine aReg ?_
 refine sp (pFb fd_40_1) ?_
 refine sr (rB1 ty_3) ?_
 refine sp pB ?_
 refine sp pM ?_
 refine oSplitDec 6 rfl (fun c6 => ?_) (fun c6 => ?_)
 ·skip
  refine gp (pFb fd_40_1) ?_
  refine gr (rB1 ty_3) ?_
  refine gp pB ?_
  refine sp pK ?_
  refine sp pM ?_
  refine oSplitDec 11 rfl (fun c11 => ?_) (fun c11 => ?_)
  ·skip
   refine gp (pFb fd_40_0) ?_
   refine gr (rB1 ty_3) ?_
   refine gp pB ?_
   refine sp pK ?_
   refine sp pM ?_
   refine oSplitDec 16 rfl (fun c16 => ?_) (fun c16 => ?_)
   ·skip
    refine gp (pFb fd_40_0) ?_
    refine gr (rB1 ty_3) ?_
    refine gp pSu ?_
    refine gp (pFb fd_40_1) ?_
    refine gr (rB1 ty_3) ?_
    refine gp pB ?_
    refine sp pK ?_
    refine sp pMa ?_
    refine oNil ?_
    refine aRet ?_
    refine finIs rfl ?_
    simp_all [retOf, mayS]
    try omega
   ·skip
    refine gf ?_
    refine gf ?_
    refine gf ?_
    refine gf ?_
    refine gf ?_
    refine gf ?_
    refine sp pK ?_
    refine sp pMa ?_
    refine oNil ?_
    refine aRet ?_
    refine finIs rfl ?_
    simp_all [retOf, mayS]
    try omega
  ·skip
   refine gf ?_
   refine gf ?_
   refine gf ?_
   refine sp pK ?_
   refine sp pM ?_
   refine gf ?_
   refine gf ?_
   refine gf ?_
   refine gf ?_
   refine gf ?_
   refine gf ?_
   refine sp pK ?_
   refine sp pMa ?_
   refine oNil ?_
   refine aRet ?_
   refine finIs rfl ?_
   simp_all [retOf, mayS]
   try omega
 ·skip
  refine gf ?_
  refine gf ?_
  refine gf ?_
  refine sp pK ?_
  refine sp pM ?_
  refine gf ?_
  refine gf ?_
  refine gf ?_
  refine sp pK ?_
  refine sp pM ?_
  refine gf ?_
  refine gf ?_
  refine gf ?_
  refine gf ?_
  refine gf ?_
  refine gf ?_
  refine sp pK ?_
  refine sp pMa ?_
  refine oNil ?_
  refine aRet ?_
  refine finIs rfl ?_
  simp_all [retOf, mayS]
  try omega
/- space.Take -/
def space_Take_r7_T : Bool × List (List Nat × List Nat) := (true, [([], []), ([], []), ([0, 0], [0]), ([1, 2, 0, 1, 2], [1]), ([3, 0, 1, 2, 3], [])])
def space_Take_r7_B : List Nat := [0, 0, 1, 7, 15]
theorem space_Take_r7_t : Go.Proofs.YthkgdhamnpiagaaGreatW.PrintLast.rtab .any (Go.Proofs.YthkgdhamnpiagaaGreatW.PrintLast.opsOf Tryz.f218 7) = space_Take_r7_T := by kernel_rfl
theorem space_Take_r7_b : Go.Proofs.YthkgdhamnpiagaaGreatW.PrintLast.waitsOk space_Take_r7_T.2 space_Take_r7_B = true := by kernel_rfl
set_option maxRecDepth 100000 in
set_option maxHeartbeats 400000 in
theorem space_Take {s : Spc} (hn : -9223372036854775807 ≤ s.next ∧ s.next ≤ 9223372036854775807) : Triple Tryz.prog 218 [.agg (spC s)] [] (Is (.tup [.int (takeS s).1, .agg (spC (takeS s).2.1), .int (takeS s).2.2]) []) := by
 refine triple_ofR Tryz.func218 rfl (by kernel_rfl) rfl (by simp) ?_
 refine aSeq ?_
 refine aReg ?_
 refine sq ?_
 refine qBox rfl rfl (by decide) rfl rfl (fun b1 => ?_)
 refine sp pMa ?_
 refine sq ?_
 refine qAlloc rfl rfl (by decide) ze_40 rfl (fun b3 => ?_)
 refine sp pMa ?_
 refine oNil ?_
 refine aSeq ?_
 refine aBlock ?_
 refine aSeq ?_
 refine aReg ?_
 refine sr (by first | exact rBWa ty_40 | exact rBW ty_40 | exact rBA ty_40) ?_
 refine sq ?_
 refine cv rfl rfl rfl (lents_refl _) (space_may hn) ?_
 refine sp pNo ?_
 refine sp pMa ?_
 refine oNil ?_
 refine aCondNot rfl (fun c6 => ?_) (fun c6 => ?_)
 ·skip
  refine aSeq ?_
  refine aReg ?_
  refine sp (pBuild rfl st_40 ze_40 rfl rfl rfl rfl) ?_
  refine sp pMa ?_
  refine sa ?_
  refine oStW rfl rfl rfl rfl (by repeat constructor) ty_40 ?_
  refine sp pMa ?_
  refine oNil ?_
  have hT : takeS s = (0, sp0, 1) := by unfold takeS; rw [if_pos (by simp_all)]
  rw [hT]
  refine aRet ?_
  refine finRIs (l := [.int 0, .agg (spC sp0), .int 1]) (.cons (.tmp rfl) (.cons (.cellA (cs := spC sp0) rfl (by repeat (first | exact List.mem_cons_self | apply List.mem_cons_of_mem)) ty_40) (.cons (.tmp rfl) .nil))) rfl
 ·skip
  refine aSeq ?_
  refine aReg ?_
  refine sp (pFb fd_40_0) ?_
  refine sr (rB1 ty_3) ?_
  refine sp (pFb fd_40_1) ?_
  refine sr (rB1 ty_3) ?_
  refine sp pB ?_
  refine sp pMa ?_
  refine oNil ?_
  refine aCondDec rfl (fun c11 => ?_) (fun c11 => ?_)
  ·skip
   refine aSeq ?_
   refine aReg ?_
   refine sp (pBuild rfl st_40 ze_40 rfl rfl rfl rfl) ?_
   refine sp pMa ?_
   refine sa ?_
   refine oStW rfl rfl rfl rfl (by repeat constructor) ty_40 ?_
   refine sp pMa ?_
   refine oNil ?_
   have hT : takeS s = (0, sp0, 3) := by unfold takeS; rw [if_neg (by simp_all), if_pos (by first | (simp_all; done) | (simp_all; omega) | omega)]
   rw [hT]
   refine aRet ?_
   refine finRIs (l := [.int 0, .agg (spC sp0), .int 3]) (.cons (.tmp rfl) (.cons (.cellA (cs := spC sp0) rfl (by repeat (first | exact List.mem_cons_self | apply List.mem_cons_of_mem)) ty_40) (.cons (.tmp rfl) .nil))) rfl
  ·skip
   refine aSkip ?_
   refine aSeq ?_
   refine aReg ?_
   refine sp (pFb fd_40_0) ?_
   refine sr (rB1 ty_3) ?_
   refine sp pMa ?_
   refine oNil ?_
   refine aSeq ?_
   have hm : mayS s = true := by simp_all
   have hr := mayS_iff.1 hm
   refine aReg ?_
   refine sp (pFb fd_40_0) ?_
   refine sr (rB1 ty_3) ?_
   refine sp pAd ?_
   refine sp (pFb fd_40_0) ?_
   refine sa ?_
   refine oStB rfl rfl rfl rfl (by repeat constructor) ty_3 rfl (Nat.le_of_ble_eq_true rfl) rfl ?_
   refine oNil ?_
   refine aSeq ?_
   refine aDrawT space_Take_r7_t space_Take_r7_b [3] 5 #[false, false, false, false, false] (by kernel_rfl) rfl rfl (fun HT => ?_)
   refine dp HT 0 rfl pM ?_
   refine dr HT 1 rfl (by first | exact rBWa ty_40 | exact rBW ty_40 | exact rBA ty_40) ?_
   refine dp HT 2 rfl pMa ?_
   refine dGo ?_
   refine eLast ?_
   refine f1 HT 3 rfl ?_
   refine oStW rfl rfl rfl rfl (by repeat constructor) ty_40 ?_
   refine fp HT 4 rfl pMa ?_
   refine fE HT ?_
   clear HT
   have hT : takeS s = (s.next, ⟨s.next + 1, s.upto⟩, 0) := by unfold takeS; rw [if_neg (by simp_all), if_neg (by first | (simp_all; done) | (simp_all; omega) | omega)]
   rw [hT]
   refine aRet ?_
   refine finRIs (l := [.int s.next, .agg (spC ⟨s.next + 1, s.upto⟩), .int 0]) (.cons (.tmp rfl) (.cons (.cellA (cs := spC ⟨s.next + 1, s.upto⟩) rfl (by repeat (first | exact List.mem_cons_self | apply List.mem_cons_of_mem)) ty_40) (.cons (.tmp rfl) .nil))) rfl
/- space.Grant -/
set_option maxRecDepth 100000 in
set_option maxHeartbeats 400000 in
theorem space_Grant {s : Spc} {n : Int} (hn : -9223372036854775807 ≤ s.next ∧ s.next ≤ 9223372036854775807) : Triple Tryz.prog 219 [.agg (spC s), .int n] [] (Is (.tup [.agg (spC (grantS s n).1), .int (grantS s n).2]) []) := by
 refine triple_ofR Tryz.func219 rfl (by kernel_rfl) rfl (by simp) ?_
 refine aSeq ?_
 refine aReg ?_
 refine sq ?_
 refine qBox rfl rfl (by decide) rfl rfl (fun b2 => ?_)
 refine sq ?_
 refine qAlloc rfl rfl (by decide) ze_40 rfl (fun b4 => ?_)
 refine sp pMa ?_
 refine oNil ?_
 refine aSeq ?_
 refine aSeq ?_
 refine aReg ?_
 refine sr (by first | exact rBWa ty_40 | exact rBW ty_40 | exact rBA ty_40) ?_
 refine sq ?_
 refine cv rfl rfl rfl (lents_refl _) (space_may hn) ?_
 refine sp pNo ?_
 refine sp pM ?_
 refine oSplitNot 9 rfl (fun c9 => ?_) (fun c9 => ?_)
 ·skip
  refine gf ?_
  refine gf ?_
  refine gf ?_
  refine gf ?_
  refine sp pK ?_
  refine sp pM ?_
  refine gf ?_
  refine gf ?_
  refine sp pK ?_
  refine oNil ?_
  refine aCondT rfl ?_
  refine aSeq ?_
  refine aReg ?_
  refine sp (pBuild rfl st_40 ze_40 rfl rfl rfl rfl) ?_
  refine sa ?_
  refine oStW rfl rfl rfl rfl (by repeat constructor) ty_40 ?_
  refine sp pMa ?_
  refine oNil ?_
  have hT : grantS s n = (sp0, 1) := by unfold grantS; rw [if_pos (by first | (simp_all; done) | (simp_all; omega) | (left; simp_all; done) | (right; left; omega) | (right; right; omega))]
  rw [hT]
  refine aRet ?_
  refine finRIs (l := [.agg (spC sp0), .int 1]) (.cons (.cellA (cs := spC sp0) rfl (by repeat (first | exact List.mem_cons_self | apply List.mem_cons_of_mem)) ty_40) (.cons (.tmp rfl) .nil)) rfl
 ·skip
  refine gp pM ?_
  refine gp (pFb fd_40_1) ?_
  refine gr (rB1 ty_3) ?_
  refine gp pB ?_
  refine sp pK ?_
  refine sp pM ?_
  refine oSplitDec 15 rfl (fun c15 => ?_) (fun c15 => ?_)
  ·skip
   refine gf ?_
   refine gf ?_
   refine sp pK ?_
   refine oNil ?_
   refine aCondT rfl ?_
   refine aSeq ?_
   refine aReg ?_
   refine sp (pBuild rfl st_40 ze_40 rfl rfl rfl rfl) ?_
   refine sa ?_
   refine oStW rfl rfl rfl rfl (by repeat constructor) ty_40 ?_
   refine sp pMa ?_
   refine oNil ?_
   have hT : grantS s n = (sp0, 1) := by unfold grantS; rw [if_pos (by first | (simp_all; done) | (simp_all; omega) | (left; simp_all; done) | (right; left; omega) | (right; right; omega))]
   rw [hT]
   refine aRet ?_
   refine finRIs (l := [.agg (spC sp0), .int 1]) (.cons (.cellA (cs := spC sp0) rfl (by repeat (first | exact List.mem_cons_self | apply List.mem_cons_of_mem)) ty_40) (.cons (.tmp rfl) .nil)) rfl
  ·skip
   refine gp pM ?_
   refine gp pB ?_
   refine sp pK ?_
   refine oNil ?_
   refine aCondDec rfl (fun c18 => ?_) (fun c18 => ?_)
   ·skip
    refine aSeq ?_
    refine aReg ?_
    refine sp (pBuild rfl st_40 ze_40 rfl rfl rfl rfl) ?_
    refine sa ?_
    refine oStW rfl rfl rfl rfl (by repeat constructor) ty_40 ?_
    refine sp pMa ?_
    refine oNil ?_
    have hT : grantS s n = (sp0, 1) := by unfold grantS; rw [if_pos (by first | (simp_all; done) | (simp_all; omega) | (left; simp_all; done) | (right; left; omega) | (right; right; omega))]
    rw [hT]
    refine aRet ?_
    refine finRIs (l := [.agg (spC sp0), .int 1]) (.cons (.cellA (cs := spC sp0) rfl (by repeat (first | exact List.mem_cons_self | apply List.mem_cons_of_mem)) ty_40) (.cons (.tmp rfl) .nil)) rfl
   ·skip
    refine aSkip ?_
    refine aSeq ?_
    refine aReg ?_
    refine sp pM ?_
    refine sp (pFb fd_40_1) ?_
    refine sa ?_
    refine oStB rfl rfl rfl rfl (by repeat constructor) ty_3 rfl (Nat.le_of_ble_eq_true rfl) rfl ?_
    refine oNil ?_
    refine aSeq ?_
    refine aReg ?_
    refine sr (by first | exact rBWa ty_40 | exact rBW ty_40 | exact rBA ty_40) ?_
    refine sa ?_
    refine oStW rfl rfl rfl rfl (by repeat constructor) ty_40 ?_
    refine sp pMa ?_
    refine oNil ?_
    have hT : grantS s n = (⟨s.next, n⟩, 0) := by unfold grantS; rw [if_neg (by first | (simp_all; done) | (simp_all; omega))]
    rw [hT]
    refine aRet ?_
    refine finRIs (l := [.agg (spC ⟨s.next, n⟩), .int 0]) (.cons (.cellA (cs := spC ⟨s.next, n⟩) rfl (by repeat (first | exact List.mem_cons_self | apply List.mem_cons_of_mem)) ty_40) (.cons (.tmp rfl) .nil)) rfl
/- space.After -/
set_option maxRecDepth 100000 in
set_option maxHeartbeats 400000 in
theorem space_After {n : Int} : Triple Tryz.prog 36 [.int n] [] (Is (.tup [.agg (spC (afterS n).1), .int (afterS n).2]) []) := by
 refine triple_ofR Tryz.func36 rfl (by kernel_rfl) rfl (by simp) ?_
 refine aSeq ?_
 refine aReg ?_
 refine sq ?_
 refine qAlloc rfl rfl (by decide) ze_40 rfl (fun b2 => ?_)
 refine sp pMa ?_
 refine oNil ?_
 refine aSeq ?_
 refine aSeq ?_
 refine aReg ?_
 refine sp pM ?_
 refine sp pB ?_
 refine sp pM ?_
 refine oSplitDec 6 rfl (fun c6 => ?_) (fun c6 => ?_)
 ·skip
  refine gf ?_
  refine gf ?_
  refine sp pK ?_
  refine oNil ?_
  refine aCondT rfl ?_
  refine aSeq ?_
  refine aReg ?_
  refine sp (pBuild rfl st_40 ze_40 rfl rfl rfl rfl) ?_
  refine sa ?_
  refine oStW rfl rfl rfl rfl (by repeat constructor) ty_40 ?_
  refine sp pMa ?_
  refine oNil ?_
  have hT : afterS n = (sp0, 1) := by unfold afterS; rw [if_pos (by first | (simp_all; done) | (simp_all; omega) | omega)]
  rw [hT]
  refine aRet ?_
  refine finRIs (l := [.agg (spC sp0), .int 1]) (.cons (.cellA (cs := spC sp0) rfl (by repeat (first | exact List.mem_cons_self | apply List.mem_cons_of_mem)) ty_40) (.cons (.tmp rfl) .nil)) rfl
 ·skip
  refine gp pM ?_
  refine gp pB ?_
  refine sp pK ?_
  refine oNil ?_
  refine aCondDec rfl (fun c9 => ?_) (fun c9 => ?_)
  ·skip
   refine aSeq ?_
   refine aReg ?_
   refine sp (pBuild rfl st_40 ze_40 rfl rfl rfl rfl) ?_
   refine sa ?_
   refine oStW rfl rfl rfl rfl (by repeat constructor) ty_40 ?_
   refine sp pMa ?_
   refine oNil ?_
   have hT : afterS n = (sp0, 1) := by unfold afterS; rw [if_pos (by first | (simp_all; done) | (simp_all; omega) | omega)]
   rw [hT]
   refine aRet ?_
   refine finRIs (l := [.agg (spC sp0), .int 1]) (.cons (.cellA (cs := spC sp0) rfl (by repeat (first | exact List.mem_cons_self | apply List.mem_cons_of_mem)) ty_40) (.cons (.tmp rfl) .nil)) rfl
  ·skip
   refine aSkip ?_
   refine aSeq ?_
   refine aReg ?_
   refine sp pM ?_
   refine sp pAd ?_
   refine sp pM ?_
   refine sp (pBuild rfl st_40 ze_40 rfl rfl rfl rfl) ?_
   refine sa ?_
   refine oStW rfl rfl rfl rfl (by repeat constructor) ty_40 ?_
   refine sp pMa ?_
   refine oNil ?_
   have hT : afterS n = (⟨n + 1, n⟩, 0) := by unfold afterS; rw [if_neg (by first | (simp_all; done) | (simp_all; omega) | omega)]
   rw [hT]
   refine aRet ?_
   refine finRIs (l := [.agg (spC ⟨n + 1, n⟩), .int 0]) (.cons (.cellA (cs := spC ⟨n + 1, n⟩) rfl (by repeat (first | exact List.mem_cons_self | apply List.mem_cons_of_mem)) ty_40) (.cons (.tmp rfl) .nil)) rfl
/- space.Want -/
set_option maxRecDepth 100000 in
set_option maxHeartbeats 400000 in
theorem space_Want {s : Spc} (hn : -9223372036854775807 ≤ s.next ∧ s.next ≤ 9223372036854775807) : Triple Tryz.prog 216 [.agg (spC s)] [] (Is (.tup [.int (wantS s).1, .int (wantS s).2]) []) := by
 refine triple_of Tryz.func216 rfl (by kernel_rfl) rfl (by simp) ?_
 refine aSeq ?_
 refine aReg ?_
 refine sq ?_
 refine qBox rfl rfl (by decide) rfl rfl (fun b1 => ?_)
 refine sp pMa ?_
 refine sp pMa ?_
 refine oNil ?_
 refine aSeq ?_
 refine aBlock ?_
 refine aSeq ?_
 refine aReg ?_
 refine sr (by first | exact rBWa ty_40 | exact rBW ty_40 | exact rBA ty_40) ?_
 refine sq ?_
 refine cv rfl rfl rfl (lents_refl _) (space_may hn) ?_
 refine sp pNo ?_
 refine sp pMa ?_
 refine oNil ?_
 refine aCondNot rfl (fun c4 => ?_) (fun c4 => ?_)
 ·skip
  refine aSeq ?_
  refine aReg ?_
  refine sp pMa ?_
  refine sp pMa ?_
  refine oNil ?_
  have hT : wantS s = (0, 1) := by unfold wantS; rw [if_pos (by simp_all)]
  rw [hT]
  refine aRet ?_
  exact finIs rfl rfl
 ·skip
  refine aSeq ?_
  refine aReg ?_
  refine sp (pFb fd_40_0) ?_
  refine sr (rB1 ty_3) ?_
  refine sp pB ?_
  refine sp pMa ?_
  refine oNil ?_
  refine aCondDec rfl (fun c8 => ?_) (fun c8 => ?_)
  ·skip
   refine aSeq ?_
   refine aReg ?_
   refine sp pMa ?_
   refine sp pMa ?_
   refine oNil ?_
   have hT : wantS s = (0, 9) := by unfold wantS; rw [if_neg (by simp_all), if_pos (by first | (simp_all; done) | (simp_all; omega) | omega)]
   rw [hT]
   refine aRet ?_
   exact finIs rfl rfl
  ·skip
   refine aSkip ?_
   refine aSeq ?_
   have hm : mayS s = true := by simp_all
   have hr := mayS_iff.1 hm
   refine aReg ?_
   refine sp (pFb fd_40_0) ?_
   refine sr (rB1 ty_3) ?_
   refine sp pAd ?_
   refine sp pSu ?_
   refine sp pMin ?_
   refine sp pMa ?_
   refine sp pMa ?_
   refine oNil ?_
   have hT : wantS s = (min (s.next + 8 - 1) 4611686018427387904, 0) := by unfold wantS; rw [if_neg (by simp_all), if_neg (by first | (simp_all; done) | (simp_all; omega) | omega)]
   rw [hT]
   refine aRet ?_
   exact finIs rfl rfl
end A
end Go.Proofs.YthkgdhamnpiagaaGreat
namespace Go.Proofs.YthkgdhamnpiagaaGreat
namespace A
theorem fd_147_0 : fieldOf Tryz.prog 147 0 = some (0, 1, false) := by kernel_rfl
theorem fd_147_1 : fieldOf Tryz.prog 147 1 = some (1, 1, false) := by kernel_rfl
theorem fd_147_2 : fieldOf Tryz.prog 147 2 = some (2, 1, false) := by kernel_rfl
theorem fd_147_3 : fieldOf Tryz.prog 147 3 = some (3, 1, false) := by kernel_rfl
theorem fd_147_4 : fieldOf Tryz.prog 147 4 = some (4, 1, false) := by kernel_rfl
theorem fd_147_5 : fieldOf Tryz.prog 147 5 = some (5, 1, false) := by kernel_rfl
theorem fd_147_6 : fieldOf Tryz.prog 147 6 = some (6, 1, false) := by kernel_rfl
theorem fd_147_7 : fieldOf Tryz.prog 147 7 = some (7, 1, false) := by kernel_rfl
theorem ty_147 : tyOf Tryz.prog 147 = some (8, true) := by kernel_rfl
theorem ze_147 : zeroOf Tryz.prog 147 = some (.agg #[.int .i64 0, .int .i64 0, .int .i64 0, .int .i64 0, .bool false, .bool false, .int .i64 0, .bool false]) := by kernel_rfl
structure Nr where
 f : Int
 c : Int
 b : Int
 p : Int
 h : Bool
 u : Bool
 a : Int
 g : Bool
 deriving DecidableEq
def nrC (n : Nr) : List AV := [.int n.f, .int n.c, .int n.b, .int n.p, .v (.bool n.h), .v (.bool n.u), .int n.a, .v (.bool n.g)]
def nr0 : Nr := ⟨0, 0, 0, 0, false, false, 0, false⟩
def rngN (n : Nr) : Bool := inr n.f 1 64 && (inr n.c 0 1073741824 && (inr n.b 0 1073741824 && (inr n.p 0 1073741824 && inr n.a 0 4)))
def badN (n : Nr) : Bool := (n.h && (decide (n.b = 0) || decide (n.c = 0))) || ((!n.h && decide (0 < n.a)) || ((n.u && !n.h) || ((n.g && !n.u) || !rngN n)))
/- near.within -/
set_option maxRecDepth 100000 in
set_option maxHeartbeats 400000 in
theorem near_within {n lo hi : Int} : Triple Tryz.prog 144 [.int n, .int lo, .int hi] [] (Is (.v (.bool (inr n lo hi))) []) := by
 refine triple_of Tryz.func144 rfl (by kernel_rfl) rfl (by simp) ?_
 refine aSeq ?_
 refine aReg ?_
 refine sp pMa ?_
 refine oNil ?_
 refine aSeq ?_
 refine aReg ?_
 refine sp pM ?_
 refine sp pM ?_
 refine sp pB ?_
 refine sp pM ?_
 refine oSplitDec 10 rfl (fun c10 => ?_) (fun c10 => ?_)
 ·skip
  refine gp pM ?_
  refine gp pM ?_
  refine gp pB ?_
  refine sp pK ?_
  refine sp pMa ?_
  refine oNil ?_
  refine aRet ?_
  refine finIs rfl ?_
  simp_all [retOf, inr]
  all_goals omega
 ·skip
  refine gf ?_
  refine gf ?_
  refine gf ?_
  refine sp pK ?_
  refine sp pMa ?_
  refine oNil ?_
  refine aRet ?_
  refine finIs rfl ?_
  simp_all [retOf, inr]
  all_goals omega
/- near.Check -/
set_option maxRecDepth 100000 in
set_option maxHeartbeats 8000000 in
theorem near_Check {n : Nr} : Triple Tryz.prog 120 [.agg (nrC n)] [] (Is (.int (if badN n = true then 1 else 0)) []) := by
 refine triple_of Tryz.func120 rfl (by kernel_rfl) rfl (by simp) ?_
 refine aSeq ?_
 refine aReg ?_
 refine sq ?_
 refine qBox rfl rfl (by decide) rfl rfl (fun b1 => ?_)
 refine sp pMa ?_
 refine oNil ?_
 refine cutF (α := Unit) (kept := [(1, _)]) (H0 := []) (fun u => True) (fun u => [(3, .v (.bool (rngN n)))]) (fun u => []) ⟨rfl, trivial⟩ (by repeat constructor) ?_ ?_
 ·skip
  refine aReg ?_
  refine sp (pFb fd_147_0) ?_
  refine sr (rB1 ty_3) ?_
  refine sq ?_
  refine cv rfl rfl rfl (lents_refl _) near_within ?_
  refine sp pM ?_
  refine oSplit 7 rfl (fun c7 => ?_) (fun c7 => ?_)
  ·skip
   refine gp (pFb fd_147_1) ?_
   refine gr (rB1 ty_3) ?_
   refine ga ?_
   refine (cv rfl rfl rfl (lents_refl _) near_within ?_).op
   refine sp pK ?_
   refine sp pM ?_
   refine oSplit 12 rfl (fun c12 => ?_) (fun c12 => ?_)
   ·skip
    refine gp (pFb fd_147_2) ?_
    refine gr (rB1 ty_3) ?_
    refine ga ?_
    refine (cv rfl rfl rfl (lents_refl _) near_within ?_).op
    refine sp pK ?_
    refine sp pM ?_
    refine oSplit 17 rfl (fun c17 => ?_) (fun c17 => ?_)
    ·skip
     refine gp (pFb fd_147_3) ?_
     refine gr (rB1 ty_3) ?_
     refine ga ?_
     refine (cv rfl rfl rfl (lents_refl _) near_within ?_).op
     refine sp pK ?_
     refine sp pM ?_
     refine oSplit 22 rfl (fun c22 => ?_) (fun c22 => ?_)
     ·skip
      refine gp (pFb fd_147_6) ?_
      refine gr (rB1 ty_3) ?_
      refine ga ?_
      refine (cv rfl rfl rfl (lents_refl _) near_within ?_).op
      refine sp pK ?_
      refine sp pMa ?_
      refine oNil ?_
      refine ⟨(), ?_, ⟨gAv rfl (by unfold rngN; simp_all), rfl, trivial⟩, _, (by repeat constructor)⟩
      trivial
     ·skip
      refine gf ?_
      refine gf ?_
      refine gf ?_
      refine sp pK ?_
      refine sp pMa ?_
      refine oNil ?_
      refine ⟨(), ?_, ⟨gAv rfl (by unfold rngN; simp_all), rfl, trivial⟩, _, (by repeat constructor)⟩
      trivial
    ·skip
     refine gf ?_
     refine gf ?_
     refine gf ?_
     refine sp pK ?_
     refine sp pM ?_
     refine gf ?_
     refine gf ?_
     refine gf ?_
     refine sp pK ?_
     refine sp pMa ?_
     refine oNil ?_
     refine ⟨(), ?_, ⟨gAv rfl (by unfold rngN; simp_all), rfl, trivial⟩, _, (by repeat constructor)⟩
     trivial
   ·skip
    refine gf ?_
    refine gf ?_
    refine gf ?_
    refine sp pK ?_
    refine sp pM ?_
    refine gf ?_
    refine gf ?_
    refine gf ?_
    refine sp pK ?_
    refine sp pM ?_
    refine gf ?_
    refine gf ?_
    refine gf ?_
    refine sp pK ?_
    refine sp pMa ?_
    refine oNil ?_
    refine ⟨(), ?_, ⟨gAv rfl (by unfold rngN; simp_all), rfl, trivial⟩, _, (by repeat constructor)⟩
    trivial
  ·skip
   refine gf ?_
   refine gf ?_
   refine gf ?_
   refine sp pK ?_
   refine sp pM ?_
   refine gf ?_
   refine gf ?_
   refine gf ?_
   refine sp pK ?_
   refine sp pM ?_
   refine gf ?_
   refine gf ?_
   refine gf ?_
   refine sp pK ?_
   refine sp pM ?_
   refine gf ?_
   refine gf ?_
   refine gf ?_
   refine sp pK ?_
   refine sp pMa ?_
   refine oNil ?_
   refine ⟨(), ?_, ⟨gAv rfl (by unfold rngN; simp_all), rfl, trivial⟩, _, (by repeat constructor)⟩
   trivial
 ·rintro u _
  refine aSeq ?_
  refine aSeq ?_
  refine aReg ?_
  refine sp (pFb fd_147_4) ?_
  refine sr (rB1 ty_4) ?_
  refine sp pM ?_
  refine oSplit 29 rfl (fun c29 => ?_) (fun c29 => ?_)
  ·skip
   refine gp (pFb fd_147_2) ?_
   refine gr (rB1 ty_3) ?_
   refine gp pB ?_
   refine gp pM ?_
   refine oSplitEq 33 rfl (fun c33 => ?_) (fun c33 => ?_)
   ·skip
    refine gf ?_
    refine gf ?_
    refine gf ?_
    refine gp pK ?_
    refine sp pK ?_
    refine sp pM ?_
    refine gf ?_
    refine gf ?_
    refine gf ?_
    refine gf ?_
    refine gf ?_
    refine gf ?_
    refine gf ?_
    refine gf ?_
    refine sp pK ?_
    refine sp pM ?_
    refine gf ?_
    refine gf ?_
    refine gf ?_
    refine gf ?_
    refine gf ?_
    refine gf ?_
    refine gf ?_
    refine sp pK ?_
    refine sp pM ?_
    refine gf ?_
    refine gf ?_
    refine gf ?_
    refine gf ?_
    refine gf ?_
    refine gf ?_
    refine gf ?_
    refine sp pK ?_
    refine sp pM ?_
    refine gf ?_
    refine gf ?_
    refine sp pK ?_
    refine oNil ?_
    refine aCondT rfl ?_
    refine aSeq ?_
    refine aReg ?_
    refine sp pMa ?_
    refine oNil ?_
    refine aRet ?_
    refine finIs rfl ?_
    have hB : badN n = true := by
      first
        | (simp_all [badN]; done)
        | (simp_all [badN]; omega)
    rw [hB]
    rfl
   ·skip
    refine gp (pFb fd_147_1) ?_
    refine gr (rB1 ty_3) ?_
    refine gp pB ?_
    refine gp pK ?_
    refine sp pK ?_
    refine sp pM ?_
    refine oSplitEq 39 rfl (fun c39 => ?_) (fun c39 => ?_)
    ·skip
     refine gf ?_
     refine gf ?_
     refine gf ?_
     refine gf ?_
     refine gf ?_
     refine gf ?_
     refine gf ?_
     refine gf ?_
     refine sp pK ?_
     refine sp pM ?_
     refine gf ?_
     refine gf ?_
     refine gf ?_
     refine gf ?_
     refine gf ?_
     refine gf ?_
     refine gf ?_
     refine sp pK ?_
     refine sp pM ?_
     refine gf ?_
     refine gf ?_
     refine gf ?_
     refine gf ?_
     refine gf ?_
     refine gf ?_
     refine gf ?_
     refine sp pK ?_
     refine sp pM ?_
     refine gf ?_
     refine gf ?_
     refine sp pK ?_
     refine oNil ?_
     refine aCondT rfl ?_
     refine aSeq ?_
     refine aReg ?_
     refine sp pMa ?_
     refine oNil ?_
     refine aRet ?_
     refine finIs rfl ?_
     have hB : badN n = true := by
       first
         | (simp_all [badN]; done)
         | (simp_all [badN]; omega)
     rw [hB]
     rfl
    ·skip
     refine gp (pFb fd_147_4) ?_
     refine gr (rB1 ty_4) ?_
     refine gp pNo ?_
     refine gp pM ?_
     refine oSplitNot 43 rfl (fun c43 => ?_) (fun c43 => ?_)
     ·skip
      refine gp (pFb fd_147_6) ?_
      refine gr (rB1 ty_3) ?_
      refine gp pB ?_
      refine gp pK ?_
      refine sp pK ?_
      refine sp pM ?_
      refine oSplitDec 49 rfl (fun c49 => ?_) (fun c49 => ?_)
      ·skip
       refine gf ?_
       refine gf ?_
       refine gf ?_
       refine gf ?_
       refine gf ?_
       refine gf ?_
       refine gf ?_
       refine sp pK ?_
       refine sp pM ?_
       refine gf ?_
       refine gf ?_
       refine gf ?_
       refine gf ?_
       refine gf ?_
       refine gf ?_
       refine gf ?_
       refine sp pK ?_
       refine sp pM ?_
       refine gf ?_
       refine gf ?_
       refine sp pK ?_
       refine oNil ?_
       refine aCondT rfl ?_
       refine aSeq ?_
       refine aReg ?_
       refine sp pMa ?_
       refine oNil ?_
       refine aRet ?_
       refine finIs rfl ?_
       have hB : badN n = true := by
         first
           | (simp_all [badN]; done)
           | (simp_all [badN]; omega)
       rw [hB]
       rfl
      ·skip
       refine gp (pFb fd_147_5) ?_
       refine gr (rB1 ty_4) ?_
       refine gp pM ?_
       refine oSplit 52 rfl (fun c52 => ?_) (fun c52 => ?_)
       ·skip
        refine gp (pFb fd_147_4) ?_
        refine gr (rB1 ty_4) ?_
        refine gp pNo ?_
        refine gp pK ?_
        refine sp pK ?_
        refine sp pM ?_
        refine oSplitNot 58 rfl (fun c58 => ?_) (fun c58 => ?_)
        ·skip
         refine gf ?_
         refine gf ?_
         refine gf ?_
         refine gf ?_
         refine gf ?_
         refine gf ?_
         refine gf ?_
         refine sp pK ?_
         refine sp pM ?_
         refine gf ?_
         refine gf ?_
         refine sp pK ?_
         refine oNil ?_
         refine aCondT rfl ?_
         refine aSeq ?_
         refine aReg ?_
         refine sp pMa ?_
         refine oNil ?_
         refine aRet ?_
         refine finIs rfl ?_
         have hB : badN n = true := by
           first
             | (simp_all [badN]; done)
             | (simp_all [badN]; omega)
         rw [hB]
         rfl
        ·skip
         refine gp (pFb fd_147_7) ?_
         refine gr (rB1 ty_4) ?_
         refine gp pM ?_
         refine oSplit 61 rfl (fun c61 => ?_) (fun c61 => ?_)
         ·skip
          refine gp (pFb fd_147_5) ?_
          refine gr (rB1 ty_4) ?_
          refine gp pNo ?_
          refine gp pK ?_
          refine sp pK ?_
          refine sp pM ?_
          refine oSplitNot 67 rfl (fun c67 => ?_) (fun c67 => ?_)
          ·skip
           refine gf ?_
           refine gf ?_
           refine sp pK ?_
           refine oNil ?_
           refine aCondT rfl ?_
           refine aSeq ?_
           refine aReg ?_
           refine sp pMa ?_
           refine oNil ?_
           refine aRet ?_
           refine finIs rfl ?_
           have hB : badN n = true := by
             first
               | (simp_all [badN]; done)
               | (simp_all [badN]; omega)
           rw [hB]
           rfl
          ·skip
           refine gp pM ?_
           refine gp pNo ?_
           refine sp pK ?_
           refine oNil ?_
           refine aCondNot rfl (fun c70 => ?_) (fun c70 => ?_)
           ·skip
            refine aSeq ?_
            refine aReg ?_
            refine sp pMa ?_
            refine oNil ?_
            refine aRet ?_
            refine finIs rfl ?_
            have hB : badN n = true := by
              first
                | (simp_all [badN]; done)
                | (simp_all [badN]; omega)
            rw [hB]
            rfl
           ·skip
            refine aSkip ?_
            refine aSeq ?_
            refine aReg ?_
            refine sp pMa ?_
            refine oNil ?_
            refine aRet ?_
            refine finIs rfl ?_
            have hB : badN n = false := by
              first
                | (simp_all [badN]; done)
                | (simp_all [badN]; omega)
            rw [hB]
            rfl
         ·skip
          refine gf ?_
          refine gf ?_
          refine gf ?_
          refine gp pK ?_
          refine sp pK ?_
          refine sp pM ?_
          refine gp pM ?_
          refine gp pNo ?_
          refine sp pK ?_
          refine oNil ?_
          refine aCondNot rfl (fun c70 => ?_) (fun c70 => ?_)
          ·skip
           refine aSeq ?_
           refine aReg ?_
           refine sp pMa ?_
           refine oNil ?_
           refine aRet ?_
           refine finIs rfl ?_
           have hB : badN n = true := by
             first
               | (simp_all [badN]; done)
               | (simp_all [badN]; omega)
           rw [hB]
           rfl
          ·skip
           refine aSkip ?_
           refine aSeq ?_
           refine aReg ?_
           refine sp pMa ?_
           refine oNil ?_
           refine aRet ?_
           refine finIs rfl ?_
           have hB : badN n = false := by
             first
               | (simp_all [badN]; done)
               | (simp_all [badN]; omega)
           rw [hB]
           rfl
       ·skip
        refine gf ?_
        refine gf ?_
        refine gf ?_
        refine gp pK ?_
        refine sp pK ?_
        refine sp pM ?_
        refine gp (pFb fd_147_7) ?_
        refine gr (rB1 ty_4) ?_
        refine gp pM ?_
        refine oSplit 61 rfl (fun c61 => ?_) (fun c61 => ?_)
        ·skip
         refine gp (pFb fd_147_5) ?_
         refine gr (rB1 ty_4) ?_
         refine gp pNo ?_
         refine gp pK ?_
         refine sp pK ?_
         refine sp pM ?_
         refine oSplitNot 67 rfl (fun c67 => ?_) (fun c67 => ?_)
         ·skip
          refine gf ?_
          refine gf ?_
          refine sp pK ?_
          refine oNil ?_
          refine aCondT rfl ?_
          refine aSeq ?_
          refine aReg ?_
          refine sp pMa ?_
          refine oNil ?_
          refine aRet ?_
          refine finIs rfl ?_
          have hB : badN n = true := by
            first
              | (simp_all [badN]; done)
              | (simp_all [badN]; omega)
          rw [hB]
          rfl
         ·skip
          refine gp pM ?_
          refine gp pNo ?_
          refine sp pK ?_
          refine oNil ?_
          refine aCondNot rfl (fun c70 => ?_) (fun c70 => ?_)
          ·skip
           refine aSeq ?_
           refine aReg ?_
           refine sp pMa ?_
           refine oNil ?_
           refine aRet ?_
           refine finIs rfl ?_
           have hB : badN n = true := by
             first
               | (simp_all [badN]; done)
               | (simp_all [badN]; omega)
           rw [hB]
           rfl
          ·skip
           refine aSkip ?_
           refine aSeq ?_
           refine aReg ?_
           refine sp pMa ?_
           refine oNil ?_
           refine aRet ?_
           refine finIs rfl ?_
           have hB : badN n = false := by
             first
               | (simp_all [badN]; done)
               | (simp_all [badN]; omega)
           rw [hB]
           rfl
        ·skip
         refine gf ?_
         refine gf ?_
         refine gf ?_
         refine gp pK ?_
         refine sp pK ?_
         refine sp pM ?_
         refine gp pM ?_
         refine gp pNo ?_
         refine sp pK ?_
         refine oNil ?_
         refine aCondNot rfl (fun c70 => ?_) (fun c70 => ?_)
         ·skip
          refine aSeq ?_
          refine aReg ?_
          refine sp pMa ?_
          refine oNil ?_
          refine aRet ?_
          refine finIs rfl ?_
          have hB : badN n = true := by
            first
              | (simp_all [badN]; done)
              | (simp_all [badN]; omega)
          rw [hB]
          rfl
         ·skip
          refine aSkip ?_
          refine aSeq ?_
          refine aReg ?_
          refine sp pMa ?_
          refine oNil ?_
          refine aRet ?_
          refine finIs rfl ?_
          have hB : badN n = false := by
            first
              | (simp_all [badN]; done)
              | (simp_all [badN]; omega)
          rw [hB]
          rfl
     ·skip
      refine gf ?_
      refine gf ?_
      refine gf ?_
      refine gp pK ?_
      refine sp pK ?_
      refine sp pM ?_
      refine gp (pFb fd_147_5) ?_
      refine gr (rB1 ty_4) ?_
      refine gp pM ?_
      refine oSplit 52 rfl (fun c52 => ?_) (fun c52 => ?_)
      ·skip
       refine gp (pFb fd_147_4) ?_
       refine gr (rB1 ty_4) ?_
       refine gp pNo ?_
       refine gp pK ?_
       refine sp pK ?_
       refine sp pM ?_
       refine oSplitNot 58 rfl (fun c58 => ?_) (fun c58 => ?_)
       ·skip
        refine gf ?_
        refine gf ?_
        refine gf ?_
        refine gf ?_
        refine gf ?_
        refine gf ?_
        refine gf ?_
        refine sp pK ?_
        refine sp pM ?_
        refine gf ?_
        refine gf ?_
        refine sp pK ?_
        refine oNil ?_
        refine aCondT rfl ?_
        refine aSeq ?_
        refine aReg ?_
        refine sp pMa ?_
        refine oNil ?_
        refine aRet ?_
        refine finIs rfl ?_
        have hB : badN n = true := by
          first
            | (simp_all [badN]; done)
            | (simp_all [badN]; omega)
        rw [hB]
        rfl
       ·skip
        refine gp (pFb fd_147_7) ?_
        refine gr (rB1 ty_4) ?_
        refine gp pM ?_
        refine oSplit 61 rfl (fun c61 => ?_) (fun c61 => ?_)
        ·skip
         refine gp (pFb fd_147_5) ?_
         refine gr (rB1 ty_4) ?_
         refine gp pNo ?_
         refine gp pK ?_
         refine sp pK ?_
         refine sp pM ?_
         refine oSplitNot 67 rfl (fun c67 => ?_) (fun c67 => ?_)
         ·skip
          refine gf ?_
          refine gf ?_
          refine sp pK ?_
          refine oNil ?_
          refine aCondT rfl ?_
          refine aSeq ?_
          refine aReg ?_
          refine sp pMa ?_
          refine oNil ?_
          refine aRet ?_
          refine finIs rfl ?_
          have hB : badN n = true := by
            first
              | (simp_all [badN]; done)
              | (simp_all [badN]; omega)
          rw [hB]
          rfl
         ·skip
          refine gp pM ?_
          refine gp pNo ?_
          refine sp pK ?_
          refine oNil ?_
          refine aCondNot rfl (fun c70 => ?_) (fun c70 => ?_)
          ·skip
           refine aSeq ?_
           refine aReg ?_
           refine sp pMa ?_
           refine oNil ?_
           refine aRet ?_
           refine finIs rfl ?_
           have hB : badN n = true := by
             first
               | (simp_all [badN]; done)
               | (simp_all [badN]; omega)
           rw [hB]
           rfl
          ·skip
           refine aSkip ?_
           refine aSeq ?_
           refine aReg ?_
           refine sp pMa ?_
           refine oNil ?_
           refine aRet ?_
           refine finIs rfl ?_
           have hB : badN n = false := by
             first
               | (simp_all [badN]; done)
               | (simp_all [badN]; omega)
           rw [hB]
           rfl
        ·skip
         refine gf ?_
         refine gf ?_
         refine gf ?_
         refine gp pK ?_
         refine sp pK ?_
         refine sp pM ?_
         refine gp pM ?_
         refine gp pNo ?_
         refine sp pK ?_
         refine oNil ?_
         refine aCondNot rfl (fun c70 => ?_) (fun c70 => ?_)
         ·skip
          refine aSeq ?_
          refine aReg ?_
          refine sp pMa ?_
          refine oNil ?_
          refine aRet ?_
          refine finIs rfl ?_
          have hB : badN n = true := by
            first
              | (simp_all [badN]; done)
              | (simp_all [badN]; omega)
          rw [hB]
          rfl
         ·skip
          refine aSkip ?_
          refine aSeq ?_
          refine aReg ?_
          refine sp pMa ?_
          refine oNil ?_
          refine aRet ?_
          refine finIs rfl ?_
          have hB : badN n = false := by
            first
              | (simp_all [badN]; done)
              | (simp_all [badN]; omega)
          rw [hB]
          rfl
      ·skip
       refine gf ?_
       refine gf ?_
       refine gf ?_
       refine gp pK ?_
       refine sp pK ?_
       refine sp pM ?_
       refine gp (pFb fd_147_7) ?_
       refine gr (rB1 ty_4) ?_
       refine gp pM ?_
       refine oSplit 61 rfl (fun c61 => ?_) (fun c61 => ?_)
       ·skip
        refine gp (pFb fd_147_5) ?_
        refine gr (rB1 ty_4) ?_
        refine gp pNo ?_
        refine gp pK ?_
        refine sp pK ?_
        refine sp pM ?_
        refine oSplitNot 67 rfl (fun c67 => ?_) (fun c67 => ?_)
        ·skip
         refine gf ?_
         refine gf ?_
         refine sp pK ?_
         refine oNil ?_
         refine aCondT rfl ?_
         refine aSeq ?_
         refine aReg ?_
         refine sp pMa ?_
         refine oNil ?_
         refine aRet ?_
         refine finIs rfl ?_
         have hB : badN n = true := by
           first
             | (simp_all [badN]; done)
             | (simp_all [badN]; omega)
         rw [hB]
         rfl
        ·skip
         refine gp pM ?_
         refine gp pNo ?_
         refine sp pK ?_
         refine oNil ?_
         refine aCondNot rfl (fun c70 => ?_) (fun c70 => ?_)
         ·skip
          refine aSeq ?_
          refine aReg ?_
          refine sp pMa ?_
          refine oNil ?_
          refine aRet ?_
          refine finIs rfl ?_
          have hB : badN n = true := by
            first
              | (simp_all [badN]; done)
              | (simp_all [badN]; omega)
          rw [hB]
          rfl
         ·skip
          refine aSkip ?_
          refine aSeq ?_
          refine aReg ?_
          refine sp pMa ?_
          refine oNil ?_
          refine aRet ?_
          refine finIs rfl ?_
          have hB : badN n = false := by
            first
              | (simp_all [badN]; done)
              | (simp_all [badN]; omega)
          rw [hB]
          rfl
       ·skip
        refine gf ?_
        refine gf ?_
        refine gf ?_
        refine gp pK ?_
        refine sp pK ?_
        refine sp pM ?_
        refine gp pM ?_
        refine gp pNo ?_
        refine sp pK ?_
        refine oNil ?_
        refine aCondNot rfl (fun c70 => ?_) (fun c70 => ?_)
        ·skip
         refine aSeq ?_
         refine aReg ?_
         refine sp pMa ?_
         refine oNil ?_
         refine aRet ?_
         refine finIs rfl ?_
         have hB : badN n = true := by
           first
             | (simp_all [badN]; done)
             | (simp_all [badN]; omega)
         rw [hB]
         rfl
        ·skip
         refine aSkip ?_
         refine aSeq ?_
         refine aReg ?_
         refine sp pMa ?_
         refine oNil ?_
         refine aRet ?_
         refine finIs rfl ?_
         have hB : badN n = false := by
           first
             | (simp_all [badN]; done)
             | (simp_all [badN]; omega)
         rw [hB]
         rfl
  ·skip
   refine gf ?_
   refine gf ?_
   refine gf ?_
   refine gf ?_
   refine gf ?_
   refine gf ?_
   refine gf ?_
   refine gf ?_
   refine sp pK ?_
   refine sp pM ?_
   refine gp (pFb fd_147_4) ?_
   refine gr (rB1 ty_4) ?_
   refine gp pNo ?_
   refine gp pM ?_
   refine oSplitNot 43 rfl (fun c43 => ?_) (fun c43 => ?_)
   ·skip
    refine gp (pFb fd_147_6) ?_
    refine gr (rB1 ty_3) ?_
    refine gp pB ?_
    refine gp pK ?_
    refine sp pK ?_
    refine sp pM ?_
    refine oSplitDec 49 rfl (fun c49 => ?_) (fun c49 => ?_)
    ·skip
     refine gf ?_
     refine gf ?_
     refine gf ?_
     refine gf ?_
     refine gf ?_
     refine gf ?_
     refine gf ?_
     refine sp pK ?_
     refine sp pM ?_
     refine gf ?_
     refine gf ?_
     refine gf ?_
     refine gf ?_
     refine gf ?_
     refine gf ?_
     refine gf ?_
     refine sp pK ?_
     refine sp pM ?_
     refine gf ?_
     refine gf ?_
     refine sp pK ?_
     refine oNil ?_
     refine aCondT rfl ?_
     refine aSeq ?_
     refine aReg ?_
     refine sp pMa ?_
     refine oNil ?_
     refine aRet ?_
     refine finIs rfl ?_
     have hB : badN n = true := by
       first
         | (simp_all [badN]; done)
         | (simp_all [badN]; omega)
     rw [hB]
     rfl
    ·skip
     refine gp (pFb fd_147_5) ?_
     refine gr (rB1 ty_4) ?_
     refine gp pM ?_
     refine oSplit 52 rfl (fun c52 => ?_) (fun c52 => ?_)
     ·skip
      refine gp (pFb fd_147_4) ?_
      refine gr (rB1 ty_4) ?_
      refine gp pNo ?_
      refine gp pK ?_
      refine sp pK ?_
      refine sp pM ?_
      refine oSplitNot 58 rfl (fun c58 => ?_) (fun c58 => ?_)
      ·skip
       refine gf ?_
       refine gf ?_
       refine gf ?_
       refine gf ?_
       refine gf ?_
       refine gf ?_
       refine gf ?_
       refine sp pK ?_
       refine sp pM ?_
       refine gf ?_
       refine gf ?_
       refine sp pK ?_
       refine oNil ?_
       refine aCondT rfl ?_
       refine aSeq ?_
       refine aReg ?_
       refine sp pMa ?_
       refine oNil ?_
       refine aRet ?_
       refine finIs rfl ?_
       have hB : badN n = true := by
         first
           | (simp_all [badN]; done)
           | (simp_all [badN]; omega)
       rw [hB]
       rfl
      ·skip
       refine gp (pFb fd_147_7) ?_
       refine gr (rB1 ty_4) ?_
       refine gp pM ?_
       refine oSplit 61 rfl (fun c61 => ?_) (fun c61 => ?_)
       ·skip
        refine gp (pFb fd_147_5) ?_
        refine gr (rB1 ty_4) ?_
        refine gp pNo ?_
        refine gp pK ?_
        refine sp pK ?_
        refine sp pM ?_
        refine oSplitNot 67 rfl (fun c67 => ?_) (fun c67 => ?_)
        ·skip
         refine gf ?_
         refine gf ?_
         refine sp pK ?_
         refine oNil ?_
         refine aCondT rfl ?_
         refine aSeq ?_
         refine aReg ?_
         refine sp pMa ?_
         refine oNil ?_
         refine aRet ?_
         refine finIs rfl ?_
         have hB : badN n = true := by
           first
             | (simp_all [badN]; done)
             | (simp_all [badN]; omega)
         rw [hB]
         rfl
        ·skip
         refine gp pM ?_
         refine gp pNo ?_
         refine sp pK ?_
         refine oNil ?_
         refine aCondNot rfl (fun c70 => ?_) (fun c70 => ?_)
         ·skip
          refine aSeq ?_
          refine aReg ?_
          refine sp pMa ?_
          refine oNil ?_
          refine aRet ?_
          refine finIs rfl ?_
          have hB : badN n = true := by
            first
              | (simp_all [badN]; done)
              | (simp_all [badN]; omega)
          rw [hB]
          rfl
         ·skip
          refine aSkip ?_
          refine aSeq ?_
          refine aReg ?_
          refine sp pMa ?_
          refine oNil ?_
          refine aRet ?_
          refine finIs rfl ?_
          have hB : badN n = false := by
            first
              | (simp_all [badN]; done)
              | (simp_all [badN]; omega)
          rw [hB]
          rfl
       ·skip
        refine gf ?_
        refine gf ?_
        refine gf ?_
        refine gp pK ?_
        refine sp pK ?_
        refine sp pM ?_
        refine gp pM ?_
        refine gp pNo ?_
        refine sp pK ?_
        refine oNil ?_
        refine aCondNot rfl (fun c70 => ?_) (fun c70 => ?_)
        ·skip
         refine aSeq ?_
         refine aReg ?_
         refine sp pMa ?_
         refine oNil ?_
         refine aRet ?_
         refine finIs rfl ?_
         have hB : badN n = true := by
           first
             | (simp_all [badN]; done)
             | (simp_all [badN]; omega)
         rw [hB]
         rfl
        ·skip
         refine aSkip ?_
         refine aSeq ?_
         refine aReg ?_
         refine sp pMa ?_
         refine oNil ?_
         refine aRet ?_
         refine finIs rfl ?_
         have hB : badN n = false := by
           first
             | (simp_all [badN]; done)
             | (simp_all [badN]; omega)
         rw [hB]
         rfl
     ·skip
      refine gf ?_
      refine gf ?_
      refine gf ?_
      refine gp pK ?_
      refine sp pK ?_
      refine sp pM ?_
      refine gp (pFb fd_147_7) ?_
      refine gr (rB1 ty_4) ?_
      refine gp pM ?_
      refine oSplit 61 rfl (fun c61 => ?_) (fun c61 => ?_)
      ·skip
       refine gp (pFb fd_147_5) ?_
       refine gr (rB1 ty_4) ?_
       refine gp pNo ?_
       refine gp pK ?_
       refine sp pK ?_
       refine sp pM ?_
       refine oSplitNot 67 rfl (fun c67 => ?_) (fun c67 => ?_)
       ·skip
        refine gf ?_
        refine gf ?_
        refine sp pK ?_
        refine oNil ?_
        refine aCondT rfl ?_
        refine aSeq ?_
        refine aReg ?_
        refine sp pMa ?_
        refine oNil ?_
        refine aRet ?_
        refine finIs rfl ?_
        have hB : badN n = true := by
          first
            | (simp_all [badN]; done)
            | (simp_all [badN]; omega)
        rw [hB]
        rfl
       ·skip
        refine gp pM ?_
        refine gp pNo ?_
        refine sp pK ?_
        refine oNil ?_
        refine aCondNot rfl (fun c70 => ?_) (fun c70 => ?_)
        ·skip
         refine aSeq ?_
         refine aReg ?_
         refine sp pMa ?_
         refine oNil ?_
         refine aRet ?_
         refine finIs rfl ?_
         have hB : badN n = true := by
           first
             | (simp_all [badN]; done)
             | (simp_all [badN]; omega)
         rw [hB]
         rfl
        ·skip
         refine aSkip ?_
         refine aSeq ?_
         refine aReg ?_
         refine sp pMa ?_
         refine oNil ?_
         refine aRet ?_
         refine finIs rfl ?_
         have hB : badN n = false := by
           first
             | (simp_all [badN]; done)
             | (simp_all [badN]; omega)
         rw [hB]
         rfl
      ·skip
       refine gf ?_
       refine gf ?_
       refine gf ?_
       refine gp pK ?_
       refine sp pK ?_
       refine sp pM ?_
       refine gp pM ?_
       refine gp pNo ?_
       refine sp pK ?_
       refine oNil ?_
       refine aCondNot rfl (fun c70 => ?_) (fun c70 => ?_)
       ·skip
        refine aSeq ?_
        refine aReg ?_
        refine sp pMa ?_
        refine oNil ?_
        refine aRet ?_
        refine finIs rfl ?_
        have hB : badN n = true := by
          first
            | (simp_all [badN]; done)
            | (simp_all [badN]; omega)
        rw [hB]
        rfl
       ·skip
        refine aSkip ?_
        refine aSeq ?_
        refine aReg ?_
        refine sp pMa ?_
        refine oNil ?_
        refine aRet ?_
        refine finIs rfl ?_
        have hB : badN n = false := by
          first
            | (simp_all [badN]; done)
            | (simp_all [badN]; omega)
        rw [hB]
        rfl
   ·skip
    refine gf ?_
    refine gf ?_
    refine gf ?_
    refine gp pK ?_
    refine sp pK ?_
    refine sp pM ?_
    refine gp (pFb fd_147_5) ?_
    refine gr (rB1 ty_4) ?_
    refine gp pM ?_
    refine oSplit 52 rfl (fun c52 => ?_) (fun c52 => ?_)
    ·skip
     refine gp (pFb fd_147_4) ?_
     refine gr (rB1 ty_4) ?_
     refine gp pNo ?_
     refine gp pK ?_
     refine sp pK ?_
     refine sp pM ?_
     refine oSplitNot 58 rfl (fun c58 => ?_) (fun c58 => ?_)
     ·skip
      refine gf ?_
      refine gf ?_
      refine gf ?_
      refine gf ?_
      refine gf ?_
      refine gf ?_
      refine gf ?_
      refine sp pK ?_
      refine sp pM ?_
      refine gf ?_
      refine gf ?_
      refine sp pK ?_
      refine oNil ?_
      refine aCondT rfl ?_
      refine aSeq ?_
      refine aReg ?_
      refine sp pMa ?_
      refine oNil ?_
      refine aRet ?_
      refine finIs rfl ?_
      have hB : badN n = true := by
        first
          | (simp_all [badN]; done)
          | (simp_all [badN]; omega)
      rw [hB]
      rfl
     ·skip
      refine gp (pFb fd_147_7) ?_
      refine gr (rB1 ty_4) ?_
      refine gp pM ?_
      refine oSplit 61 rfl (fun c61 => ?_) (fun c61 => ?_)
      ·skip
       refine gp (pFb fd_147_5) ?_
       refine gr (rB1 ty_4) ?_
       refine gp pNo ?_
       refine gp pK ?_
       refine sp pK ?_
       refine sp pM ?_
       refine oSplitNot 67 rfl (fun c67 => ?_) (fun c67 => ?_)
       ·skip
        refine gf ?_
        refine gf ?_
        refine sp pK ?_
        refine oNil ?_
        refine aCondT rfl ?_
        refine aSeq ?_
        refine aReg ?_
        refine sp pMa ?_
        refine oNil ?_
        refine aRet ?_
        refine finIs rfl ?_
        have hB : badN n = true := by
          first
            | (simp_all [badN]; done)
            | (simp_all [badN]; omega)
        rw [hB]
        rfl
       ·skip
        refine gp pM ?_
        refine gp pNo ?_
        refine sp pK ?_
        refine oNil ?_
        refine aCondNot rfl (fun c70 => ?_) (fun c70 => ?_)
        ·skip
         refine aSeq ?_
         refine aReg ?_
         refine sp pMa ?_
         refine oNil ?_
         refine aRet ?_
         refine finIs rfl ?_
         have hB : badN n = true := by
           first
             | (simp_all [badN]; done)
             | (simp_all [badN]; omega)
         rw [hB]
         rfl
        ·skip
         refine aSkip ?_
         refine aSeq ?_
         refine aReg ?_
         refine sp pMa ?_
         refine oNil ?_
         refine aRet ?_
         refine finIs rfl ?_
         have hB : badN n = false := by
           first
             | (simp_all [badN]; done)
             | (simp_all [badN]; omega)
         rw [hB]
         rfl
      ·skip
       refine gf ?_
       refine gf ?_
       refine gf ?_
       refine gp pK ?_
       refine sp pK ?_
       refine sp pM ?_
       refine gp pM ?_
       refine gp pNo ?_
       refine sp pK ?_
       refine oNil ?_
       refine aCondNot rfl (fun c70 => ?_) (fun c70 => ?_)
       ·skip
        refine aSeq ?_
        refine aReg ?_
        refine sp pMa ?_
        refine oNil ?_
        refine aRet ?_
        refine finIs rfl ?_
        have hB : badN n = true := by
          first
            | (simp_all [badN]; done)
            | (simp_all [badN]; omega)
        rw [hB]
        rfl
       ·skip
        refine aSkip ?_
        refine aSeq ?_
        refine aReg ?_
        refine sp pMa ?_
        refine oNil ?_
        refine aRet ?_
        refine finIs rfl ?_
        have hB : badN n = false := by
          first
            | (simp_all [badN]; done)
            | (simp_all [badN]; omega)
        rw [hB]
        rfl
    ·skip
     refine gf ?_
     refine gf ?_
     refine gf ?_
     refine gp pK ?_
     refine sp pK ?_
     refine sp pM ?_
     refine gp (pFb fd_147_7) ?_
     refine gr (rB1 ty_4) ?_
     refine gp pM ?_
     refine oSplit 61 rfl (fun c61 => ?_) (fun c61 => ?_)
     ·skip
      refine gp (pFb fd_147_5) ?_
      refine gr (rB1 ty_4) ?_
      refine gp pNo ?_
      refine gp pK ?_
      refine sp pK ?_
      refine sp pM ?_
      refine oSplitNot 67 rfl (fun c67 => ?_) (fun c67 => ?_)
      ·skip
       refine gf ?_
       refine gf ?_
       refine sp pK ?_
       refine oNil ?_
       refine aCondT rfl ?_
       refine aSeq ?_
       refine aReg ?_
       refine sp pMa ?_
       refine oNil ?_
       refine aRet ?_
       refine finIs rfl ?_
       have hB : badN n = true := by
         first
           | (simp_all [badN]; done)
           | (simp_all [badN]; omega)
       rw [hB]
       rfl
      ·skip
       refine gp pM ?_
       refine gp pNo ?_
       refine sp pK ?_
       refine oNil ?_
       refine aCondNot rfl (fun c70 => ?_) (fun c70 => ?_)
       ·skip
        refine aSeq ?_
        refine aReg ?_
        refine sp pMa ?_
        refine oNil ?_
        refine aRet ?_
        refine finIs rfl ?_
        have hB : badN n = true := by
          first
            | (simp_all [badN]; done)
            | (simp_all [badN]; omega)
        rw [hB]
        rfl
       ·skip
        refine aSkip ?_
        refine aSeq ?_
        refine aReg ?_
        refine sp pMa ?_
        refine oNil ?_
        refine aRet ?_
        refine finIs rfl ?_
        have hB : badN n = false := by
          first
            | (simp_all [badN]; done)
            | (simp_all [badN]; omega)
        rw [hB]
        rfl
     ·skip
      refine gf ?_
      refine gf ?_
      refine gf ?_
      refine gp pK ?_
      refine sp pK ?_
      refine sp pM ?_
      refine gp pM ?_
      refine gp pNo ?_
      refine sp pK ?_
      refine oNil ?_
      refine aCondNot rfl (fun c70 => ?_) (fun c70 => ?_)
      ·skip
       refine aSeq ?_
       refine aReg ?_
       refine sp pMa ?_
       refine oNil ?_
       refine aRet ?_
       refine finIs rfl ?_
       have hB : badN n = true := by
         first
           | (simp_all [badN]; done)
           | (simp_all [badN]; omega)
       rw [hB]
       rfl
      ·skip
       refine aSkip ?_
       refine aSeq ?_
       refine aReg ?_
       refine sp pMa ?_
       refine oNil ?_
       refine aRet ?_
       refine finIs rfl ?_
       have hB : badN n = false := by
         first
           | (simp_all [badN]; done)
           | (simp_all [badN]; omega)
       rw [hB]
       rfl
end A
end Go.Proofs.YthkgdhamnpiagaaGreat
namespace Go.Proofs.YthkgdhamnpiagaaGreat
namespace A
theorem st_147 : structPlaces Tryz.prog 147 = some [(0, 1), (1, 1), (2, 1), (3, 1), (4, 1), (5, 1), (6, 1), (7, 1)] := by kernel_rfl
end A
end Go.Proofs.YthkgdhamnpiagaaGreat
namespace Go.Proofs.YthkgdhamnpiagaaGreat
namespace A
theorem es_36 : elemSize Tryz.prog 36 = some 8 := by kernel_rfl
theorem sl_36 : isSl Tryz.prog 36 = true := by kernel_rfl
def kN (x : Nr) : Int := x.f
def nearsB : Int → List Nr → Bool
 | _, [] => true
 | last, x :: l => (!badN x && decide (last < x.f)) && nearsB x.f l
theorem nears_step {last : Int} {l : List Nr} {i : Nat} {x : Nr} (h : l[i]? = some x) : nearsB last (l.drop i) = ((!badN x && decide (last < x.f)) && nearsB x.f (l.drop (i + 1))) := by
 rw [drop_step h]
 rfl
def tabB (l : List Nr) : Bool := nearsB 0 l && decide (l.length ≤ 16)
/- table.Check -/
set_option maxRecDepth 100000 in
set_option maxHeartbeats 2000000 in
theorem table_Check {l : List Nr} (hl : l.length ≤ 1000000) : Triple Tryz.prog 136 [.sl 8 (l.map nrC)] [] (Is (.int (if tabB l then 0 else 1)) []) := by
 refine triple_of Tryz.func136 rfl (by kernel_rfl) rfl (by simp) ?_
 refine aSeq ?_
 refine aReg ?_
 refine sp pMa ?_
 refine oNil ?_
 refine aSeq ?_
 refine aReg ?_
 refine sp pMa ?_
 refine oNil ?_
 refine aSeq ?_
 refine aSeq ?_
 refine aReg ?_
 refine sp pM ?_
 refine sp (by first | exact pLm sl_36 | exact pLs sl_36) ?_
 refine sp pM ?_
 refine oNil ?_
 refine aBlock ?_
 refine loopF (α := Nat × Int) (kept := [(0, _), (6, _), (7, _)]) (fun (i, last) => i ≤ l.length ∧ nearsB 0 l = nearsB last (l.drop i)) (fun (i, last) => [(8, .int i), (3, .int last)]) (fun (i, last) => []) (fun (i, last) => l.length - i) (0, 0) ?_ ⟨gInt rfl (by first | rfl | omega | simp), gInt rfl (by first | rfl | omega | simp), rfl, rfl, rfl, trivial⟩ (by repeat constructor) ?_
 ·skip
  exact ⟨by omega, rfl⟩
 ·rintro ⟨i, last⟩ ⟨hi, hv⟩
  refine aSeq ?_
  refine aReg ?_
  refine sp pB ?_
  refine oNil ?_
  refine aSeq ?_
  refine aCondDec rfl (fun c9 => ?_) (fun c9 => ?_)
  ·skip
   refine aSkip ?_
   refine aSeq ?_
   refine aBlock ?_
   refine aSeq ?_
   obtain ⟨x, hx⟩ : ∃ z, l[i]? = some z := ⟨_, List.getElem?_eq_getElem (by omega)⟩
   have hs := nears_step (last := last) hx
   refine aReg ?_
   first | refine sp (pIx es_36) ?_ | (refine obtSN 6 8 rfl rfl (by omega) (fun x10 hx10 => ?_); refine sp (pIs es_36 hx10) ?_) | (refine obtS 6 8 rfl rfl (by omega) (by omega) (fun x10 hx10 => ?_); refine sp (pIs es_36 hx10) ?_) | refine sp (pIo es_36) ?_
   refine sr (by first | exact rSW ty_147 rfl | exact rSA ty_147) ?_
   refine sq ?_
   refine qAlloc rfl rfl (by decide) ze_147 rfl (fun b5 => ?_)
   refine sa ?_
   refine oStW rfl rfl rfl rfl (by repeat constructor) ty_147 ?_
   refine oNil ?_
   refine aSeq ?_
   refine aSeq ?_
   refine aReg ?_
   refine sr (by first | exact rBWa ty_147 | exact rBW ty_147 | exact rBA ty_147) ?_
   refine sq ?_
   refine ci rfl rfl rfl (near_Check (n := x)) ?_
   refine sp pB ?_
   refine sp pM ?_
   refine oSplitNe 15 rfl (fun c15 => ?_) (fun c15 => ?_)
   ·skip
    refine gf ?_
    refine gf ?_
    refine gf ?_
    refine gf ?_
    refine sp pK ?_
    refine oNil ?_
    refine aCondT rfl ?_
    refine aSeq ?_
    refine aReg ?_
    refine sp pMa ?_
    refine oNil ?_
    refine aRet ?_
    refine finIs rfl ?_
    have hB : tabB l = false := by
      unfold tabB
      rw [hv, hs]
      cases hb : badN x <;> simp_all <;> omega
    rw [hB]
    rfl
   ·skip
    refine gp (pFb fd_147_0) ?_
    refine gr (rB1 ty_3) ?_
    refine gp pM ?_
    refine gp pB ?_
    refine sp pK ?_
    refine oNil ?_
    refine aCondDec rfl (fun c20 => ?_) (fun c20 => ?_)
    ·skip
     refine aSeq ?_
     refine aReg ?_
     refine sp pMa ?_
     refine oNil ?_
     refine aRet ?_
     refine finIs rfl ?_
     have hB : tabB l = false := by
       unfold tabB
       rw [hv, hs]
       cases hb : badN x <;> simp_all <;> omega
     rw [hB]
     rfl
    ·skip
     refine aSkip ?_
     refine aReg ?_
     refine sp (pFb fd_147_0) ?_
     refine sr (rB1 ty_3) ?_
     refine sp pMa ?_
     refine oNil ?_
     refine aReg ?_
     refine sp pAd ?_
     refine sp pM ?_
     refine oNil ?_
     refine ⟨(i + 1, x.f), ?_, by (try dsimp only); omega, ⟨gInt rfl (by first | rfl | omega | simp), gInt rfl (by first | rfl | omega | simp), rfl, rfl, rfl, trivial⟩, _, (by repeat constructor)⟩
     refine ⟨by omega, ?_⟩
     rw [hv, hs]
     simp_all
     all_goals (intros; omega)
  ·skip
   refine aExit rfl ?_
   refine aSeq ?_
   refine aSeq ?_
   refine aReg ?_
   refine sp pM ?_
   refine sp (by first | exact pLm sl_36 | exact pLs sl_36) ?_
   refine sp pB ?_
   refine oNil ?_
   refine aCondDec rfl (fun c26 => ?_) (fun c26 => ?_)
   ·skip
    refine aSeq ?_
    refine aReg ?_
    refine sp pMa ?_
    refine oNil ?_
    refine aRet ?_
    refine finIs rfl ?_
    have hB : tabB l = false := by unfold tabB; simp_all; try omega
    rw [hB]
    rfl
   ·skip
    refine aSkip ?_
    refine aSeq ?_
    refine aReg ?_
    refine sp pMa ?_
    refine oNil ?_
    refine aRet ?_
    refine finIs rfl ?_
    obtain rfl : i = l.length := by omega
    rw [List.drop_length] at hv
    have hB : tabB l = true := by unfold tabB; rw [hv]; simp_all [nearsB]; try omega
    rw [hB]
    rfl
end A
end Go.Proofs.YthkgdhamnpiagaaGreat
namespace Go.Proofs.YthkgdhamnpiagaaGreat
namespace A
/- api.Near,int] -/
set_option maxRecDepth 100000 in
set_option maxHeartbeats 2000000 in
theorem bs_Nr {f : FuncId} (hf : ∀ (x : Nr) (n : Int), Triple Tryz.prog f [.agg (nrC x), .int n] [] (Is (.v (.int .i64 (cmpI (kN x) n))) [])) {l : List Nr} {n : Int} (hs : l.Pairwise (fun x y => kN x < kN y)) (hl : l.length ≤ 1000000) : Triple Tryz.prog 227 [.sl 8 (l.map nrC), .int n, .fn (.func f) []] [] (Is (.tup [.int (posK kN l n : Nat), .v (.bool (hasK kN l n))]) []) := by
 refine triple_of Tryz.func227 rfl (by kernel_rfl) rfl (by simp) ?_
 refine aSeq ?_
 refine aReg ?_
 refine sp pMa ?_
 refine sp pMa ?_
 refine oNil ?_
 refine aSeq ?_
 refine aReg ?_
 refine sp pM ?_
 refine sp (by first | exact pLm sl_36 | exact pLs sl_36) ?_
 refine sp pMa ?_
 refine oNil ?_
 refine aSeq ?_
 refine aReg ?_
 refine sp pM ?_
 refine sp pMa ?_
 refine sp pMa ?_
 refine oNil ?_
 refine aSeq ?_
 refine aBlock ?_
 refine loopF (α := Nat × Nat) (kept := [(0, _), (1, _), (2, _), (8, _)]) (fun (i, j) => i ≤ j ∧ j ≤ l.length ∧ (∀ k x, k < i → l[k]? = some x → kN x < n) ∧ (∀ k x, j ≤ k → l[k]? = some x → n ≤ kN x)) (fun (i, j) => [(9, .int i), (10, .int j)]) (fun (i, j) => []) (fun (i, j) => j - i) (0, l.length) ?_ ⟨gInt rfl (by first | rfl | omega | simp), gInt rfl (by first | rfl | omega | simp), rfl, rfl, rfl, rfl, trivial⟩ (by repeat constructor) ?_
 ·skip
  exact ⟨by omega, by omega, fun k x hk _ => by omega, fun k x hk hx => by have := (List.getElem?_eq_some_iff.1 hx).1; omega⟩
 ·rintro ⟨i, j⟩ ⟨hij, hj, h1, h2⟩
  refine aSeq ?_
  refine aSeq ?_
  refine aReg ?_
  refine sp pM ?_
  refine sp pM ?_
  refine sp pB ?_
  refine oNil ?_
  refine aCondDec rfl (fun c17 => ?_) (fun c17 => ?_)
  ·skip
   refine aSkip ?_
   refine aBlock ?_
   refine aSeq ?_
   refine aReg ?_
   refine sp pM ?_
   refine sp pM ?_
   refine sp pAd ?_
   refine sp (pConv (n' := ((i + j : Nat) : Int)) rfl rfl ik_3 ik_332 (by rw [show (i : Int) + j = ((i + j : Nat) : Int) by omega]; exact wrap_u64 (by omega) (by omega))) ?_
   refine sp (pShrN (a := i + j) (r := 1) rfl rfl rfl rfl (by decide)) ?_
   refine sp (pConv (n' := (((i + j) / 2 : Nat) : Int)) rfl rfl ik_332 ik_3 (wrap_i64 (by omega) (by omega))) ?_
   refine sp pMa ?_
   refine oNil ?_
   refine aSeq ?_
   obtain ⟨m, hm⟩ : ∃ m, m = (i + j) / 2 := ⟨_, rfl⟩
   rw [← hm]
   obtain ⟨x, hx⟩ : ∃ z, l[m]? = some z := ⟨_, List.getElem?_eq_getElem (by omega)⟩
   refine aReg ?_
   refine sp pM ?_
   refine sp pM ?_
   refine sp pM ?_
   first | refine sp (pIx es_36) ?_ | (refine obtSN 25 26 rfl rfl (by omega) (fun x27 hx27 => ?_); refine sp (pIs es_36 hx27) ?_) | (refine obtS 25 26 rfl rfl (by omega) (by omega) (fun x27 hx27 => ?_); refine sp (pIs es_36 hx27) ?_) | refine sp (pIo es_36) ?_
   refine sr (by first | exact rSW ty_147 rfl | exact rSA ty_147) ?_
   refine sp pM ?_
   refine sq ?_
   refine cv rfl rfl rfl (lents_refl _) (hf x n) ?_
   refine sp pB ?_
   refine oNil ?_
   refine aCondDec rfl (fun c31 => ?_) (fun c31 => ?_)
   ·skip
    refine aReg ?_
    refine sp pM ?_
    refine sp pAd ?_
    refine sp pMa ?_
    refine oNil ?_
    first
      | (refine ⟨(m + 1, j), ?_, by (try dsimp only); omega, ⟨gInt rfl (by first | rfl | omega | simp), gInt rfl (by first | rfl | omega | simp), rfl, rfl, rfl, rfl, trivial⟩, _, (by repeat constructor)⟩
         have hc := cmpI_lt (a := kN x) (b := n)
         refine ⟨by omega, by omega, fun k y hk hy => ?_, h2⟩
         have hxn : kN x < n := by omega
         by_cases e : k = m
         ·subst e; rw [hx] at hy; cases hy; exact hxn
         ·have := sortK_at (f := kN) hs hy hx (by omega); omega)
      | (refine ⟨(i, m), ?_, by (try dsimp only); omega, ⟨gInt rfl (by first | rfl | omega | simp), gInt rfl (by first | rfl | omega | simp), rfl, rfl, rfl, rfl, trivial⟩, _, (by repeat constructor)⟩
         have hc := cmpI_lt (a := kN x) (b := n)
         refine ⟨by omega, by omega, h1, fun k y hk hy => ?_⟩
         have hxn : n ≤ kN x := by omega
         by_cases e : k = m
         ·subst e; rw [hx] at hy; cases hy; exact hxn
         ·have := sortK_at (f := kN) hs hx hy (by omega); omega)
   ·skip
    refine aReg ?_
    refine sp pM ?_
    refine sp pMa ?_
    refine oNil ?_
    first
      | (refine ⟨(m + 1, j), ?_, by (try dsimp only); omega, ⟨gInt rfl (by first | rfl | omega | simp), gInt rfl (by first | rfl | omega | simp), rfl, rfl, rfl, rfl, trivial⟩, _, (by repeat constructor)⟩
         have hc := cmpI_lt (a := kN x) (b := n)
         refine ⟨by omega, by omega, fun k y hk hy => ?_, h2⟩
         have hxn : kN x < n := by omega
         by_cases e : k = m
         ·subst e; rw [hx] at hy; cases hy; exact hxn
         ·have := sortK_at (f := kN) hs hy hx (by omega); omega)
      | (refine ⟨(i, m), ?_, by (try dsimp only); omega, ⟨gInt rfl (by first | rfl | omega | simp), gInt rfl (by first | rfl | omega | simp), rfl, rfl, rfl, rfl, trivial⟩, _, (by repeat constructor)⟩
         have hc := cmpI_lt (a := kN x) (b := n)
         refine ⟨by omega, by omega, h1, fun k y hk hy => ?_⟩
         have hxn : n ≤ kN x := by omega
         by_cases e : k = m
         ·subst e; rw [hx] at hy; cases hy; exact hxn
         ·have := sortK_at (f := kN) hs hx hy (by omega); omega)
  ·skip
   refine aExit rfl ?_
   refine aSeq ?_
   obtain rfl : i = j := by omega
   have hpos := posK_is (f := kN) (by omega) h1 h2
   have hhas := hasK_pos (f := kN) hs h1 h2
   refine aReg ?_
   refine sp pM ?_
   refine sp pM ?_
   refine sp pM ?_
   refine sp pB ?_
   refine sp pM ?_
   refine oSplitDec 39 rfl (fun c39 => ?_) (fun c39 => ?_)
   ·skip
    refine gp pM ?_
    refine gp pM ?_
    refine gp pM ?_
    first | refine gp (pIx es_36) ?_ | (refine obtSN 41 42 rfl rfl (by omega) (fun x43 hx43 => ?_); refine gp (pIs es_36 hx43) ?_) | (refine obtS 41 42 rfl rfl (by omega) (by omega) (fun x43 hx43 => ?_); refine gp (pIs es_36 hx43) ?_) | refine gp (pIo es_36) ?_
    refine gr (by first | exact rSW ty_147 rfl | exact rSA ty_147) ?_
    refine gp pM ?_
    refine ga ?_
    refine (cv rfl rfl rfl (lents_refl _) (hf x43 n) ?_).op
    refine gp pB ?_
    refine sp pK ?_
    refine sp pMa ?_
    refine sp pMa ?_
    refine oNil ?_
    refine aRet ?_
    refine finIs rfl ?_
    rw [hpos, hhas]
    first
      | (have hc := cmpI_ne (a := kN x43) (b := n)
         simp_all [retOf]
         rw [Bool.eq_iff_iff]
         simp
         omega)
      | (simp_all [retOf]; done)
   ·skip
    refine gf ?_
    refine gf ?_
    refine gf ?_
    refine gf ?_
    refine gf ?_
    refine gf ?_
    refine gf ?_
    refine gf ?_
    refine sp pK ?_
    refine sp pMa ?_
    refine sp pMa ?_
    refine oNil ?_
    refine aRet ?_
    refine finIs rfl ?_
    rw [hpos, hhas]
    first
      | (have hc := cmpI_ne (a := kN x43) (b := n)
         simp_all [retOf]
         rw [Bool.eq_iff_iff]
         simp
         omega)
      | (simp_all [retOf]; done)
/- table.find$1 -/
set_option maxRecDepth 100000 in
set_option maxHeartbeats 400000 in
theorem table_find1 {x : Nr} {n : Int} : Triple Tryz.prog 228 [.agg (nrC x), .int n] [] (Is (.v (.int .i64 (cmpI (kN x) n))) []) := by
 refine triple_of Tryz.func228 rfl (by kernel_rfl) rfl (by simp) ?_
 refine aSeq ?_
 refine aReg ?_
 refine sq ?_
 refine qBox rfl rfl (by decide) rfl rfl (fun b2 => ?_)
 refine sp pMa ?_
 refine oNil ?_
 refine aSeq ?_
 refine aReg ?_
 refine sp (pFb fd_147_0) ?_
 refine sr (rB1 ty_3) ?_
 refine sp pM ?_
 refine sq ?_
 refine cv rfl rfl rfl (lents_refl _) cmp_Compare ?_
 refine sp pMa ?_
 refine oNil ?_
 refine aRet ?_
 refine finIs rfl ?_
 rfl
/- table.find -/
set_option maxRecDepth 100000 in
set_option maxHeartbeats 400000 in
theorem table_find {l : List Nr} {n : Int} (hs : l.Pairwise (fun x y => kN x < kN y)) (hl : l.length ≤ 1000000) : Triple Tryz.prog 137 [.sl 8 (l.map nrC), .int n] [] (Is (.tup [.int (posK kN l n : Nat), .v (.bool (hasK kN l n))]) []) := by
 refine triple_of Tryz.func137 rfl (by kernel_rfl) rfl (by simp) ?_
 refine aSeq ?_
 refine aReg ?_
 refine sp pMa ?_
 refine sp pMa ?_
 refine oNil ?_
 refine aSeq ?_
 refine aReg ?_
 refine sp pM ?_
 refine sp pM ?_
 refine sq ?_
 refine ci rfl rfl rfl (bs_Nr (f := 228) (fun x n => table_find1) (l := l) (n := n) hs hl) ?_
 refine sp pX ?_
 refine sp pX ?_
 refine sp pMa ?_
 refine sp pMa ?_
 refine oNil ?_
 refine aRet ?_
 refine finIs rfl ?_
 rfl
end A
end Go.Proofs.YthkgdhamnpiagaaGreat
namespace Go.Proofs.YthkgdhamnpiagaaGreat
namespace A
theorem nears_sorted : ∀ {l : List Nr} {last : Int}, nearsB last l = true → (∀ x ∈ l, last < kN x) ∧ l.Pairwise (fun x y => kN x < kN y)
 | [], _, _ => by simp
 | x :: l, last, h => by
   simp only [nearsB, Bool.and_eq_true, decide_eq_true_eq] at h
   have ih := nears_sorted h.2
   have hx : last < kN x := h.1.2
   exact ⟨fun y hy => by rcases List.mem_cons.1 hy with rfl | hy; exact hx; have := ih.1 y hy; unfold kN at *; omega, List.pairwise_cons.2 ⟨ih.1, ih.2⟩⟩
theorem getD_at {α : Type} {l : List α} {i : Nat} {x z : α} (h : l[i]? = some x) : l.getD i z = x := by rw [List.getD_eq_getElem?_getD, h]; rfl
theorem tab_sorted {l : List Nr} (h : tabB l = true) : l.Pairwise (fun x y => kN x < kN y) := by
 unfold tabB at h
 simp only [Bool.and_eq_true] at h
 exact (nears_sorted h.1).2
theorem tab_len {l : List Nr} (h : tabB l = true) : l.length ≤ 16 := by
 unfold tabB at h
 simp only [Bool.and_eq_true, decide_eq_true_eq] at h
 exact h.2
/-- A table's neighbour. -/
def getT (l : List Nr) (n : Int) : Nr × Bool := if tabB l = true ∧ hasK kN l n = true then (l.getD (posK kN l n) nr0, true) else (nr0, false)
def thoseT {α : Type} (p : Nr → Bool) (q : Nr → α) (l : List Nr) : List α := if tabB l = true then (l.filter p).map q else []
def fullT (l : List Nr) : List Int := thoseT (fun n => n.u) (fun n => n.f) l
def linksT (l : List Nr) : List Link := thoseT (fun n => n.u) (fun n => ⟨n.f, n.c⟩) l
/- table.Find -/
set_option maxRecDepth 100000 in
set_option maxHeartbeats 2000000 in
theorem table_Find {l : List Nr} {n : Int} (hl : l.length ≤ 1000000) : Triple Tryz.prog 58 [.sl 8 (l.map nrC), .int n] [] (Is (.tup [.agg (nrC (getT l n).1), .v (.bool (getT l n).2)]) []) := by
 refine triple_ofR Tryz.func58 rfl (by kernel_rfl) rfl (by simp) ?_
 refine aSeq ?_
 refine aReg ?_
 refine sq ?_
 refine qAlloc rfl rfl (by decide) ze_147 rfl (fun b4 => ?_)
 refine sp pMa ?_
 refine oNil ?_
 refine aSeq ?_
 refine aSeq ?_
 refine aReg ?_
 refine sp pM ?_
 refine sq ?_
 refine ci rfl rfl rfl (table_Check (l := l) (by omega)) ?_
 refine sp pB ?_
 refine oNil ?_
 refine aCondNe rfl (fun c10 => ?_) (fun c10 => ?_)
 ·skip
  refine aSeq ?_
  refine aReg ?_
  refine sp (pBuild rfl st_147 ze_147 rfl rfl rfl rfl) ?_
  refine sa ?_
  refine oStW rfl rfl rfl rfl (by repeat constructor) ty_147 ?_
  refine sp pMa ?_
  refine oNil ?_
  have hG : getT l n = (nr0, false) := by unfold getT; rw [if_neg (by simp_all)]
  rw [hG]
  refine aRet ?_
  refine finRIs (l := [.agg (nrC nr0), .v (.bool false)]) (.cons (.cellA (cs := nrC nr0) rfl (by repeat (first | exact List.mem_cons_self | apply List.mem_cons_of_mem)) ty_147) (.cons (.tmp rfl) .nil)) rfl
 ·skip
  refine aSkip ?_
  refine aSeq ?_
  have hv : tabB l = true := by cases hv : tabB l <;> simp_all
  refine aReg ?_
  refine sp pM ?_
  refine sp pM ?_
  refine sq ?_
  refine ci rfl rfl rfl (table_find (l := l) (n := n) (tab_sorted hv) (by omega)) ?_
  refine sp pM ?_
  refine sp pX ?_
  refine sp pX ?_
  refine sp pMa ?_
  refine sp pMa ?_
  refine oNil ?_
  refine aSeq ?_
  refine aSeq ?_
  refine aReg ?_
  refine sp pM ?_
  refine sp pNo ?_
  refine oNil ?_
  refine aCondNot rfl (fun c19 => ?_) (fun c19 => ?_)
  ·skip
   refine aSeq ?_
   refine aReg ?_
   refine sp (pBuild rfl st_147 ze_147 rfl rfl rfl rfl) ?_
   refine sa ?_
   refine oStW rfl rfl rfl rfl (by repeat constructor) ty_147 ?_
   refine sp pMa ?_
   refine oNil ?_
   have hG : getT l n = (nr0, false) := by unfold getT; rw [if_neg (by simp_all)]
   rw [hG]
   refine aRet ?_
   refine finRIs (l := [.agg (nrC nr0), .v (.bool false)]) (.cons (.cellA (cs := nrC nr0) rfl (by repeat (first | exact List.mem_cons_self | apply List.mem_cons_of_mem)) ty_147) (.cons (.tmp rfl) .nil)) rfl
  ·skip
   refine aSkip ?_
   refine aSeq ?_
   obtain ⟨x, hx, hxn⟩ := hasK_at (f := kN) (tab_sorted hv) (n := n) (by simp_all)
   refine aReg ?_
   refine sp pM ?_
   refine sp pM ?_
   first | refine sp (pIx es_36) ?_ | (refine obtSN 21 22 rfl rfl (by omega) (fun x23 hx23 => ?_); refine sp (pIs es_36 hx23) ?_) | (refine obtS 21 22 rfl rfl (by omega) (by omega) (fun x23 hx23 => ?_); refine sp (pIs es_36 hx23) ?_) | refine sp (pIo es_36) ?_
   refine sr (by first | exact rSW ty_147 rfl | exact rSA ty_147) ?_
   refine sa ?_
   refine oStW rfl rfl rfl rfl (by repeat constructor) ty_147 ?_
   refine sp pMa ?_
   refine oNil ?_
   have hG : getT l n = (x, true) := by unfold getT; rw [if_pos (by simp_all), getD_at hx]
   rw [hG]
   refine aRet ?_
   refine finRIs (l := [.agg (nrC x), .v (.bool true)]) (.cons (.cellA (cs := nrC x) rfl (by repeat (first | exact List.mem_cons_self | apply List.mem_cons_of_mem)) ty_147) (.cons (.tmp rfl) .nil)) rfl
end A
end Go.Proofs.YthkgdhamnpiagaaGreat
namespace Go.Proofs.YthkgdhamnpiagaaGreat
namespace A
theorem filt_step {α : Type} {p : α → Bool} {l : List α} {i : Nat} {x : α} (h : l[i]? = some x) : (l.take (i + 1)).filter p = (l.take i).filter p ++ (if p x then [x] else []) := by
 rw [take_step h, List.filter_append]
 cases hp : p x <;> simp [hp]
/- api.Link] -/
set_option maxRecDepth 100000 in
set_option maxHeartbeats 1000000 in
theorem those_Link {f1 f2 : FuncId} {p : Nr → Bool} {q : Nr → Link} (hp : ∀ x : Nr, Triple Tryz.prog f1 [.agg (nrC x)] [] (Is (.v (.bool (p x))) [])) (hq : ∀ x : Nr, Triple Tryz.prog f2 [.agg (nrC x)] [] (Is (.agg (linkC (q x))) [])) {l : List Nr} (hl : l.length ≤ 1000000) : Triple Tryz.prog 284 [.sl 8 (l.map nrC), .fn (.func f1) [], .fn (.func f2) []] [] (Own 134 2 ((thoseT p q l).map linkC) []) := by
 refine triple_of Tryz.func284 rfl (by kernel_rfl) rfl (by simp) ?_
 refine aSeq ?_
 refine aReg ?_
 refine sp pMa ?_
 refine oNil ?_
 refine aSeq ?_
 refine aReg ?_
 refine sp pMa ?_
 refine oNil ?_
 refine aSeq ?_
 refine aSeq ?_
 refine aReg ?_
 refine sp pM ?_
 refine sq ?_
 refine ci rfl rfl rfl (table_Check (l := l) (by omega)) ?_
 refine sp pB ?_
 refine oNil ?_
 refine aCondNe rfl (fun c12 => ?_) (fun c12 => ?_)
 ·skip
  refine aSeq ?_
  refine aReg ?_
  refine sp pMa ?_
  refine oNil ?_
  have hT : thoseT p q l = [] := by unfold thoseT; rw [if_neg (by simp_all)]
  refine aWeak (weak_nil 134 2) ?_
  refine aRet ?_
  rw [hT]
  exact ⟨_, _, _, rfl, .cons .hd .nil, none, 0, rfl, rfl⟩
 ·skip
  refine aSkip ?_
  refine aSeq ?_
  refine aSeq ?_
  have hv : tabB l = true := by cases hv : tabB l <;> simp_all
  refine aWeak (weak_nil 134 2) ?_
  refine aReg ?_
  refine sp pM ?_
  refine sp (by first | exact pLm sl_36 | exact pLs sl_36) ?_
  refine sp pM ?_
  refine oNil ?_
  refine aBlock ?_
  refine loopF (α := Nat × List Link × Option Nat × Nat) (kept := [(1, _), (2, _), (13, _), (14, _)]) (fun (i, out, g, c) => i ≤ l.length ∧ out = ((l.take i).filter p).map q) (fun (i, out, g, c) => [(15, .int i), (7, .v (slV g out.length c))]) (fun (i, out, g, c) => [.sl g c 134 2 (out.map linkC)]) (fun (i, out, g, c) => l.length - i) (0, [], _, _) ?_ ⟨gInt rfl (by first | rfl | omega | simp), gLen rfl (by first | rfl | simp | (simp; omega)), rfl, rfl, rfl, rfl, trivial⟩ (by repeat constructor) ?_
  ·skip
   exact ⟨by omega, rfl⟩
  ·rintro ⟨i, out, g, c⟩ ⟨hi, ho⟩
   refine aSeq ?_
   refine aReg ?_
   refine sp pB ?_
   refine oNil ?_
   refine aSeq ?_
   refine aCondDec rfl (fun c16 => ?_) (fun c16 => ?_)
   ·skip
    refine aSkip ?_
    refine aSeq ?_
    refine aBlock ?_
    refine aSeq ?_
    obtain ⟨x, hx⟩ : ∃ z, l[i]? = some z := ⟨_, List.getElem?_eq_getElem (by omega)⟩
    refine aReg ?_
    first | refine sp (pIx es_36) ?_ | (refine obtSN 13 15 rfl rfl (by omega) (fun x17 hx17 => ?_); refine sp (pIs es_36 hx17) ?_) | (refine obtS 13 15 rfl rfl (by omega) (by omega) (fun x17 hx17 => ?_); refine sp (pIs es_36 hx17) ?_) | refine sp (pIo es_36) ?_
    refine sr (by first | exact rSW ty_147 rfl | exact rSA ty_147) ?_
    refine sq ?_
    refine qAlloc rfl rfl (by decide) ze_147 rfl (fun b9 => ?_)
    refine sa ?_
    refine oStW rfl rfl rfl rfl (by repeat constructor) ty_147 ?_
    refine oNil ?_
    refine aSeq ?_
    refine aReg ?_
    refine sp pM ?_
    refine sr (by first | exact rBWa ty_147 | exact rBW ty_147 | exact rBA ty_147) ?_
    refine sq ?_
    refine cv rfl rfl rfl (lents_refl _) (hp x) ?_
    refine oNil ?_
    refine aCond rfl (fun c21 => ?_) (fun c21 => ?_)
    ·skip
     have hol : out.length ≤ l.length := by
       rw [ho, List.length_map]
       exact Nat.le_trans (List.length_filter_le _ _) (by rw [List.length_take]; omega)
     refine aReg ?_
     refine sp pM ?_
     refine sp pM ?_
     refine sr (by first | exact rBWa ty_147 | exact rBW ty_147 | exact rBA ty_147) ?_
     refine sq ?_
     refine ci rfl rfl rfl (hq x) ?_
     refine sq ?_
     refine qLit (l := [_]) rfl rfl (by decide) us_53 ty_134 ze_134 rfl (by decide) (by decide) rfl rfl rfl (fun b26 => ?_)
     refine sa ?_
     refine oAppT ([q x] : List Link) rfl rfl (by repeat constructor) (srcOwn rfl (by repeat constructor) rfl) el_53 sl_53 (fun g27 k27 => ?_)
     refine sp pMa ?_
     refine oNil ?_
     refine aReg ?_
     refine sp pAd ?_
     refine sp pM ?_
     refine oNil ?_
     refine ⟨(i + 1, _, _, _), ?_, by (try dsimp only); omega, ⟨gInt rfl (by first | rfl | omega | simp), gLen rfl (by first | rfl | simp | (simp; omega)), rfl, rfl, rfl, rfl, trivial⟩, _, (by repeat constructor)⟩
     refine ⟨by omega, ?_⟩
     rw [filt_step hx, List.map_append, ← ho]
     cases hpx : p x <;> first
       | (simp; done)
       | (exfalso; simp_all; done)
    ·skip
     refine aSkip ?_
     refine aReg ?_
     refine sp pAd ?_
     refine sp pM ?_
     refine oNil ?_
     refine ⟨(i + 1, _, _, _), ?_, by (try dsimp only); omega, ⟨gInt rfl (by first | rfl | omega | simp), gLen rfl (by first | rfl | simp | (simp; omega)), rfl, rfl, rfl, rfl, trivial⟩, _, (by repeat constructor)⟩
     refine ⟨by omega, ?_⟩
     rw [filt_step hx, List.map_append, ← ho]
     cases hpx : p x <;> first
       | (simp; done)
       | (exfalso; simp_all; done)
   ·skip
    refine aExit rfl ?_
    refine aSeq ?_
    refine aReg ?_
    refine sp pM ?_
    refine sp pMa ?_
    refine oNil ?_
    refine aRet ?_
    refine finOwn rfl ?_
    have hT : thoseT p q l = out := by unfold thoseT; rw [if_pos hv, ho, take_all (by omega)]
    rw [hT]
/- table.those[int] -/
set_option maxRecDepth 100000 in
set_option maxHeartbeats 1000000 in
theorem those_int {f1 f2 : FuncId} {p : Nr → Bool} {q : Nr → Int} (hp : ∀ x : Nr, Triple Tryz.prog f1 [.agg (nrC x)] [] (Is (.v (.bool (p x))) [])) (hq : ∀ x : Nr, Triple Tryz.prog f2 [.agg (nrC x)] [] (Is (.int (q x)) [])) {l : List Nr} (hl : l.length ≤ 1000000) : Triple Tryz.prog 290 [.sl 8 (l.map nrC), .fn (.func f1) [], .fn (.func f2) []] [] (Own 3 1 ((thoseT p q l).map intA) []) := by
 refine triple_of Tryz.func290 rfl (by kernel_rfl) rfl (by simp) ?_
 refine aSeq ?_
 refine aReg ?_
 refine sp pMa ?_
 refine oNil ?_
 refine aSeq ?_
 refine aReg ?_
 refine sp pMa ?_
 refine oNil ?_
 refine aSeq ?_
 refine aSeq ?_
 refine aReg ?_
 refine sp pM ?_
 refine sq ?_
 refine ci rfl rfl rfl (table_Check (l := l) (by omega)) ?_
 refine sp pB ?_
 refine oNil ?_
 refine aCondNe rfl (fun c12 => ?_) (fun c12 => ?_)
 ·skip
  refine aSeq ?_
  refine aReg ?_
  refine sp pMa ?_
  refine oNil ?_
  have hT : thoseT p q l = [] := by unfold thoseT; rw [if_neg (by simp_all)]
  refine aWeak (weak_nil 3 1) ?_
  refine aRet ?_
  rw [hT]
  exact ⟨_, _, _, rfl, .cons .hd .nil, none, 0, rfl, rfl⟩
 ·skip
  refine aSkip ?_
  refine aSeq ?_
  refine aSeq ?_
  have hv : tabB l = true := by cases hv : tabB l <;> simp_all
  refine aWeak (weak_nil 3 1) ?_
  refine aReg ?_
  refine sp pM ?_
  refine sp (by first | exact pLm sl_36 | exact pLs sl_36) ?_
  refine sp pM ?_
  refine oNil ?_
  refine aBlock ?_
  refine loopF (α := Nat × List Int × Option Nat × Nat) (kept := [(1, _), (2, _), (13, _), (14, _)]) (fun (i, out, g, c) => i ≤ l.length ∧ out = ((l.take i).filter p).map q) (fun (i, out, g, c) => [(15, .int i), (7, .v (slV g out.length c))]) (fun (i, out, g, c) => [.sl g c 3 1 (out.map intA)]) (fun (i, out, g, c) => l.length - i) (0, [], _, _) ?_ ⟨gInt rfl (by first | rfl | omega | simp), gLen rfl (by first | rfl | simp | (simp; omega)), rfl, rfl, rfl, rfl, trivial⟩ (by repeat constructor) ?_
  ·skip
   exact ⟨by omega, rfl⟩
  ·rintro ⟨i, out, g, c⟩ ⟨hi, ho⟩
   refine aSeq ?_
   refine aReg ?_
   refine sp pB ?_
   refine oNil ?_
   refine aSeq ?_
   refine aCondDec rfl (fun c16 => ?_) (fun c16 => ?_)
   ·skip
    refine aSkip ?_
    refine aSeq ?_
    refine aBlock ?_
    refine aSeq ?_
    obtain ⟨x, hx⟩ : ∃ z, l[i]? = some z := ⟨_, List.getElem?_eq_getElem (by omega)⟩
    refine aReg ?_
    first | refine sp (pIx es_36) ?_ | (refine obtSN 13 15 rfl rfl (by omega) (fun x17 hx17 => ?_); refine sp (pIs es_36 hx17) ?_) | (refine obtS 13 15 rfl rfl (by omega) (by omega) (fun x17 hx17 => ?_); refine sp (pIs es_36 hx17) ?_) | refine sp (pIo es_36) ?_
    refine sr (by first | exact rSW ty_147 rfl | exact rSA ty_147) ?_
    refine sq ?_
    refine qAlloc rfl rfl (by decide) ze_147 rfl (fun b9 => ?_)
    refine sa ?_
    refine oStW rfl rfl rfl rfl (by repeat constructor) ty_147 ?_
    refine oNil ?_
    refine aSeq ?_
    refine aReg ?_
    refine sp pM ?_
    refine sr (by first | exact rBWa ty_147 | exact rBW ty_147 | exact rBA ty_147) ?_
    refine sq ?_
    refine cv rfl rfl rfl (lents_refl _) (hp x) ?_
    refine oNil ?_
    refine aCond rfl (fun c21 => ?_) (fun c21 => ?_)
    ·skip
     have hol : out.length ≤ l.length := by
       rw [ho, List.length_map]
       exact Nat.le_trans (List.length_filter_le _ _) (by rw [List.length_take]; omega)
     refine aReg ?_
     refine sp pM ?_
     refine sp pM ?_
     refine sr (by first | exact rBWa ty_147 | exact rBW ty_147 | exact rBA ty_147) ?_
     refine sq ?_
     refine ci rfl rfl rfl (hq x) ?_
     refine sq ?_
     refine qLit (l := [_]) rfl rfl (by decide) us_138 ty_3 ze_3 rfl (by decide) (by decide) rfl rfl rfl (fun b26 => ?_)
     refine sa ?_
     refine oAppT ([q x] : List Int) rfl rfl (by repeat constructor) (srcOwn rfl (by repeat constructor) rfl) el_138 sl_138 (fun g27 k27 => ?_)
     refine sp pMa ?_
     refine oNil ?_
     refine aReg ?_
     refine sp pAd ?_
     refine sp pM ?_
     refine oNil ?_
     refine ⟨(i + 1, _, _, _), ?_, by (try dsimp only); omega, ⟨gInt rfl (by first | rfl | omega | simp), gLen rfl (by first | rfl | simp | (simp; omega)), rfl, rfl, rfl, rfl, trivial⟩, _, (by repeat constructor)⟩
     refine ⟨by omega, ?_⟩
     rw [filt_step hx, List.map_append, ← ho]
     cases hpx : p x <;> first
       | (simp; done)
       | (exfalso; simp_all; done)
    ·skip
     refine aSkip ?_
     refine aReg ?_
     refine sp pAd ?_
     refine sp pM ?_
     refine oNil ?_
     refine ⟨(i + 1, _, _, _), ?_, by (try dsimp only); omega, ⟨gInt rfl (by first | rfl | omega | simp), gLen rfl (by first | rfl | simp | (simp; omega)), rfl, rfl, rfl, rfl, trivial⟩, _, (by repeat constructor)⟩
     refine ⟨by omega, ?_⟩
     rw [filt_step hx, List.map_append, ← ho]
     cases hpx : p x <;> first
       | (simp; done)
       | (exfalso; simp_all; done)
   ·skip
    refine aExit rfl ?_
    refine aSeq ?_
    refine aReg ?_
    refine sp pM ?_
    refine sp pMa ?_
    refine oNil ?_
    refine aRet ?_
    refine finOwn rfl ?_
    have hT : thoseT p q l = out := by unfold thoseT; rw [if_pos hv, ho, take_all (by omega)]
    rw [hT]
/- table.full -/
set_option maxRecDepth 100000 in
set_option maxHeartbeats 400000 in
theorem table_full {n : Nr} : Triple Tryz.prog 285 [.agg (nrC n)] [] (Is (.v (.bool n.u)) []) := by
 refine triple_of Tryz.func285 rfl (by kernel_rfl) rfl (by simp) ?_
 refine aSeq ?_
 refine aReg ?_
 refine sq ?_
 refine qBox rfl rfl (by decide) rfl rfl (fun b1 => ?_)
 refine sp pMa ?_
 refine oNil ?_
 refine aSeq ?_
 refine aReg ?_
 refine sp (pFb fd_147_5) ?_
 refine sr (rB1 ty_4) ?_
 refine sp pMa ?_
 refine oNil ?_
 refine aRet ?_
 refine finIs rfl ?_
 rfl
/- table.Full$1 -/
set_option maxRecDepth 100000 in
set_option maxHeartbeats 400000 in
theorem table_Full1 {n : Nr} : Triple Tryz.prog 291 [.agg (nrC n)] [] (Is (.int n.f) []) := by
 refine triple_of Tryz.func291 rfl (by kernel_rfl) rfl (by simp) ?_
 refine aSeq ?_
 refine aReg ?_
 refine sq ?_
 refine qBox rfl rfl (by decide) rfl rfl (fun b1 => ?_)
 refine sp pMa ?_
 refine oNil ?_
 refine aSeq ?_
 refine aReg ?_
 refine sp (pFb fd_147_0) ?_
 refine sr (rB1 ty_3) ?_
 refine sp pMa ?_
 refine oNil ?_
 refine aRet ?_
 refine finIs rfl ?_
 rfl
/- table.Links$1 -/
set_option maxRecDepth 100000 in
set_option maxHeartbeats 400000 in
theorem table_Links1 {n : Nr} : Triple Tryz.prog 286 [.agg (nrC n)] [] (Is (.agg (linkC ⟨n.f, n.c⟩)) []) := by
 refine triple_ofR Tryz.func286 rfl (by kernel_rfl) rfl (by simp) ?_
 refine aSeq ?_
 refine aReg ?_
 refine sq ?_
 refine qBox rfl rfl (by decide) rfl rfl (fun b1 => ?_)
 refine sq ?_
 refine qAlloc rfl rfl (by decide) ze_134 rfl (fun b2 => ?_)
 refine oNil ?_
 refine aSeq ?_
 refine aReg ?_
 refine sp (pFb fd_147_0) ?_
 refine sr (rB1 ty_3) ?_
 refine sp (pFb fd_147_1) ?_
 refine sr (rB1 ty_3) ?_
 refine sp (pBuild rfl st_134 ze_134 rfl rfl rfl rfl) ?_
 refine sa ?_
 refine oStW rfl rfl rfl rfl (by repeat constructor) ty_134 ?_
 refine oNil ?_
 refine aRet ?_
 refine finRIs (l := [.agg (linkC ⟨n.f, n.c⟩)]) (.cons (.cellA (cs := linkC ⟨n.f, n.c⟩) rfl (by repeat (first | exact List.mem_cons_self | apply List.mem_cons_of_mem)) ty_134) .nil) rfl
/- table.Links -/
set_option maxRecDepth 100000 in
set_option maxHeartbeats 400000 in
theorem table_LinksO {l : List Nr} (hl : l.length ≤ 1000000) : Triple Tryz.prog 215 [.sl 8 (l.map nrC)] [] (Own 134 2 ((linksT l).map linkC) []) := by
 refine triple_of Tryz.func215 rfl (by kernel_rfl) rfl (by simp) ?_
 refine aSeq ?_
 refine aReg ?_
 refine sp pMa ?_
 refine oNil ?_
 refine aSeq ?_
 refine aReg ?_
 refine sp pM ?_
 refine sa ?_
 first | refine coM rfl rfl rfl (those_Link (f1 := 285) (f2 := 286) (p := fun n => n.u) (q := fun n => ⟨n.f, n.c⟩) (fun x => table_full) (fun x => table_Links1) (l := l) hl) (fun g4 k4 => ?_) | refine co rfl rfl rfl (those_Link (f1 := 285) (f2 := 286) (p := fun n => n.u) (q := fun n => ⟨n.f, n.c⟩) (fun x => table_full) (fun x => table_Links1) (l := l) hl) (fun g4 k4 => ?_)
 refine sp pMa ?_
 refine oNil ?_
 refine aRet ?_
 refine finOwn rfl ?_
 rfl
/- table.Full -/
set_option maxRecDepth 100000 in
set_option maxHeartbeats 400000 in
theorem table_FullO {l : List Nr} (hl : l.length ≤ 1000000) : Triple Tryz.prog 221 [.sl 8 (l.map nrC)] [] (Own 3 1 ((fullT l).map intA) []) := by
 refine triple_of Tryz.func221 rfl (by kernel_rfl) rfl (by simp) ?_
 refine aSeq ?_
 refine aReg ?_
 refine sp pMa ?_
 refine oNil ?_
 refine aSeq ?_
 refine aReg ?_
 refine sp pM ?_
 refine sa ?_
 first | refine coM rfl rfl rfl (those_int (f1 := 285) (f2 := 291) (p := fun n => n.u) (q := fun n => n.f) (fun x => table_full) (fun x => table_Full1) (l := l) hl) (fun g4 k4 => ?_) | refine co rfl rfl rfl (those_int (f1 := 285) (f2 := 291) (p := fun n => n.u) (q := fun n => n.f) (fun x => table_full) (fun x => table_Full1) (l := l) hl) (fun g4 k4 => ?_)
 refine sp pMa ?_
 refine oNil ?_
 refine aRet ?_
 refine finOwn rfl ?_
 rfl
theorem table_Links {l : List Nr} (hl : l.length ≤ 1000000) : Triple Tryz.prog 215 [.sl 8 (l.map nrC)] [] (Is (.sl 2 ((linksT l).map linkC)) []) := (table_LinksO (l := l) hl).settle
theorem table_Full {l : List Nr} (hl : l.length ≤ 1000000) : Triple Tryz.prog 221 [.sl 8 (l.map nrC)] [] (Is (.sl 1 ((fullT l).map intA)) []) := (table_FullO (l := l) hl).settle
end A
end Go.Proofs.YthkgdhamnpiagaaGreat
namespace Go.Proofs.YthkgdhamnpiagaaGreat
namespace A
/-- The base's Lsa of an origin. -/
def getDb (l : List Lsa) (n : Int) : Lsa × Bool := if lsdbB 0 l = true ∧ hasK kL l n = true then (l.getD (posK kL l n) lsa0, true) else (lsa0, false)
def lsdbPut (l : List Lsa) (x : Lsa) : List Lsa × Int := if lsdbB 0 l = false ∨ lsaB x = false then ([], 1) else match putDb l x with | none => ([], 10) | some d => (d, 0)
/- lsdb.Check -/
set_option maxRecDepth 100000 in
set_option maxHeartbeats 2000000 in
theorem lsdb_Check {l : List Lsa} (hl : l.length ≤ 1000000) : Triple Tryz.prog 148 [.sl 3 (l.map lsaC)] [] (Is (.int (if lsdbB 0 l then 0 else 1)) []) := by
 refine triple_of Tryz.func148 rfl (by kernel_rfl) rfl (by simp) ?_
 refine aSeq ?_
 refine aReg ?_
 refine sp pMa ?_
 refine oNil ?_
 refine aSeq ?_
 refine aReg ?_
 refine sp pMa ?_
 refine oNil ?_
 refine aSeq ?_
 refine aSeq ?_
 refine aReg ?_
 refine sp pM ?_
 refine sp (by first | exact pLm sl_32 | exact pLs sl_32) ?_
 refine sp pM ?_
 refine oNil ?_
 refine aBlock ?_
 refine loopF (α := Nat × Int) (kept := [(6, _), (7, _)]) (fun (i, last) => i ≤ l.length ∧ lsdbB 0 l = lsdbB last (l.drop i)) (fun (i, last) => [(8, .int i), (3, .int last)]) (fun (i, last) => []) (fun (i, last) => l.length - i) (0, 0) ?_ ⟨gInt rfl (by first | rfl | omega | simp), gInt rfl (by first | rfl | omega | simp), rfl, rfl, trivial⟩ (by repeat constructor) ?_
 ·skip
  exact ⟨by omega, rfl⟩
 ·rintro ⟨i, last⟩ ⟨hi, hv⟩
  refine aSeq ?_
  refine aReg ?_
  refine sp pB ?_
  refine oNil ?_
  refine aSeq ?_
  refine aCondDec rfl (fun c9 => ?_) (fun c9 => ?_)
  ·skip
   refine aSkip ?_
   refine aSeq ?_
   refine aBlock ?_
   refine aSeq ?_
   obtain ⟨x, hx⟩ : ∃ z, l[i]? = some z := ⟨_, List.getElem?_eq_getElem (by omega)⟩
   have hs := lsdb_step (last := last) hx
   refine aReg ?_
   first | refine sp (pIx es_32) ?_ | (refine obtSN 6 8 rfl rfl (by omega) (fun x10 hx10 => ?_); refine sp (pIs es_32 hx10) ?_) | (refine obtS 6 8 rfl rfl (by omega) (by omega) (fun x10 hx10 => ?_); refine sp (pIs es_32 hx10) ?_) | refine sp (pIo es_32) ?_
   refine sr (by first | exact rSW ty_55 rfl | exact rSA ty_55) ?_
   refine sq ?_
   refine qAlloc rfl rfl (by decide) ze_55 rfl (fun b5 => ?_)
   refine sa ?_
   refine oStW rfl rfl rfl rfl (by repeat constructor) ty_55 ?_
   refine oNil ?_
   refine aSeq ?_
   refine aSeq ?_
   refine aReg ?_
   refine sr (by first | exact rBWa ty_55 | exact rBW ty_55 | exact rBA ty_55) ?_
   refine sq ?_
   refine ci rfl rfl rfl (lsa_Check (l := x)) ?_
   refine sp pB ?_
   refine sp pM ?_
   refine oSplitNe 15 rfl (fun c15 => ?_) (fun c15 => ?_)
   ·skip
    refine gf ?_
    refine gf ?_
    refine gf ?_
    refine gf ?_
    refine sp pK ?_
    refine oNil ?_
    refine aCondT rfl ?_
    refine aSeq ?_
    refine aReg ?_
    refine sp pMa ?_
    refine oNil ?_
    refine aRet ?_
    refine finIs rfl ?_
    have hB : lsdbB 0 l = false := by
      rw [hv, hs]
      cases hb : lsaB x <;> simp_all <;> omega
    rw [hB]
    rfl
   ·skip
    refine gp (pFb fd_55_0) ?_
    refine gr (rB1 ty_3) ?_
    refine gp pM ?_
    refine gp pB ?_
    refine sp pK ?_
    refine oNil ?_
    refine aCondDec rfl (fun c20 => ?_) (fun c20 => ?_)
    ·skip
     refine aSeq ?_
     refine aReg ?_
     refine sp pMa ?_
     refine oNil ?_
     refine aRet ?_
     refine finIs rfl ?_
     have hB : lsdbB 0 l = false := by
       rw [hv, hs]
       cases hb : lsaB x <;> simp_all <;> omega
     rw [hB]
     rfl
    ·skip
     refine aSkip ?_
     refine aReg ?_
     refine sp (pFb fd_55_0) ?_
     refine sr (rB1 ty_3) ?_
     refine sp pMa ?_
     refine oNil ?_
     refine aReg ?_
     refine sp pAd ?_
     refine sp pM ?_
     refine oNil ?_
     refine ⟨(i + 1, x.o), ?_, by (try dsimp only); omega, ⟨gInt rfl (by first | rfl | omega | simp), gInt rfl (by first | rfl | omega | simp), rfl, rfl, trivial⟩, _, (by repeat constructor)⟩
     refine ⟨by omega, ?_⟩
     rw [hv, hs]
     simp_all
     all_goals (intros; omega)
  ·skip
   refine aExit rfl ?_
   refine aSeq ?_
   refine aReg ?_
   refine sp pMa ?_
   refine oNil ?_
   refine aRet ?_
   refine finIs rfl ?_
   obtain rfl : i = l.length := by omega
   rw [List.drop_length] at hv
   have hB : lsdbB 0 l = true := by rw [hv]; rfl
   rw [hB]
   rfl
/- lsdb.find$1 -/
set_option maxRecDepth 100000 in
set_option maxHeartbeats 400000 in
theorem lsdb_find1 {x : Lsa} {n : Int} : Triple Tryz.prog 293 [.agg (lsaC x), .int n] [] (Is (.v (.int .i64 (cmpI (kL x) n))) []) := by
 refine triple_of Tryz.func293 rfl (by kernel_rfl) rfl (by simp) ?_
 refine aSeq ?_
 refine aReg ?_
 refine sq ?_
 refine qBox rfl rfl (by decide) rfl rfl (fun b2 => ?_)
 refine sp pMa ?_
 refine oNil ?_
 refine aSeq ?_
 refine aReg ?_
 refine sp (pFb fd_55_0) ?_
 refine sr (rB1 ty_3) ?_
 refine sp pM ?_
 refine sq ?_
 refine cv rfl rfl rfl (lents_refl _) cmp_Compare ?_
 refine sp pMa ?_
 refine oNil ?_
 refine aRet ?_
 refine finIs rfl ?_
 rfl
/- lsdb.find -/
set_option maxRecDepth 100000 in
set_option maxHeartbeats 400000 in
theorem lsdb_find {l : List Lsa} {n : Int} (hs : l.Pairwise (fun x y => kL x < kL y)) (hl : l.length ≤ 1000000) : Triple Tryz.prog 226 [.sl 3 (l.map lsaC), .int n] [] (Is (.tup [.int (posK kL l n : Nat), .v (.bool (hasK kL l n))]) []) := by
 refine triple_of Tryz.func226 rfl (by kernel_rfl) rfl (by simp) ?_
 refine aSeq ?_
 refine aReg ?_
 refine sp pMa ?_
 refine sp pMa ?_
 refine oNil ?_
 refine aSeq ?_
 refine aReg ?_
 refine sp pM ?_
 refine sp pM ?_
 refine sq ?_
 refine ci rfl rfl rfl (bs_Lsa (f := 293) (fun x n => lsdb_find1) (l := l) (n := n) hs hl) ?_
 refine sp pX ?_
 refine sp pX ?_
 refine sp pMa ?_
 refine sp pMa ?_
 refine oNil ?_
 refine aRet ?_
 refine finIs rfl ?_
 rfl
/- lsdb.Get -/
set_option maxRecDepth 100000 in
set_option maxHeartbeats 2000000 in
theorem lsdb_Get {l : List Lsa} {n : Int} (hl : l.length ≤ 1000000) : Triple Tryz.prog 132 [.sl 3 (l.map lsaC), .int n] [] (Is (.tup [.agg (lsaC (getDb l n).1), .v (.bool (getDb l n).2)]) []) := by
 refine triple_ofR Tryz.func132 rfl (by kernel_rfl) rfl (by simp) ?_
 refine aSeq ?_
 refine aReg ?_
 refine sq ?_
 refine qAlloc rfl rfl (by decide) ze_55 rfl (fun b4 => ?_)
 refine sp pMa ?_
 refine oNil ?_
 refine aSeq ?_
 refine aSeq ?_
 refine aReg ?_
 refine sp pM ?_
 refine sq ?_
 refine ci rfl rfl rfl (lsdb_Check (l := l) (by omega)) ?_
 refine sp pB ?_
 refine oNil ?_
 refine aCondNe rfl (fun c10 => ?_) (fun c10 => ?_)
 ·skip
  refine aSeq ?_
  refine aReg ?_
  refine sp (pBuild rfl st_55 ze_55 rfl rfl rfl rfl) ?_
  refine sa ?_
  refine oStW rfl rfl rfl rfl (by repeat constructor) ty_55 ?_
  refine sp pMa ?_
  refine oNil ?_
  have hG : getDb l n = (lsa0, false) := by unfold getDb; rw [if_neg (by simp_all)]
  rw [hG]
  refine aRet ?_
  refine finRIs (l := [.agg (lsaC lsa0), .v (.bool false)]) (.cons ((.cast (a := .agg [.int 0, .int 0, .v (.slice none 0 0)]) (.cellA rfl (by repeat (first | exact List.mem_cons_self | apply List.mem_cons_of_mem)) ty_55) cast_lsa0)) (.cons (.tmp rfl) .nil)) rfl
 ·skip
  refine aSkip ?_
  refine aSeq ?_
  have hv : lsdbB 0 l = true := by cases hv : lsdbB 0 l <;> simp_all
  refine aReg ?_
  refine sp pM ?_
  refine sp pM ?_
  refine sq ?_
  refine ci rfl rfl rfl (lsdb_find (l := l) (n := n) (lsdb_sorted hv).2 (by omega)) ?_
  refine sp pM ?_
  refine sp pX ?_
  refine sp pX ?_
  refine sp pMa ?_
  refine sp pMa ?_
  refine oNil ?_
  refine aSeq ?_
  refine aSeq ?_
  refine aReg ?_
  refine sp pM ?_
  refine sp pNo ?_
  refine oNil ?_
  refine aCondNot rfl (fun c19 => ?_) (fun c19 => ?_)
  ·skip
   refine aSeq ?_
   refine aReg ?_
   refine sp (pBuild rfl st_55 ze_55 rfl rfl rfl rfl) ?_
   refine sa ?_
   refine oStW rfl rfl rfl rfl (by repeat constructor) ty_55 ?_
   refine sp pMa ?_
   refine oNil ?_
   have hG : getDb l n = (lsa0, false) := by unfold getDb; rw [if_neg (by simp_all)]
   rw [hG]
   refine aRet ?_
   refine finRIs (l := [.agg (lsaC lsa0), .v (.bool false)]) (.cons ((.cast (a := .agg [.int 0, .int 0, .v (.slice none 0 0)]) (.cellA rfl (by repeat (first | exact List.mem_cons_self | apply List.mem_cons_of_mem)) ty_55) cast_lsa0)) (.cons (.tmp rfl) .nil)) rfl
  ·skip
   refine aSkip ?_
   refine aSeq ?_
   obtain ⟨x, hx, hxn⟩ := hasK_at (f := kL) (lsdb_sorted hv).2 (n := n) (by simp_all)
   refine aReg ?_
   refine sp pM ?_
   refine sp pM ?_
   first | refine sp (pIx es_32) ?_ | (refine obtSN 21 22 rfl rfl (by omega) (fun x23 hx23 => ?_); refine sp (pIs es_32 hx23) ?_) | (refine obtS 21 22 rfl rfl (by omega) (by omega) (fun x23 hx23 => ?_); refine sp (pIs es_32 hx23) ?_) | refine sp (pIo es_32) ?_
   refine sr (by first | exact rSW ty_55 rfl | exact rSA ty_55) ?_
   refine sq ?_
   refine ci rfl rfl rfl (lsa_Copy (l := x) (by have := lsa_links (lsdb_mem hv x (List.mem_of_getElem? hx)); omega)) ?_
   refine sa ?_
   refine oStW rfl rfl rfl rfl (by repeat constructor) ty_55 ?_
   refine sp pMa ?_
   refine oNil ?_
   have hG : getDb l n = (x, true) := by unfold getDb; rw [if_pos (by simp_all), getD_at hx]
   rw [hG]
   refine aRet ?_
   refine finRIs (l := [.agg (lsaC x), .v (.bool true)]) (.cons (.cellA rfl (by repeat (first | exact List.mem_cons_self | apply List.mem_cons_of_mem)) ty_55) (.cons (.tmp rfl) .nil)) rfl
end A
end Go.Proofs.YthkgdhamnpiagaaGreat
