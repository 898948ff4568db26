/- Texts that DiskClones's proof rests on, part 12. -/
import Derived.KernelRfl
import Derived.Test.YtnabkchagjjjnaaProg
import Derived.Test.YtnabkchagjjjnaaS10DiskClones
set_option linter.unusedVariables false
set_option linter.unusedSimpArgs false
namespace Go.Proofs.Ytnabkchagjjjnaa
namespace A
theorem el_51 : elemOf Try.prog 51 = some (3, 1, 8) := by kernel_rfl
theorem sl_51 : isSl Try.prog 51 = true := by kernel_rfl
theorem ty_3 : tyOf Try.prog 3 = some (1, false) := by kernel_rfl
theorem ty_40 : tyOf Try.prog 40 = some (1, false) := by kernel_rfl
theorem ty_51 : tyOf Try.prog 51 = some (1, false) := by kernel_rfl
theorem um_40 : Try.prog.underlying 40 = some (.map 3 35) := by kernel_rfl
theorem us_51 : Try.prog.underlying 51 = some (.slice 3) := by kernel_rfl
theorem ze_3 : zeroOf Try.prog 3 = some (.int .i64 0) := by kernel_rfl
/- maps.Keys[map[int][]byte,int,[]byte]$1 -/
set_option maxRecDepth 100000 in
set_option maxHeartbeats 400000 in
theorem keys1_mib (b pb : Nat) (kvs : List (Int × AV)) (l : Nat) (I : List (List AV) → List HA → Prop) (S : List HA → Prop) (hy : ∀ pre x hc, KNx kvs pre x → I pre hc → YTriple Try.prog l x hc (fun r h' => ∃ v : Bool, r = .v (.bool v) ∧ (v = true → I (pre ++ [x]) h') ∧ (v = false → S h'))) (hc0 : List HA) (h0 : I [] hc0) : Triple Try.prog 69 [.fn (.yield l) [], .v (.pointer (some ⟨pb, 0, none⟩))] (.box pb [.v (.map (some b))] :: .map b kvs :: hc0) (fun r h' => ∃ hc', h' = .box pb [.v (.map (some b))] :: .map b kvs :: hc' ∧ ((∃ xs, KE kvs xs ∧ I xs hc') ∨ S hc')) := by
  refine triple_of Try.func69 rfl (by kernel_rfl) rfl (by simp) ?_
  refine aSeq ?_
  refine aReg ?_
  refine sr (rB1 ty_40) ?_
  refine sa ?_
  refine oRange rfl rfl (by decide) rfl (by repeat constructor) um_40 (fun r5 => ?_)
  refine oNil ?_
  refine aBlock ?_
  refine aLoopI (α := List Nat × List HA) (fun (idx, hc) => Idx kvs.length idx ∧ I (idx.map fun i => intA (keyAt kvs i)) hc) (fun (idx, hc) => ([(0, .fn (.yield l) []), (5, .v (.pointer (some ⟨r5, 0, none⟩)))], .mapIt b r5 kvs idx :: .box pb [.v (.map (some b))] :: hc)) (fun (idx, hc) => kvs.length - idx.length) ([], hc0) ?_ ?_ ?_
  · skip
    exact ⟨Idx.nil, h0⟩
  · skip
    exact weak_env ⟨rfl, rfl, trivial⟩
  · rintro ⟨idx, hc⟩ ⟨hix, hi⟩
    skip
    refine aSeq ?_
    refine aReg ?_
    refine sa ?_
    refine oNextR rfl rfl (by decide) rfl (by repeat constructor) (fun t6 ks6 ix6 hn6 => ?_)
    refine sp pX ?_
    refine oNil ?_
    refine aSeq ?_
    refine aCond rfl (fun c7 => ?_) (fun c7 => ?_)
    · skip
      refine aSkip ?_
      refine aBlock ?_
      refine aSeq ?_
      refine aReg ?_
      obtain ⟨i, kv, hkv, hni, rfl, rfl⟩ := hn6.yes c7
      refine sr (rEntry rfl rfl (by repeat constructor) hkv) ?_
      refine sp pX ?_
      refine sp pMa ?_
      refine oNil ?_
      refine aSeq ?_
      refine aReg ?_
      refine sp pM ?_
      refine sp pM ?_
      refine oYield (hfr := [.mapIt b r5 kvs (idx ++ [i]), .box pb [.v (.map (some b))]]) rfl rfl rfl (by decide) rfl rfl (hy _ (intA kv.1) hc (hix.knx hkv hni) hi) ?_
      rintro _ h2 ⟨v, rfl, hq1, hq2⟩
      refine sp pNo ?_
      refine oNil ?_
      refine aCondNot rfl (fun c13 => ?_) (fun c13 => ?_)
      · skip
        refine aWeak (weak_unmap .hd) ?_
        refine aRet ?_
        exact ⟨_, _, [], rfl, .cons (.tl .hd) (.cons .hd tk_refl), h2, rfl, .inr (hq2 (by simpa using c13))⟩
      · skip
        refine aSkip ?_
        have hil := (List.getElem?_eq_some_iff.1 hkv).1
        have hlt := hix.lt hil hni
        have hq := hq1 (by simpa using c13)
        refine ⟨(idx ++ [i], h2), ⟨hix.add hil hni, ?_⟩, by show kvs.length - (idx ++ [i]).length < kvs.length - idx.length; simp only [List.length_append, List.length_cons, List.length_nil]; omega, weak_env ⟨rfl, rfl, trivial⟩⟩
        rw [List.map_append, List.map_singleton, keyAt_get hkv]
        exact hq
    · skip
      obtain ⟨rfl, rfl, hall⟩ := hn6.no c7
      refine aWeak (weak_unmap .hd) ?_
      refine aExit rfl ?_
      exact ⟨_, _, [], rfl, .cons (.tl .hd) (.cons .hd tk_refl), hc, rfl, .inl ⟨_, hix.ke hall, hi⟩⟩
theorem keys1_mib_iter (b pb : Nat) (kvs : List (Int × AV)) : IterT Try.prog 69 [.v (.pointer (some ⟨pb, 0, none⟩))] (KNx kvs) (KE kvs) [.box pb [.v (.map (some b))], .map b kvs] :=
  ⟨⟨_, Try.func69, by kernel_rfl, rfl⟩, fun l I S hy hc h0 => keys1_mib b pb kvs l I S (fun pre x hc hn hi => (hy pre x hc hn hi).bool) hc h0⟩
/- maps.Keys[map[int][]byte,int,[]byte] -/
set_option maxRecDepth 100000 in
set_option maxHeartbeats 400000 in
theorem keys_mib (b : Nat) : Triple Try.prog 44 [.v (.map (some b))] [] (fun r h' => ∃ pb, r = .fn (.func 69) [.v (.pointer (some ⟨pb, 0, none⟩))] ∧ h' = [.box pb [.v (.map (some b))]]) := by
  refine triple_of Try.func44 rfl (by kernel_rfl) rfl (by simp) ?_
  refine aSeq ?_
  refine aReg ?_
  refine sq ?_
  refine qBox rfl rfl (by decide) rfl rfl (fun b1 => ?_)
  refine sp pMa ?_
  refine oNil ?_
  refine aSeq ?_
  refine aReg ?_
  refine sp (pFn rfl rfl) ?_
  refine sp pMa ?_
  refine oNil ?_
  refine aRet ?_
  exact ⟨_, [_], [], rfl, .cons .hd .nil, b1, rfl, rfl⟩
def srt_ren : Go.Shelf.Ren := ⟨fun | 189 => 68 | 125 => 73 | 257 => 80 | 128 => 89 | 129 => 90 | 294 => 91 | 295 => 92 | 296 => 93 | 297 => 94 | 298 => 95 | 299 => 96 | 216 => 97 | 300 => 98 | 301 => 99 | 328 => 105 | 329 => 101 | 330 => 102 | 331 => 106 | 332 => 107 | 215 => 74 | 343 => 109 | n => n, fun | 28 => 51 | 3 => 3 | 46 => 121 | 0 => 0 | 51 => 133 | 53 => 135 | 4 => 4 | 183 => 127 | 182 => 126 | 131 => 108 | 5 => 5 | 9 => 9 | 218 => 142 | 222 => 146 | 228 => 150 | 229 => 151 | n => n, fun | n => n⟩
theorem srt : Go.Proofs.Lays.n189 Try.prog srt_ren := {
  mixed := by kernel_rfl,
  f125 := Try.func73.trans (congrArg some (by kernel_rfl)),
  f128 := Try.func89.trans (congrArg some (by kernel_rfl)),
  f129 := Try.func90.trans (congrArg some (by kernel_rfl)),
  f189 := Try.func68.trans (congrArg some (by kernel_rfl)),
  f215 := Try.func74.trans (congrArg some (by kernel_rfl)),
  f216 := Try.func97.trans (congrArg some (by kernel_rfl)),
  f257 := Try.func80.trans (congrArg some (by kernel_rfl)),
  f294 := Try.func91.trans (congrArg some (by kernel_rfl)),
  f295 := Try.func92.trans (congrArg some (by kernel_rfl)),
  f296 := Try.func93.trans (congrArg some (by kernel_rfl)),
  f297 := Try.func94.trans (congrArg some (by kernel_rfl)),
  f298 := Try.func95.trans (congrArg some (by kernel_rfl)),
  f299 := Try.func96.trans (congrArg some (by kernel_rfl)),
  f300 := Try.func98.trans (congrArg some (by kernel_rfl)),
  f301 := Try.func99.trans (congrArg some (by kernel_rfl)),
  f328 := Try.func105.trans (congrArg some (by kernel_rfl)),
  f329 := Try.func101.trans (congrArg some (by kernel_rfl)),
  f330 := Try.func102.trans (congrArg some (by kernel_rfl)),
  f331 := Try.func106.trans (congrArg some (by kernel_rfl)),
  f332 := Try.func107.trans (congrArg some (by kernel_rfl)),
  f343 := Try.func109.trans (congrArg some (by kernel_rfl)),
  t0 := Try.underlying0,
  a0 := Try.isAgg0,
  z0 := Try.sizeOf0,
  v0 := Try.zeroValue0,
  t3 := Try.underlying3,
  a3 := Try.isAgg3,
  z3 := Try.sizeOf3,
  v3 := Try.zeroValue3,
  t4 := Try.underlying4,
  a4 := Try.isAgg4,
  z4 := Try.sizeOf4,
  v4 := Try.zeroValue4,
  t5 := Try.underlying5,
  a5 := Try.isAgg5,
  z5 := Try.sizeOf5,
  v5 := Try.zeroValue5,
  t9 := Try.underlying9,
  a9 := Try.isAgg9,
  z9 := Try.sizeOf9,
  v9 := Try.zeroValue9,
  t28 := Try.underlying51,
  a28 := Try.isAgg51,
  z28 := Try.sizeOf51,
  v28 := Try.zeroValue51,
  t46 := Try.underlying121,
  a46 := Try.isAgg121,
  z46 := Try.sizeOf121,
  v46 := Try.zeroValue121,
  t51 := Try.underlying133,
  a51 := Try.isAgg133,
  z51 := Try.sizeOf133,
  v51 := Try.zeroValue133,
  t53 := Try.underlying135,
  a53 := Try.isAgg135,
  z53 := Try.sizeOf135,
  v53 := Try.zeroValue135,
  t131 := Try.underlying108,
  a131 := Try.isAgg108,
  z131 := Try.sizeOf108,
  v131 := Try.zeroValue108,
  t182 := Try.underlying126,
  a182 := Try.isAgg126,
  z182 := Try.sizeOf126,
  v182 := Try.zeroValue126,
  t183 := Try.underlying127,
  a183 := Try.isAgg127,
  z183 := Try.sizeOf127,
  v183 := Try.zeroValue127,
  t218 := Try.underlying142,
  a218 := Try.isAgg142,
  z218 := Try.sizeOf142,
  v218 := Try.zeroValue142,
  t222 := Try.underlying146,
  a222 := Try.isAgg146,
  z222 := Try.sizeOf146,
  v222 := Try.zeroValue146,
  t228 := Try.underlying150,
  a228 := Try.isAgg150,
  z228 := Try.sizeOf150,
  v228 := Try.zeroValue150,
  t229 := Try.underlying151,
  a229 := Try.isAgg151,
  z229 := Try.sizeOf151,
  v229 := Try.zeroValue151 }
/- slices.AppendSeq[[]int,int] -/
set_option maxRecDepth 100000 in
set_option maxHeartbeats 400000 in
theorem appendSeq_int (gf : FuncId) (caps : List AV) (kvs : List (Int × AV)) (hit : List HA) (it : IterT Try.prog gf caps (KNx kvs) (KE kvs) hit) (hl : kvs.length ≤ 1000000) : Triple Try.prog 79 [(.v (.slice none 0 0)), .fn (.func gf) caps] hit (fun r h' => ∃ (ks : List Int) (g : Option Nat) (c : Nat), r = .v (slV g ks.length c) ∧ h' = .sl g c 3 1 (ks.map intA) :: hit ∧ ks.Perm (kvs.map Prod.fst)) := by
  refine triple_of Try.func79 rfl (by kernel_rfl) rfl (by simp) ?_
  refine aSeq ?_
  refine aReg ?_
  refine sq ?_
  refine qBox rfl rfl (by decide) rfl rfl (fun b2 => ?_)
  refine sp pMa ?_
  refine oNil ?_
  refine aSeq ?_
  refine aSeq ?_
  refine aReg ?_
  refine sp pM ?_
  refine oNil ?_
  refine aBlock ?_
  refine aRangeFunc (α := List Int × Option Nat × Nat) (fun (ks, g, c) => [.sl g c 3 1 (ks.map intA), .box b2 [.v (slV g ks.length c)]]) (fun pre (ks, g, c) => pre = ks.map intA) ([], none, 0) rfl (by decide) it ?_ ?_ ?_ ?_ ?_
  · skip
    rintro _ _ ⟨_, _, _, rfl, _⟩; rfl
  · skip
    refine Weak.trans (weak_nil 3 1) ?_
    exact weak_perm (List.perm_append_comm (l₁ := [_, _]))
  · skip
    rfl
  · rintro pre x ⟨ks, g, c⟩ ⟨ks', k, hpre, rfl, hkl⟩ hJ
    replace hJ : pre = ks.map intA := hJ
    obtain rfl : ks = ks' := intA_inj (hJ.symm.trans hpre)
    refine aReg ?_
    refine sp pMa ?_
    refine oNil ?_
    refine aBlock ?_
    refine aReg ?_
    refine sr (by first | exact rS1 ty_51 | exact rB1 ty_51 | exact rAr ty_51 | exact rArL ty_51 | exact rArR2 ty_51) ?_
    refine sp pM ?_
    refine sq ?_
    refine qLit (l := [_]) rfl rfl (by decide) us_51 ty_3 ze_3 rfl (by decide) (by decide) rfl rfl rfl (fun b10 => ?_)
    refine sa ?_
    refine oAppT [_] rfl rfl (by repeat constructor) (srcOwn rfl (by repeat constructor) rfl) el_51 sl_51 (fun g11 k11 => ?_)
    refine sa ?_
    refine oStB rfl rfl rfl rfl (by repeat constructor) ty_51 rfl (Nat.le_of_ble_eq_true rfl) rfl ?_
    refine oNil ?_
    refine ⟨(ks ++ [k], g11, k11), by show pre ++ _ = List.map intA (ks ++ [k]); rw [List.map_append, hJ]; rfl, ?_⟩
    simp only [List.map_append, List.map_cons, List.map_nil, List.length_append, List.length_cons, List.length_nil, List.length_map]
    exact weak_sub trivial (by repeat constructor)
  · rintro xs ⟨ks, g, c⟩ hE hJ
    try dsimp only [List.nil_append, List.cons_append]
    replace hJ : xs = ks.map intA := hJ
    obtain ⟨ks', hks, hperm⟩ := hE
    obtain rfl : ks = ks' := intA_inj (hJ.symm.trans hks)
    refine aWeak (weak_perm List.perm_append_comm) ?_
    refine aSeq ?_
    refine aReg ?_
    refine sr (by first | exact rS1 ty_51 | exact rB1 ty_51 | exact rAr ty_51 | exact rArL ty_51 | exact rArR2 ty_51) ?_
    refine sp pMa ?_
    refine oNil ?_
    refine aRet ?_
    exact ⟨_, _ :: hit, [_], rfl, .cons .hd (tk_after (l := [_])), ks, g, c, rfl, rfl, hperm⟩
/- slices.Collect[int] -/
set_option maxRecDepth 100000 in
set_option maxHeartbeats 400000 in
theorem collect_int (gf : FuncId) (caps : List AV) (kvs : List (Int × AV)) (hit : List HA) (it : IterT Try.prog gf caps (KNx kvs) (KE kvs) hit) (hl : kvs.length ≤ 1000000) : Triple Try.prog 67 [.fn (.func gf) caps] hit (fun r h' => ∃ (ks : List Int) (g : Option Nat) (c : Nat), r = .v (slV g ks.length c) ∧ h' = .sl g c 3 1 (ks.map intA) :: hit ∧ ks.Perm (kvs.map Prod.fst)) := by
  refine triple_of Try.func67 rfl (by kernel_rfl) rfl (by simp) ?_
  refine aSeq ?_
  refine aReg ?_
  refine sp pMa ?_
  refine oNil ?_
  refine aSeq ?_
  refine aReg ?_
  refine sp pM ?_
  refine sa ?_
  refine aCall (hin := hit) (hfr := []) rfl rfl (by decide) rfl rfl tk_refl (appendSeq_int gf caps kvs hit it hl) ?_
  rintro _ _ ⟨ks, g, c, rfl, rfl, hperm⟩
  refine sp pMa ?_
  refine oNil ?_
  refine aRet ?_
  refine ⟨_, _ :: hit, [], rfl, ?_, ks, g, c, rfl, rfl, hperm⟩
  rw [List.append_nil]
  exact tk_refl
/- slices.Sorted[int] -/
set_option maxRecDepth 100000 in
set_option maxHeartbeats 400000 in
theorem sorted_int (gf : FuncId) (caps : List AV) (kvs : List (Int × AV)) (hit : List HA) (it : IterT Try.prog gf caps (KNx kvs) (KE kvs) hit) (hl : kvs.length ≤ 1000000) : Triple Try.prog 43 [.fn (.func gf) caps] hit (fun r h' => ∃ g c, r = .v (slV g (sortI (kvs.map Prod.fst)).length c) ∧ h' = .sl g c 3 1 ((sortI (kvs.map Prod.fst)).map intA) :: hit) := by
  refine triple_of Try.func43 rfl (by kernel_rfl) rfl (by simp) ?_
  refine aSeq ?_
  refine aReg ?_
  refine sp pMa ?_
  refine oNil ?_
  refine aSeq ?_
  refine aReg ?_
  refine sp pM ?_
  refine sa ?_
  refine aCall (hin := hit) (hfr := []) rfl rfl (by decide) rfl rfl tk_refl (collect_int gf caps kvs hit it hl) ?_
  rintro _ _ ⟨ks, g, c, rfl, rfl, hperm⟩
  refine sp pMa ?_
  refine oNil ?_
  refine aSeq ?_
  refine aReg ?_
  refine sp pM ?_
  refine sa ?_
  refine aCall (hin := [_]) (hfr := hit ++ []) rfl rfl (by decide) rfl rfl (.cons .hd .nil) (triple_sort srt rfl ⟨_, Try.func68, by kernel_rfl, rfl⟩ g c 3 ks (by have := hperm.length_eq; rw [List.length_map] at this; omega)) ?_
  rintro _ _ ⟨rfl, rfl⟩
  refine oNil ?_
  refine aSeq ?_
  refine aReg ?_
  refine sp pM ?_
  refine sp pMa ?_
  refine oNil ?_
  refine aRet ?_
  have hs : sortI ks = sortI (kvs.map Prod.fst) := sortI_perm hperm
  refine ⟨_, .sl g c 3 1 ((sortI ks).map intA) :: hit, [], rfl, ?_, g, c, ?_, ?_⟩
  · show Tk (_ :: (hit ++ [])) _ _
    rw [List.append_nil]
    exact tk_refl
  · rw [← hs, sortI_length]; rfl
  · rw [hs]
end A
end Go.Proofs.Ytnabkchagjjjnaa
set_option linter.unusedVariables false
set_option linter.unusedSimpArgs false
namespace Go.Proofs.Ytnabkchagjjjnaa
namespace A
abbrev BS := List Nat
def by1 (n : Nat) : List AV := [.v (.int .u8 n)]
def zeros : BS := List.replicate 512 0
def bsA (b : BS) : AV := .sl 1 (b.map by1)
def rowsA (l : List BS) : AV := .sl 1 (l.map fun b => [bsA b])
structure DW where
  safe : List BS
  waits : List BS
  armed : Int
  dead : Bool
def dwC (w : DW) : List AV := [rowsA w.safe, rowsA w.waits, .int w.armed, .v (.bool w.dead)]
structure DTear where
  kind : Int
  b : BS
def tearC (t : DTear) : List AV := [.int t.kind, bsA t.b]
structure DAct where
  d : Int
  n : Int
  b : BS
  short : Bool
  tears : List DTear
def dactC (a : DAct) : List AV := [.int a.d, .int a.n, bsA a.b, .v (.bool a.short), .sl 2 (a.tears.map tearC)]
def DW.new (n : Nat) : DW := ⟨List.replicate n zeros, List.replicate n [], -1, false⟩
def DW.get (w : DW) (i : Nat) : BS := if 0 < (w.waits.getD i []).length then w.waits.getD i [] else w.safe.getD i []
def DW.act (w : DW) : DW × Bool := ({ w with armed := if 0 < w.armed ∧ w.dead = false then w.armed - 1 else w.armed, dead := w.dead || w.armed == 0 }, !(w.dead || w.armed == 0))
def DW.write (w : DW) (i : Int) (b : BS) : DW × Int :=
  if w.dead then (w, 7) else if i < 0 ∨ (w.safe.length : Int) ≤ i ∨ b.length ≠ 512 then (w, 1) else if w.act.2 then ({ w.act.1 with waits := w.waits.set i.toNat b }, 0) else (w.act.1, 7)
def DW.flush (w : DW) : DW × Int :=
  if w.act.2 then (⟨(List.range w.safe.length).map w.get, List.replicate w.safe.length [], w.act.1.armed, false⟩, 0) else (w.act.1, 7)
def DW.waiting (w : DW) : List Nat := (List.range w.waits.length).filter fun i => 0 < (w.waits.getD i []).length
def torn (b other : BS) : BS := b.take other.length ++ other.drop b.length
def crash1 (w : DW) (s : List BS) (p : Nat × DTear) : List BS :=
  if p.2.kind = 1 then s.set p.1 (w.waits.getD p.1 []) else if p.2.kind = 2 then s.set p.1 (torn p.2.b (w.safe.getD p.1 [])) else s
def DW.crash (w : DW) (l : List DTear) : DW := ⟨(w.waiting.zip l).foldl (crash1 w) w.safe, List.replicate w.safe.length [], -1, false⟩
def DW.arm (w : DW) (n : Int) : DW := { w with armed := if n < 0 then -1 else n }
def DW.read (w : DW) (i : Int) : BS × Int := if w.dead then ([], 7) else if i < 0 ∨ (w.safe.length : Int) ≤ i then ([], 1) else (w.get i.toNat, 0)
/-! ### Maps of bytes -/
def bGet : List (Int × BS) → Int → Option BS
  | [], _ => none
  | (k, v) :: t, n => if n = k then some v else bGet t n
def bPut : List (Int × BS) → Int → BS → List (Int × BS)
  | [], n, v => [(n, v)]
  | (k, u) :: t, n, v => if n = k then (n, v) :: t else (k, u) :: bPut t n v
def kvA (S : List (Int × BS)) : List (Int × AV) := S.map fun p => (p.1, bsA p.2)
theorem kvA_get (k : Int) : ∀ S : List (Int × BS), kvGet (kvA S) k = (bGet S k).map bsA
  | [] => rfl
  | (j, v) :: t => by
    show (if k = j then some (bsA v) else kvGet (kvA t) k) = Option.map bsA (if k = j then some v else bGet t k)
    rw [kvA_get k t]
    split <;> rfl
theorem kvA_put (k : Int) (v : BS) : ∀ S : List (Int × BS), kvPut (kvA S) k (bsA v) = kvA (bPut S k v)
  | [] => rfl
  | (j, u) :: t => by
    show (if k = j then (k, bsA v) :: kvA t else (j, bsA u) :: kvPut (kvA t) k (bsA v)) = kvA (if k = j then (k, v) :: t else (j, u) :: bPut t k v)
    rw [kvA_put k v t]
    split <;> rfl
theorem kvA_len (S : List (Int × BS)) : (kvA S).length = S.length := List.length_map _
theorem kvA_keys (S : List (Int × BS)) : (kvA S).map Prod.fst = S.map Prod.fst := by simp [kvA, List.map_map, Function.comp_def]
theorem kvA_at {S : List (Int × BS)} {i : Nat} {kv : Int × AV} (h : (kvA S)[i]? = some kv) : ∃ b, S[i]? = some (kv.1, b) ∧ kv.2 = bsA b := by
  rw [kvA, List.getElem?_map, Option.map_eq_some_iff] at h
  obtain ⟨⟨k, b⟩, h1, rfl⟩ := h
  exact ⟨b, h1, rfl⟩
theorem bGet_put {k n : Int} {v : BS} : ∀ {S : List (Int × BS)}, bGet (bPut S k v) n = if n = k then some v else bGet S n
  | [] => by simp [bPut, bGet]
  | (j, u) :: t => by
    by_cases hk : k = j
    · simp only [bPut, hk, if_true, bGet]
      split <;> rfl
    · simp only [bPut, hk, if_false, bGet]
      rw [bGet_put]
      by_cases hn : n = j
      · rw [if_pos hn, if_pos hn, if_neg (fun e => hk (e.symm.trans hn))]
      · rw [if_neg hn, if_neg hn]
theorem bGet_mem {n : Int} : ∀ {S : List (Int × BS)}, (bGet S n).isSome = true ↔ n ∈ S.map Prod.fst
  | [] => by simp [bGet]
  | (j, u) :: t => by
    by_cases h : n = j
    · simp [bGet, h]
    · simp only [bGet, h, if_false, List.map_cons, List.mem_cons, false_or]
      exact bGet_mem
theorem bPut_keys {k : Int} {v : BS} {n : Int} : ∀ {S : List (Int × BS)}, n ∈ (bPut S k v).map Prod.fst ↔ n = k ∨ n ∈ S.map Prod.fst := fun {S} => by
  rw [← bGet_mem, ← bGet_mem, bGet_put]
  split
  · simp [*]
  · simp [*]
theorem bPut_nodup {k : Int} {v : BS} : ∀ {S : List (Int × BS)}, (S.map Prod.fst).Nodup → ((bPut S k v).map Prod.fst).Nodup
  | [], _ => by simp [bPut]
  | (j, u) :: t, h => by
    simp only [List.map_cons, List.nodup_cons] at h
    by_cases hk : k = j
    · simp only [bPut, hk, if_true, List.map_cons, List.nodup_cons]; exact h
    · simp only [bPut, hk, if_false, List.map_cons, List.nodup_cons]
      refine ⟨fun hm => ?_, bPut_nodup h.2⟩
      rcases bPut_keys.1 hm with h1 | h1
      · exact hk h1.symm
      · exact h.1 h1
theorem bGet_at {S : List (Int × BS)} (hn : (S.map Prod.fst).Nodup) : ∀ {i : Nat} {k : Int} {b : BS}, S[i]? = some (k, b) → bGet S k = some b := by
  induction S with
  | nil => intro i k b h; simp at h
  | cons p t ih =>
    obtain ⟨j, u⟩ := p
    intro i k b h
    simp only [List.map_cons, List.nodup_cons] at hn
    cases i with
    | zero => simp at h; simp [bGet, h.1, h.2]
    | succ i =>
      simp only [List.getElem?_cons_succ] at h
      have hm : k ∈ t.map Prod.fst := List.mem_map.2 ⟨(k, b), List.mem_of_getElem? h, rfl⟩
      have hk : ¬ k = j := fun e => hn.1 (e ▸ hm)
      simp only [bGet, hk, if_false]
      exact ih hn.2 h
/-! ### A disk's maps, and the document's disk -/
structure Rel (n : Nat) (S W : List (Int × BS)) (w : DW) : Prop where
  n1 : 1 ≤ n
  n2 : n ≤ 1024
  sn : w.safe.length = n
  wn : w.waits.length = n
  sk : (S.map Prod.fst).Nodup
  wk : (W.map Prod.fst).Nodup
  sr : ∀ k b, bGet S k = some b → 0 ≤ k ∧ k < n ∧ b.length = 512
  wr : ∀ k b, bGet W k = some b → 0 ≤ k ∧ k < n ∧ b.length = 512
  sg : ∀ i : Nat, i < n → w.safe[i]? = some ((bGet S i).getD zeros)
  wg : ∀ i : Nat, i < n → w.waits[i]? = some ((bGet W i).getD [])
  ar : w.armed ≤ 9223372036854775807
theorem keys_len {n : Nat} {S : List (Int × BS)} (hk : (S.map Prod.fst).Nodup) (hr : ∀ k b, bGet S k = some b → 0 ≤ k ∧ k < n ∧ b.length = 512) : S.length ≤ n := by
  have h1 : ∀ k ∈ S.map Prod.fst, 0 ≤ k ∧ k < (n : Int) := fun k hk' => by
    obtain ⟨b, hb⟩ := Option.isSome_iff_exists.1 (bGet_mem.2 hk')
    have := hr k b hb
    exact ⟨this.1, this.2.1⟩
  have h2 : Idx n ((S.map Prod.fst).map Int.toNat) := by
    refine ⟨?_, fun i hi => ?_⟩
    · rw [List.nodup_iff_pairwise_ne, List.pairwise_map]
      rw [List.nodup_iff_pairwise_ne] at hk
      refine List.Pairwise.imp_of_mem (fun {a b} ha hb hab e => hab ?_) hk
      have := h1 a ha
      have := h1 b hb
      omega
    · obtain ⟨k, hk', rfl⟩ := List.mem_map.1 hi
      have := h1 k hk'
      omega
  have := h2.len
  simpa using this
theorem Rel.wlen {n : Nat} {S W : List (Int × BS)} {w : DW} (r : Rel n S W w) : W.length ≤ n := keys_len r.wk r.wr
theorem zeros_len : zeros.length = 512 := List.length_replicate
theorem Rel.s512 {n : Nat} {S W : List (Int × BS)} {w : DW} (r : Rel n S W w) (k : Int) : ((bGet S k).getD zeros).length = 512 := by
  cases h : bGet S k with
  | none => exact zeros_len
  | some b => exact (r.sr k b h).2.2
theorem Rel.getD_s {n : Nat} {S W : List (Int × BS)} {w : DW} (r : Rel n S W w) {i : Nat} (hi : i < n) : w.safe.getD i [] = (bGet S i).getD zeros := by simp [List.getD, r.sg i hi]
theorem Rel.getD_w {n : Nat} {S W : List (Int × BS)} {w : DW} (r : Rel n S W w) {i : Nat} (hi : i < n) : w.waits.getD i [] = (bGet W i).getD [] := by simp [List.getD, r.wg i hi]
theorem Rel.get {n : Nat} {S W : List (Int × BS)} {w : DW} (r : Rel n S W w) {i : Nat} (hi : i < n) : w.get i = ((bGet W i).or (bGet S i)).getD zeros := by
  unfold DW.get
  rw [r.getD_w hi, r.getD_s hi]
  cases h : bGet W i with
  | none => simp
  | some b =>
    have := (r.wr i b h).2.2
    simp [this]
theorem Rel.g512 {n : Nat} {S W : List (Int × BS)} {w : DW} (r : Rel n S W w) {i : Nat} (hi : i < n) : (w.get i).length = 512 := by
  rw [r.get hi]
  cases h : bGet W i with
  | none => simpa using r.s512 i
  | some b => exact (r.wr i b h).2.2
theorem Rel.waiting {n : Nat} {S W : List (Int × BS)} {w : DW} (r : Rel n S W w) : sortI (W.map Prod.fst) = w.waiting.map (fun i : Nat => (i : Int)) := by
  refine sortI_eq r.wk ?_ (fun x => ?_)
  · rw [List.pairwise_map]
    unfold DW.waiting
    exact (List.pairwise_lt_range.filter _).imp (fun h => by omega)
  · rw [← bGet_mem]
    unfold DW.waiting
    simp only [List.mem_map, List.mem_filter, List.mem_range, decide_eq_true_eq, r.wn]
    constructor
    · intro h
      obtain ⟨b, hb⟩ := Option.isSome_iff_exists.1 h
      obtain ⟨h1, h2, h3⟩ := r.wr x b hb
      refine ⟨x.toNat, ⟨by omega, ?_⟩, by omega⟩
      rw [r.getD_w (by omega), show ((x.toNat : Nat) : Int) = x by omega, hb]
      simp [h3]
    · rintro ⟨i, ⟨h1, h2⟩, rfl⟩
      rw [r.getD_w h1] at h2
      cases h : bGet W (i : Int) with
      | none => rw [h] at h2; simp at h2
      | some b => rfl
theorem rel_new {n : Nat} (h1 : 1 ≤ n) (h2 : n ≤ 1024) : Rel n [] [] (DW.new n) where
  n1 := h1
  n2 := h2
  sn := by simp [DW.new]
  wn := by simp [DW.new]
  sk := by simp
  wk := by simp
  sr := fun k b h => by simp [bGet] at h
  wr := fun k b h => by simp [bGet] at h
  sg := fun i hi => by simp [DW.new, bGet, hi]
  wg := fun i hi => by simp [DW.new, bGet, hi]
  ar := by simp [DW.new]
theorem Rel.arm {n : Nat} {S W : List (Int × BS)} {w : DW} (r : Rel n S W w) {k : Int} (hk : k ≤ 9223372036854775807) : Rel n S W (w.arm k) := { r with ar := by show (if k < 0 then -1 else k) ≤ _; split <;> omega }
theorem Rel.put {n : Nat} {S W : List (Int × BS)} {w : DW} (r : Rel n S W w) {i : Int} {b : BS} (h0 : 0 ≤ i) (hi : i < n) (hb : b.length = 512) : Rel n S (bPut W i b) { w with waits := w.waits.set i.toNat b } :=
  { r with
    wn := by show (w.waits.set _ _).length = n; rw [List.length_set]; exact r.wn
    wk := bPut_nodup r.wk
    wr := fun k c h => by
      rw [bGet_put] at h
      split at h
      · rename_i hk; subst hk; cases h; exact ⟨h0, hi, hb⟩
      · exact r.wr k c h
    wg := fun k hk => by
      show (w.waits.set i.toNat b)[k]? = _
      rw [bGet_put]
      by_cases hki : (k : Int) = i
      · rw [if_pos hki, show i.toNat = k by omega, List.getElem?_set_self (by rw [r.wn]; exact hk)]
        rfl
      · rw [if_neg hki, List.getElem?_set_ne (by omega)]
        exact r.wg k hk }
theorem Rel.flushed {n : Nat} {S W S' : List (Int × BS)} {w : DW} (r : Rel n S W w) (hk : (S'.map Prod.fst).Nodup) (hg : ∀ k, bGet S' k = (bGet W k).or (bGet S k)) (a : Int) (ha : a ≤ 9223372036854775807) : Rel n S' [] ⟨(List.range w.safe.length).map w.get, List.replicate w.safe.length [], a, false⟩ :=
  { r with
    sn := by simp [r.sn]
    wn := by simp [r.sn]
    sk := hk
    wk := by simp
    sr := fun k b h => by
      rw [hg] at h
      cases hw : bGet W k with
      | some c => rw [hw] at h; cases h; exact r.wr k b hw
      | none => rw [hw] at h; exact r.sr k b h
    wr := fun k b h => by simp [bGet] at h
    sg := fun i hi => by
      simp only [List.getElem?_map, r.sn, List.getElem?_range hi, Option.map_some]
      rw [r.get hi, hg]
    wg := fun i hi => by simp [r.sn, hi, bGet]
    ar := ha }
/-- In the midst of a crash: S is the safe sectors so far. -/
theorem Rel.crash1 {n : Nat} {S S0 W : List (Int × BS)} {w : DW} {s : List BS} (r0 : Rel n S0 W w) (r : Rel n S W { w with safe := s }) {i : Nat} (hi : i < n) (hw : 0 < (w.waits.getD i []).length) (hS : bGet S i = bGet S0 i) (t : DTear) :
    Rel n (if t.kind = 1 then bPut S i ((bGet W i).getD []) else if t.kind = 2 then bPut S i (torn t.b ((bGet S i).getD zeros)) else S) W { w with safe := A.crash1 w s (i, t) } := by
  have key : ∀ b : BS, b.length = 512 → Rel n (bPut S i b) W { w with safe := s.set i b } := fun b hb =>
    { r with
      sn := by show (s.set _ _).length = n; rw [List.length_set]; exact r.sn
      sk := bPut_nodup r.sk
      sr := fun k c h => by
        rw [bGet_put] at h
        split at h
        · rename_i hk; subst hk; cases h; exact ⟨by omega, by omega, hb⟩
        · exact r.sr k c h
      sg := fun k hk => by
        show (s.set i b)[k]? = _
        rw [bGet_put]
        by_cases hki : (k : Int) = i
        · have hki' : k = i := by omega
          subst hki'
          rw [if_pos rfl, List.getElem?_set_self (by have := r.sn; exact this ▸ hk)]
          rfl
        · rw [if_neg hki, List.getElem?_set_ne (by omega)]
          exact r.sg k hk }
  unfold A.crash1
  dsimp only
  by_cases h1 : t.kind = 1
  · rw [if_pos h1, if_pos h1, r0.getD_w hi]
    refine key _ ?_
    rw [r0.getD_w hi] at hw
    cases h : bGet W (i : Int) with
    | none => rw [h] at hw; simp at hw
    | some b => exact (r0.wr i b h).2.2
  · rw [if_neg h1, if_neg h1]
    by_cases h2 : t.kind = 2
    · rw [if_pos h2, if_pos h2, r0.getD_s hi, hS]
      refine key _ ?_
      have := r0.s512 i
      simp only [torn, List.length_append, List.length_take, List.length_drop]
      omega
    · rw [if_neg h2, if_neg h2]
      exact r
theorem Rel.crashed {n : Nat} {S W : List (Int × BS)} {w : DW} {s : List BS} (r : Rel n S W { w with safe := s }) : Rel n S [] ⟨s, List.replicate n [], -1, false⟩ :=
  { r with
    wn := by simp
    wk := by simp
    wr := fun k b h => by simp [bGet] at h
    wg := fun i hi => by simp [hi, bGet]
    ar := by show (-1 : Int) ≤ _; omega }
end A
end Go.Proofs.Ytnabkchagjjjnaa
set_option linter.unusedVariables false
set_option linter.unusedSimpArgs false
namespace Go.Proofs.Ytnabkchagjjjnaa
namespace A
theorem el_35 : elemOf Try.prog 35 = some (5, 1, 1) := by kernel_rfl
theorem fd_42_0 : fieldOf Try.prog 42 0 = some (0, 1, false) := by kernel_rfl
theorem fd_42_1 : fieldOf Try.prog 42 1 = some (1, 1, false) := by kernel_rfl
theorem fd_42_3 : fieldOf Try.prog 42 3 = some (3, 1, false) := by kernel_rfl
theorem fd_42_4 : fieldOf Try.prog 42 4 = some (4, 1, false) := by kernel_rfl
theorem mo_40 : mapOf Try.prog 40 = some (3, 35) := by kernel_rfl
theorem pt_25 : isPtrT Try.prog 25 = true := by kernel_rfl
theorem sl_35 : isSl Try.prog 35 = true := by kernel_rfl
theorem ty_4 : tyOf Try.prog 4 = some (1, false) := by kernel_rfl
theorem ty_5 : tyOf Try.prog 5 = some (1, false) := by kernel_rfl
theorem us_35 : Try.prog.underlying 35 = some (.slice 5) := by kernel_rfl
theorem ze_35 : zeroOf Try.prog 35 = some (.slice none 0 0) := by kernel_rfl
theorem ze_5 : zeroOf Try.prog 5 = some (.int .u8 0) := by kernel_rfl
/- disk.Disk).off -/
set_option maxRecDepth 100000 in
set_option maxHeartbeats 400000 in
theorem disk_off (db : Nat) (n a : Int) (x y : AV) (d : Bool) : Triple Try.prog 39 [.v (.pointer (some ⟨db, 0, none⟩))] [.box db [.int n, x, y, .int a, .v (.bool d)]] (fun r h' => r = .v (.bool (n == 0 || d)) ∧ h' = [.box db [.int n, x, y, .int a, .v (.bool d)]]) := by
  refine triple_of Try.func39 rfl (by kernel_rfl) rfl (by simp) ?_
  refine aSeq ?_
  refine aReg ?_
  refine sp pMa ?_
  refine oNil ?_
  refine aSeq ?_
  refine aReg ?_
  refine sp pM ?_
  refine sp (by first | exact pPtrNil rfl (.inl rfl) rfl pt_25 rfl (rfl : _ = false) | exact pSpNil rfl (.inl rfl) rfl pt_25 (rfl : _ = false)) ?_
  refine sp pM ?_
  refine gp pM ?_
  refine gp pNv ?_
  refine gp (pFb fd_42_0) ?_
  refine gr (rB1 ty_3) ?_
  refine gp pB ?_
  refine sp pK ?_
  refine sp pM ?_
  refine oSplitEq 12 rfl (fun c12 => ?_) (fun c12 => ?_)
  · skip
    refine gf ?_
    refine gf ?_
    refine gf ?_
    refine gf ?_
    refine sp pK ?_
    refine sp pMa ?_
    refine oNil ?_
    refine aRet ?_
    refine ⟨_, [_], [], rfl, .cons .hd .nil, ?_, rfl⟩
    simp_all [retOf]
  · skip
    refine gp pM ?_
    refine gp pNv ?_
    refine gp (pFb fd_42_4) ?_
    refine gr (rB1 ty_4) ?_
    refine sp pK ?_
    refine sp pMa ?_
    refine oNil ?_
    refine aRet ?_
    refine ⟨_, [_], [], rfl, .cons .hd .nil, ?_, rfl⟩
    simp_all [retOf]
/- disk.Disk).Size -/
set_option maxRecDepth 100000 in
set_option maxHeartbeats 400000 in
theorem disk_Size (db : Nat) (n a : Int) (x y : AV) (d : Bool) : Triple Try.prog 19 [.v (.pointer (some ⟨db, 0, none⟩))] [.box db [.int n, x, y, .int a, .v (.bool d)]] (fun r h' => r = .int n ∧ h' = [.box db [.int n, x, y, .int a, .v (.bool d)]]) := by
  refine triple_of Try.func19 rfl (by kernel_rfl) rfl (by simp) ?_
  refine aSeq ?_
  refine aReg ?_
  refine sp pMa ?_
  refine oNil ?_
  refine aSeq ?_
  refine aSeq ?_
  refine aReg ?_
  refine sp pM ?_
  refine sp (by first | exact pPtrNil rfl (.inl rfl) rfl pt_25 rfl (rfl : _ = false) | exact pSpNil rfl (.inl rfl) rfl pt_25 (rfl : _ = false)) ?_
  refine oNil ?_
  refine aCondF rfl ?_
  refine aSkip ?_
  refine aSeq ?_
  refine aReg ?_
  refine sp pM ?_
  refine sp pNv ?_
  refine sp (pFb fd_42_0) ?_
  refine sr (rB1 ty_3) ?_
  refine sp pMa ?_
  refine oNil ?_
  refine aRet ?_
  exact ⟨_, [_], [], rfl, .cons .hd .nil, rfl, rfl⟩
/- disk.Disk).act -/
set_option maxRecDepth 100000 in
set_option maxHeartbeats 400000 in
theorem disk_act (db : Nat) (n a : Int) (x y : AV) (d : Bool) (ha : a ≤ 9223372036854775807) : Triple Try.prog 41 [.v (.pointer (some ⟨db, 0, none⟩))] [.box db [.int n, x, y, .int a, .v (.bool d)]] (fun r h' => r = .int (if a = 0 then 7 else 0) ∧ h' = [.box db [.int n, x, y, .int (if 0 < a then a - 1 else a), .v (.bool (if a = 0 then true else d))]]) := by
  refine triple_of Try.func41 rfl (by kernel_rfl) rfl (by simp) ?_
  refine aSeq ?_
  refine aReg ?_
  refine sp pMa ?_
  refine oNil ?_
  refine aSeq ?_
  refine aBlock ?_
  refine aSeq ?_
  refine aReg ?_
  refine sp pM ?_
  refine sp pNv ?_
  refine sp (pFb fd_42_3) ?_
  refine sr (rB1 ty_3) ?_
  refine sp pB ?_
  refine sp pMa ?_
  refine oNil ?_
  refine aCondEq rfl (fun c3 => ?_) (fun c3 => ?_)
  · skip
    refine aSeq ?_
    refine aReg ?_
    refine sp pM ?_
    refine sp pNv ?_
    refine sp (pFb fd_42_4) ?_
    refine sa ?_
    refine oStB rfl rfl rfl rfl (by repeat constructor) ty_4 rfl (Nat.le_of_ble_eq_true rfl) rfl ?_
    refine oNil ?_
    refine aSeq ?_
    refine aReg ?_
    refine sp pMa ?_
    refine oNil ?_
    refine aRet ?_
    refine ⟨_, [_], [], rfl, .cons .hd .nil, ?_, ?_⟩
    · simp_all [retOf] <;> omega
    · simp_all [setCells, putAll, avCells] <;> omega
  · skip
    refine aSeq ?_
    refine aReg ?_
    refine sp pM ?_
    refine sp pNv ?_
    refine sp (pFb fd_42_3) ?_
    refine sr (rB1 ty_3) ?_
    refine sp pB ?_
    refine sp pMa ?_
    refine oNil ?_
    refine aCondDec rfl (fun c12 => ?_) (fun c12 => ?_)
    · skip
      refine aReg ?_
      refine sp pM ?_
      refine sp pNv ?_
      refine sp (pFb fd_42_3) ?_
      refine sr (rB1 ty_3) ?_
      refine sp pSu ?_
      refine sp pNv ?_
      refine sp (pFb fd_42_3) ?_
      refine sa ?_
      refine oStB rfl rfl rfl rfl (by repeat constructor) ty_3 rfl (Nat.le_of_ble_eq_true rfl) rfl ?_
      refine oNil ?_
      refine aSeq ?_
      refine aReg ?_
      refine sp pMa ?_
      refine oNil ?_
      refine aRet ?_
      refine ⟨_, [_], [], rfl, .cons .hd .nil, ?_, ?_⟩
      · simp_all [retOf] <;> omega
      · simp_all [setCells, putAll, avCells] <;> omega
    · skip
      refine aSkip ?_
      refine aSeq ?_
      refine aReg ?_
      refine sp pMa ?_
      refine oNil ?_
      refine aRet ?_
      refine ⟨_, [_], [], rfl, .cons .hd .nil, ?_, ?_⟩
      · simp_all [retOf] <;> omega
      · simp_all [setCells, putAll, avCells] <;> omega
/- disk.Disk).Arm -/
set_option maxRecDepth 100000 in
set_option maxHeartbeats 400000 in
theorem disk_Arm (db : Nat) (n a : Int) (x y : AV) (d : Bool) (k : Int) : Triple Try.prog 12 [.v (.pointer (some ⟨db, 0, none⟩)), .int k] [.box db [.int n, x, y, .int a, .v (.bool d)]] (fun r h' => r = .tup [] ∧ h' = [.box db [.int n, x, y, .int (if k < 0 then -1 else k), .v (.bool d)]]) := by
  refine triple_of Try.func12 rfl (by kernel_rfl) rfl (by simp) ?_
  refine aSeq ?_
  refine aReg ?_
  refine sp pM ?_
  refine sp (by first | exact pPtrNil rfl (.inr rfl) rfl pt_25 rfl (rfl : _ = true) | exact pSpNil rfl (.inr rfl) rfl pt_25 (rfl : _ = true)) ?_
  refine oNil ?_
  refine aCondT rfl ?_
  refine aReg ?_
  refine sp pM ?_
  refine sp pM ?_
  refine sp pMax ?_
  refine sp pNv ?_
  refine sp (pFb fd_42_3) ?_
  refine sa ?_
  refine oStB rfl rfl rfl rfl (by repeat constructor) ty_3 rfl (Nat.le_of_ble_eq_true rfl) rfl ?_
  refine oNil ?_
  refine ⟨_, [_], [], rfl, .cons .hd .nil, rfl, ?_⟩
  simp only [setCells, putAll, avCells, List.cons.injEq, HA.box.injEq, AV.v.injEq, Value.int.injEq, true_and, and_true]
  split <;> omega
/- slices.Clone[[]byte,byte] -/
set_option maxRecDepth 100000 in
set_option maxHeartbeats 400000 in
theorem clone_bytes (es : List (List AV)) (hne : es ≠ []) (hz : ∀ z ∈ es, z.length = 1) (hl : es.length ≤ 1000000) : Triple Try.prog 40 [.sl 1 es] [] (fun r h' => ∃ g c, r = .v (slV g es.length c) ∧ h' = [.sl g c 5 1 es]) := by
  refine triple_of Try.func40 rfl (by kernel_rfl) rfl (by simp) ?_
  refine aSeq ?_
  refine aReg ?_
  refine sp pMa ?_
  refine oNil ?_
  refine aSeq ?_
  refine aSeq ?_
  refine aReg ?_
  refine sp pM ?_
  refine sp (pSlNe rfl (.inl rfl) rfl sl_35 hne (rfl : _ = false)) ?_
  refine oNil ?_
  refine aCondF rfl ?_
  refine aSkip ?_
  refine aSeq ?_
  refine aReg ?_
  refine sq ?_
  refine qLit (l := []) rfl rfl (by decide) us_35 ty_5 ze_5 rfl (by decide) (by decide) rfl rfl rfl (fun b5 => ?_)
  refine sp pM ?_
  refine sa ?_
  refine oApp rfl rfl (by decide) rfl (by repeat constructor) rfl (.inl rfl) el_35 sl_35 hz (by first | (simp; done) | (simp; omega)) (by first | (simp; done) | (simp; omega)) (fun g7 k7 => ?_)
  refine sp pMa ?_
  refine oNil ?_
  refine aRet ?_
  refine ⟨_, [_], [], rfl, .cons .hd .nil, g7, k7, ?_, rfl⟩
  simp [retOf]
theorem by1_len {b : BS} : ∀ z ∈ b.map by1, z.length = 1 := by
  intro z hz
  obtain ⟨n, _, rfl⟩ := List.mem_map.1 hz
  rfl
theorem by1_ne {b : BS} (h : b.length = 512) : b.map by1 ≠ [] := fun e => by have := congrArg List.length e; simp [h] at this
theorem cast_look (S : List (Int × BS)) (k : Int) : Cast (.tup [(kvGet (kvA S) k).getD (.v (.slice none 0 0)), .bool (kvGet (kvA S) k).isSome]) (.tup [bsA ((bGet S k).getD []), .v (.bool (bGet S k).isSome)]) := by
  rw [kvA_get]
  intro F w x hx
  cases h : bGet S k with
  | some b => rw [h] at hx; exact hx
  | none =>
    rw [h] at hx
    cases hx with
    | tup _ xs hl hR =>
      refine .tup _ xs hl (fun j av y hj hy => ?_)
      match j with
      | 0 =>
        simp at hj
        subst hj
        exact cast_nil F w y (hR 0 _ y rfl hy)
      | 1 =>
        simp at hj
        subst hj
        exact hR 1 _ y rfl hy
      | j + 2 => simp at hj
theorem rep_zeros : ∀ (F : Nat → Prop) (w : World) (j : Nat) (av : AV) (x : Value), (by1 0)[j]? = some av → (Value.int .u8 0).cells[j]? = some x → Rep F w av x := by
  intro F w j av x hj hx
  match j with
  | 0 => simp [by1] at hj; simp [Value.cells] at hx; subst hj; subst hx; exact .v _
  | j + 1 => simp [by1] at hj
theorem zeros_map : zeros.map by1 = List.replicate 512 (by1 0) := List.map_replicate
/- disk.Disk).firm -/
set_option maxRecDepth 100000 in
set_option maxHeartbeats 400000 in
theorem disk_firm (db bs : Nat) (i n a : Int) (y : AV) (d : Bool) (S : List (Int × BS)) (hS : ∀ b, bGet S i = some b → b.length = 512) : Triple Try.prog 38 [.v (.pointer (some ⟨db, 0, none⟩)), .int i] [.box db [.int n, .v (.map (some bs)), y, .int a, .v (.bool d)], .map bs (kvA S)] (fun r h' => ∃ g c, r = .v (slV g 512 c) ∧ h' = .sl g c 5 1 (((bGet S i).getD zeros).map by1) :: [.box db [.int n, .v (.map (some bs)), y, .int a, .v (.bool d)], .map bs (kvA S)]) := by
  refine triple_of Try.func38 rfl (by kernel_rfl) rfl (by simp) ?_
  refine aSeq ?_
  refine aReg ?_
  refine sp pMa ?_
  refine oNil ?_
  refine aSeq ?_
  refine aSeq ?_
  refine aReg ?_
  refine sp pM ?_
  refine sp pNv ?_
  refine sp (pFb fd_42_1) ?_
  refine sr (rB1 ty_40) ?_
  refine sp pM ?_
  refine sr (rCast (rLookOk rfl rfl rfl (by repeat constructor) mo_40 ze_35 rfl) (cast_look S i)) ?_
  refine sp pM ?_
  refine sp pX ?_
  refine sp pX ?_
  refine sp pMa ?_
  refine sp pMa ?_
  refine oNil ?_
  refine aSeq ?_
  refine aReg ?_
  refine sp pM ?_
  refine oNil ?_
  refine aCond rfl (fun c16 => ?_) (fun c16 => ?_)
  · skip
    refine aSeq ?_
    obtain ⟨b, hb⟩ := Option.isSome_iff_exists.1 c16
    have hbl := hS b hb
    have hbg : (bGet S i).getD [] = b := by rw [hb]; rfl
    have hbz : (bGet S i).getD zeros = b := by rw [hb]; rfl
    rw [hbg, hbz]
    refine aReg ?_
    refine sp pM ?_
    refine sa ?_
    refine aCall rfl rfl (by decide) rfl rfl .nil (clone_bytes (b.map by1) (by1_ne hbl) by1_len (by rw [List.length_map]; omega)) ?_
    rintro _ _ ⟨g, c, rfl, rfl⟩
    refine sp pMa ?_
    refine oNil ?_
    refine aRet ?_
    refine ⟨_, _ :: [_, _], [], rfl, tk_refl, g, c, ?_, rfl⟩
    show AV.v (slV g _ c) = _
    rw [List.length_map, hbl]
  · skip
    refine aSkip ?_
    refine aSeq ?_
    have hbz : (bGet S i).getD zeros = zeros := by
      cases h : bGet S i with
      | none => rfl
      | some b => rw [h] at c16; cases c16
    rw [hbz]
    refine aReg ?_
    refine sq ?_
    refine qMake (n := 512) (zs := by1 0) rfl rfl (by decide) rfl rfl rfl rfl el_35 ze_5 rfl rfl rep_zeros (by decide) (by decide) (fun b19 => ?_)
    refine sp pMa ?_
    refine oNil ?_
    refine aRet ?_
    refine ⟨_, _ :: [_, _], [], rfl, tk_refl, some b19, 512, rfl, ?_⟩
    rw [zeros_map]
end A
end Go.Proofs.Ytnabkchagjjjnaa
set_option linter.unusedVariables false
set_option linter.unusedSimpArgs false
namespace Go.Proofs.Ytnabkchagjjjnaa
namespace A
theorem fd_42_2 : fieldOf Try.prog 42 2 = some (2, 1, false) := by kernel_rfl
theorem read_dead {w : DW} {i : Int} (h : w.dead = true) : w.read i = ([], 7) := by simp [DW.read, h]
theorem read_arg {w : DW} {i : Int} (h : w.dead = false) (hi : i < 0 ∨ (w.safe.length : Int) ≤ i) : w.read i = ([], 1) := by simp [DW.read, h, hi]
theorem read_ok {w : DW} {i : Int} (h : w.dead = false) (h0 : 0 ≤ i) (hi : i < (w.safe.length : Int)) : w.read i = (w.get i.toNat, 0) := by
  rw [DW.read, if_neg (by simp [h]), if_neg (by omega)]
theorem Rel.geti {n : Nat} {S W : List (Int × BS)} {w : DW} (r : Rel n S W w) {i : Int} (h0 : 0 ≤ i) (hi : i < (n : Int)) : w.get i.toNat = ((bGet W i).or (bGet S i)).getD zeros := by
  rw [r.get (by omega), show ((i.toNat : Nat) : Int) = i by omega]
theorem Rel.read_len {n : Nat} {S W : List (Int × BS)} {w : DW} (r : Rel n S W w) (i : Int) : (w.read i).1.length ≤ 512 := by
  unfold DW.read
  split
  · simp
  · split
    · simp
    · rename_i h
      rw [r.sn] at h
      exact Nat.le_of_eq (r.g512 (by omega))
theorem Rel.off {n : Nat} {S W : List (Int × BS)} {w : DW} (r : Rel n S W w) {d : Bool} (h : ((n : Int) == 0 || w.dead) = d) : w.dead = d := by
  have := r.n1
  have h0 : ((n : Int) == 0) = false := by simp; omega
  rwa [h0, Bool.false_or] at h
/- disk.Disk).Read -/
set_option maxRecDepth 100000 in
set_option maxHeartbeats 1000000 in
theorem disk_Read (db bs bw n : Nat) (i : Int) (S W : List (Int × BS)) (w : DW) (r : Rel n S W w) : Triple Try.prog 14 [.v (.pointer (some ⟨db, 0, none⟩)), .int i] [.box db [.int n, .v (.map (some bs)), .v (.map (some bw)), .int w.armed, .v (.bool w.dead)], .map bs (kvA S), .map bw (kvA W)] (fun q h' => ∃ g c, q = .tup [.v (slV g (w.read i).1.length c), .int (w.read i).2] ∧ h' = .sl g c 5 1 ((w.read i).1.map by1) :: [.box db [.int n, .v (.map (some bs)), .v (.map (some bw)), .int w.armed, .v (.bool w.dead)], .map bs (kvA S), .map bw (kvA W)]) := by
  refine triple_of Try.func14 rfl (by kernel_rfl) rfl (by simp) ?_
  refine aSeq ?_
  refine aReg ?_
  refine sp pMa ?_
  refine sp pMa ?_
  refine oNil ?_
  refine aSeq ?_
  refine aBlock ?_
  refine aSeq ?_
  refine aReg ?_
  refine sp pM ?_
  refine sa ?_
  refine aCall rfl rfl (by decide) rfl rfl (.cons (by repeat constructor) .nil) (disk_off _ _ _ _ _ _) ?_
  rintro _ _ ⟨rfl, rfl⟩
  refine sp pMa ?_
  refine oNil ?_
  refine aCond rfl (fun c8 => ?_) (fun c8 => ?_)
  · skip
    refine aSeq ?_
    refine aWeak (weak_nil 5 1) ?_
    refine aReg ?_
    refine sp pMa ?_
    refine sp pMa ?_
    refine oNil ?_
    refine aRet ?_
    rw [read_dead (r.off c8)]
    exact ⟨_, _, [], rfl, tk_refl, none, 0, rfl, rfl⟩
  · skip
    refine aSeq ?_
    refine aReg ?_
    refine sp pM ?_
    refine sp pB ?_
    refine sp pM ?_
    refine oSplitDec 14 rfl (fun c14 => ?_) (fun c14 => ?_)
    · skip
      refine gf ?_
      refine gf ?_
      refine gf ?_
      refine gf ?_
      refine gf ?_
      refine gf ?_
      refine sp pK ?_
      refine sp pMa ?_
      refine oNil ?_
      refine aCondT rfl ?_
      refine aSeq ?_
      refine aWeak (weak_nil 5 1) ?_
      refine aReg ?_
      refine sp pMa ?_
      refine sp pMa ?_
      refine oNil ?_
      refine aRet ?_
      rw [read_arg (r.off (by simpa using c8)) (by rw [r.sn]; first | exact .inl (by assumption) | exact .inr (by omega))]
      exact ⟨_, _, [], rfl, tk_refl, none, 0, rfl, rfl⟩
    · skip
      refine gp pM ?_
      refine gp pM ?_
      refine gp pNv ?_
      refine gp (pFb fd_42_0) ?_
      refine gr (rB1 ty_3) ?_
      refine gp pB ?_
      refine sp pK ?_
      refine sp pMa ?_
      refine oNil ?_
      refine aCondDec rfl (fun c11 => ?_) (fun c11 => ?_)
      · skip
        refine aSeq ?_
        refine aWeak (weak_nil 5 1) ?_
        refine aReg ?_
        refine sp pMa ?_
        refine sp pMa ?_
        refine oNil ?_
        refine aRet ?_
        rw [read_arg (r.off (by simpa using c8)) (by rw [r.sn]; first | exact .inl (by assumption) | exact .inr (by omega))]
        exact ⟨_, _, [], rfl, tk_refl, none, 0, rfl, rfl⟩
      · skip
        refine aSkip ?_
        refine aSeq ?_
        refine aSeq ?_
        refine aReg ?_
        refine sp pM ?_
        refine sp pNv ?_
        refine sp (pFb fd_42_2) ?_
        refine sr (rB1 ty_40) ?_
        refine sp pM ?_
        refine sr (rCast (rLookOk rfl rfl rfl (by repeat constructor) mo_40 ze_35 rfl) (cast_look W i)) ?_
        refine sp pM ?_
        refine sp pX ?_
        refine sp pX ?_
        refine sp pMa ?_
        refine sp pMa ?_
        refine oNil ?_
        refine aSeq ?_
        refine aReg ?_
        refine sp pM ?_
        refine oNil ?_
        refine aCond rfl (fun c31 => ?_) (fun c31 => ?_)
        · skip
          refine aSeq ?_
          obtain ⟨b, hb⟩ := Option.isSome_iff_exists.1 c31
          have hbl := (r.wr i b hb).2.2
          have hbg : (bGet W i).getD [] = b := by rw [hb]; rfl
          rw [hbg]
          refine aReg ?_
          refine sp pM ?_
          refine sa ?_
          refine aCall rfl rfl (by decide) rfl rfl .nil (clone_bytes (b.map by1) (by1_ne hbl) by1_len (by rw [List.length_map]; omega)) ?_
          rintro _ _ ⟨g, c, rfl, rfl⟩
          refine sp pMa ?_
          refine sp pMa ?_
          refine oNil ?_
          refine aRet ?_
          have hrd : w.read i = (b, 0) := by
            rw [read_ok (r.off (by simpa using c8)) (by omega) (by rw [r.sn]; omega), r.geti (by omega) (by omega), hb]
            rfl
          rw [hrd]
          refine ⟨_, _ :: [_, _, _], [], rfl, tk_refl, g, c, ?_, rfl⟩
          simp [retOf]
        · skip
          refine aSkip ?_
          refine aSeq ?_
          refine aReg ?_
          refine sp pM ?_
          refine sp pM ?_
          refine sa ?_
          refine aCall rfl rfl (by decide) rfl rfl (.cons (by repeat constructor) (.cons (by repeat constructor) .nil)) (disk_firm _ _ i _ _ _ _ S (fun b hb => (r.sr i b hb).2.2)) ?_
          rintro _ _ ⟨g, c, rfl, rfl⟩
          refine sp pMa ?_
          refine sp pMa ?_
          refine oNil ?_
          refine aRet ?_
          have hrd : w.read i = ((bGet S i).getD zeros, 0) := by
            rw [read_ok (r.off (by simpa using c8)) (by omega) (by rw [r.sn]; omega), r.geti (by omega) (by omega)]
            cases h : bGet W i with
            | none => rfl
            | some b => rw [h] at c31; simp at c31
          rw [hrd]
          refine ⟨_, _ :: [_, _, _], [], rfl, tk_refl, g, c, ?_, rfl⟩
          simp [retOf, r.s512]
end A
end Go.Proofs.Ytnabkchagjjjnaa
set_option linter.unusedVariables false
set_option linter.unusedSimpArgs false
namespace Go.Proofs.Ytnabkchagjjjnaa
namespace A
theorem write_dead {w : DW} {i : Int} {b : BS} (h : w.dead = true) : w.write i b = (w, 7) := by simp [DW.write, h]
theorem write_arg {w : DW} {i : Int} {b : BS} (h : w.dead = false) (hi : i < 0 ∨ (w.safe.length : Int) ≤ i ∨ b.length ≠ 512) : w.write i b = (w, 1) := by
  rw [DW.write, if_neg (by simp [h]), if_pos hi]
theorem write_no {w : DW} {i : Int} {b : BS} (h : w.dead = false) (h0 : 0 ≤ i) (hi : i < (w.safe.length : Int)) (hb : b.length = 512) (ha : w.armed = 0) : w.write i b = (⟨w.safe, w.waits, w.armed, true⟩, 7) := by
  rw [DW.write, if_neg (by simp [h]), if_neg (by omega), if_neg (by simp [DW.act, ha])]
  simp [DW.act, ha]
theorem write_yes {w : DW} {i : Int} {b : BS} (h : w.dead = false) (h0 : 0 ≤ i) (hi : i < (w.safe.length : Int)) (hb : b.length = 512) (ha : w.armed ≠ 0) : w.write i b = (⟨w.safe, w.waits.set i.toNat b, if 0 < w.armed then w.armed - 1 else w.armed, false⟩, 0) := by
  rw [DW.write, if_neg (by simp [h]), if_neg (by omega), if_pos (by simp [DW.act, ha, h])]
  simp [DW.act, ha, h]
theorem Rel.putA {n : Nat} {S W : List (Int × BS)} {w : DW} (r : Rel n S W w) {i : Int} {b : BS} (h0 : 0 ≤ i) (hi : i < n) (hb : b.length = 512) : Rel n S (bPut W i b) ⟨w.safe, w.waits.set i.toNat b, if 0 < w.armed then w.armed - 1 else w.armed, false⟩ := by
  have := r.ar
  exact { r.put h0 hi hb with ar := by show (if 0 < w.armed then w.armed - 1 else w.armed) ≤ 9223372036854775807; split <;> omega }
theorem flush_no {w : DW} (h : w.dead = true ∨ w.armed = 0) : w.flush = (⟨w.safe, w.waits, w.act.1.armed, true⟩, 7) := by
  have hb : (w.dead || w.armed == 0) = true := by rcases h with h | h <;> simp [h]
  rw [DW.flush, if_neg (by simp only [DW.act, hb]; decide)]
  simp only [DW.act, hb]
theorem flush_yes {w : DW} (h : w.dead = false) (ha : w.armed ≠ 0) : w.flush = (⟨(List.range w.safe.length).map w.get, List.replicate w.safe.length [], if 0 < w.armed then w.armed - 1 else w.armed, false⟩, 0) := by
  have hb : (w.dead || w.armed == 0) = false := by simp [h, ha]
  rw [DW.flush, if_pos (by simp only [DW.act, hb]; decide)]
  simp [DW.act, h]
theorem act_arm0 {w : DW} (h : w.dead = true ∨ w.armed = 0) : w.act.1.armed = w.armed := by
  show (if 0 < w.armed ∧ w.dead = false then w.armed - 1 else w.armed) = w.armed
  rw [if_neg]
  rcases h with h | h
  · simp [h]
  · omega
/- disk.Disk).Write -/
def disk_Write_r8_T : Bool × List (List Nat × List Nat) := (true, [([], []), ([0], [0]), ([1], [1]), ([2], [2]), ([], []), ([], []), ([5], [5]), ([3, 4, 6, 6, 0, 1, 2, 3, 4, 5, 6], [3, 4, 6])])
def disk_Write_r8_B : List Nat := [0, 1, 3, 7, 0, 0, 32, 127]
theorem disk_Write_r8_t : Go.Proofs.YtnabkchagjjjnaaW.PrintLast.rtab .any (Go.Proofs.YtnabkchagjjjnaaW.PrintLast.opsOf Try.f16 8) = disk_Write_r8_T := by kernel_rfl
theorem disk_Write_r8_b : Go.Proofs.YtnabkchagjjjnaaW.PrintLast.waitsOk disk_Write_r8_T.2 disk_Write_r8_B = true := by kernel_rfl
set_option maxRecDepth 100000 in
set_option maxHeartbeats 1000000 in
theorem disk_Write (db bs bw n : Nat) (i : Int) (b : BS) (S W : List (Int × BS)) (w : DW) (r : Rel n S W w) : Triple Try.prog 16 [.v (.pointer (some ⟨db, 0, none⟩)), .int i, .sl 1 (b.map by1)] [.box db [.int n, .v (.map (some bs)), .v (.map (some bw)), .int w.armed, .v (.bool w.dead)], .map bs (kvA S), .map bw (kvA W)] (fun q h' => q = .int (w.write i b).2 ∧ ∃ W', Rel n S W' (w.write i b).1 ∧ h' = [.box db [.int n, .v (.map (some bs)), .v (.map (some bw)), .int (w.write i b).1.armed, .v (.bool (w.write i b).1.dead)], .map bs (kvA S), .map bw (kvA W')]) := by
  refine triple_of Try.func16 rfl (by kernel_rfl) rfl (by simp) ?_
  refine aSeq ?_
  refine aReg ?_
  refine sp pMa ?_
  refine oNil ?_
  refine aSeq ?_
  refine aBlock ?_
  refine aSeq ?_
  refine aReg ?_
  refine sp pM ?_
  refine sa ?_
  refine aCall rfl rfl (by decide) rfl rfl (.cons (by repeat constructor) .nil) (disk_off _ _ _ _ _ _) ?_
  rintro _ _ ⟨rfl, rfl⟩
  refine sp pMa ?_
  refine oNil ?_
  refine aCond rfl (fun c8 => ?_) (fun c8 => ?_)
  · skip
    refine aSeq ?_
    refine aReg ?_
    refine sp pMa ?_
    refine oNil ?_
    refine aRet ?_
    rw [write_dead (r.off c8)]
    exact ⟨_, [_, _, _], [], rfl, tk_refl, rfl, W, r, rfl⟩
  · skip
    refine aSeq ?_
    refine aReg ?_
    refine sp pM ?_
    refine sp pB ?_
    refine sp pM ?_
    refine oSplitDec 14 rfl (fun c14 => ?_) (fun c14 => ?_)
    · skip
      refine gf ?_
      refine gf ?_
      refine gf ?_
      refine gf ?_
      refine gf ?_
      refine gf ?_
      refine sp pK ?_
      refine sp pM ?_
      refine gf ?_
      refine gf ?_
      refine gf ?_
      refine sp pK ?_
      refine sp pMa ?_
      refine oNil ?_
      refine aCondT rfl ?_
      refine aSeq ?_
      refine aReg ?_
      refine sp pMa ?_
      refine oNil ?_
      refine aRet ?_
      rw [write_arg (r.off (d := false) (by simpa using c8)) (by rw [r.sn]; first | exact .inl (by assumption) | exact .inr (.inl (by omega)) | exact .inr (.inr (by omega)))]
      exact ⟨_, [_, _, _], [], rfl, tk_refl, rfl, W, r, rfl⟩
    · skip
      refine gp pM ?_
      refine gp pM ?_
      refine gp pNv ?_
      refine gp (pFb fd_42_0) ?_
      refine gr (rB1 ty_3) ?_
      refine gp pB ?_
      refine sp pK ?_
      refine sp pM ?_
      refine oSplitDec 22 rfl (fun c22 => ?_) (fun c22 => ?_)
      · skip
        refine gf ?_
        refine gf ?_
        refine gf ?_
        refine sp pK ?_
        refine sp pMa ?_
        refine oNil ?_
        refine aCondT rfl ?_
        refine aSeq ?_
        refine aReg ?_
        refine sp pMa ?_
        refine oNil ?_
        refine aRet ?_
        rw [write_arg (r.off (d := false) (by simpa using c8)) (by rw [r.sn]; first | exact .inl (by assumption) | exact .inr (.inl (by omega)) | exact .inr (.inr (by omega)))]
        exact ⟨_, [_, _, _], [], rfl, tk_refl, rfl, W, r, rfl⟩
      · skip
        refine gp pM ?_
        refine gp (by first | exact pLm sl_35 | exact pLs sl_35) ?_
        refine gp pB ?_
        refine sp pK ?_
        refine sp pMa ?_
        refine oNil ?_
        refine aCondNe rfl (fun c11 => ?_) (fun c11 => ?_)
        · skip
          refine aSeq ?_
          refine aReg ?_
          refine sp pMa ?_
          refine oNil ?_
          refine aRet ?_
          rw [write_arg (r.off (d := false) (by simpa using c8)) (by rw [r.sn]; first | exact .inl (by assumption) | exact .inr (.inl (by omega)) | exact .inr (.inr (by omega)))]
          exact ⟨_, [_, _, _], [], rfl, tk_refl, rfl, W, r, rfl⟩
        · skip
          refine aSkip ?_
          refine aSeq ?_
          refine aSeq ?_
          have hbl : b.length = 512 := by omega
          have hd := r.off (d := false) (by simpa using c8)
          refine aReg ?_
          refine sp pM ?_
          refine sa ?_
          refine aCall rfl rfl (by decide) rfl rfl (.cons (by repeat constructor) .nil) (disk_act _ _ _ _ _ _ r.ar) ?_
          rintro _ _ ⟨rfl, rfl⟩
          refine sp pMa ?_
          refine oNil ?_
          refine aSeq ?_
          refine aReg ?_
          refine sp pM ?_
          refine sp pB ?_
          refine oNil ?_
          refine aCondNe rfl (fun c30 => ?_) (fun c30 => ?_)
          · skip
            refine aSeq ?_
            refine aReg ?_
            refine sp pM ?_
            refine sp pMa ?_
            refine oNil ?_
            refine aRet ?_
            have ha : w.armed = 0 := by rcases Int.lt_trichotomy w.armed 0 with h | h | h <;> simp_all <;> omega
            rw [write_no hd (by omega) (by rw [r.sn]; omega) hbl ha]
            refine ⟨_, [_, _, _], [], rfl, tk_refl, ?_, W, { r with }, ?_⟩
            · simp [retOf, ha]
            · simp [ha]
          · skip
            refine aSkip ?_
            refine aSeq ?_
            refine aDrawT disk_Write_r8_t disk_Write_r8_b [7] 8 #[false, false, false, false, false, false, false, false] (by kernel_rfl) rfl rfl (fun HT => ?_)
            refine dp HT 0 rfl pM ?_
            refine dp HT 1 rfl pNv ?_
            refine dp HT 2 rfl (pFb fd_42_2) ?_
            refine dr HT 3 rfl (rB1 ty_40) ?_
            refine dp HT 4 rfl pM ?_
            refine dp HT 5 rfl pM ?_
            refine dGo ?_
            refine e1 HT 6 rfl ?_
            refine qCall0 rfl rfl (by decide) rfl rfl (clone_bytes (b.map by1) (by1_ne hbl) by1_len (by rw [List.length_map]; omega)) ?_
            rintro _ _ ⟨g, c, rfl, rfl⟩
            first | refine fWeak (weak_settle (k := 38) rfl .hd (by simp)) ?_ | skip
            refine eLast ?_
            first | refine fWeak (weak_settle (k := 38) rfl .hd (by simp)) ?_ | skip
            refine f1 HT 7 rfl ?_
            refine oMapSet rfl rfl rfl rfl rfl (by repeat constructor) mo_40 ?_
            refine fE HT ?_
            clear HT
            refine aSeq ?_
            refine aReg ?_
            refine sp pMa ?_
            refine oNil ?_
            refine aRet ?_
            have ha : w.armed ≠ 0 := fun h => by simp [h] at c30
            rw [write_yes hd (by omega) (by rw [r.sn]; omega) hbl ha]
            refine ⟨_, [_, _, _], [], rfl, .cons (.tl .hd) (.cons (.tl .hd) (.cons .hd .nil)), rfl, bPut W i b, r.putA (by omega) (by omega) hbl, ?_⟩
            dsimp only
            rw [← kvA_put, hd, if_neg ha]
            rfl
def keyW (W : List (Int × BS)) (i : Nat) : Int := (W.getD i (0, [])).1
theorem keyW_get {W : List (Int × BS)} {i : Nat} {k : Int} {b : BS} (h : W[i]? = some (k, b)) : keyW W i = k := by simp [keyW, List.getD, h]
theorem copy_step {S W T : List (Int × BS)} {idx : List Nat} {i : Nat} {k : Int} {b : BS} (wk : (W.map Prod.fst).Nodup) (h : W[i]? = some (k, b)) (hT : ∀ q, bGet T q = if q ∈ idx.map (keyW W) then bGet W q else bGet S q) (q : Int) :
    bGet (bPut T k b) q = if q ∈ (idx ++ [i]).map (keyW W) then bGet W q else bGet S q := by
  rw [bGet_put, hT, List.map_append, List.map_singleton, keyW_get h]
  by_cases hq : q = k
  · subst hq
    rw [if_pos rfl, if_pos (by simp), bGet_at wk h]
  · rw [if_neg hq]
    have : (q ∈ idx.map (keyW W) ++ [k]) ↔ q ∈ idx.map (keyW W) := by simp [hq]
    simp only [this]
theorem copy_end {S W T : List (Int × BS)} {idx : List Nat} (hix : Idx W.length idx) (hall : ∀ i, i < W.length → i ∈ idx) (hT : ∀ q, bGet T q = if q ∈ idx.map (keyW W) then bGet W q else bGet S q) (q : Int) : bGet T q = (bGet W q).or (bGet S q) := by
  rw [hT]
  cases h : bGet W q with
  | some b =>
    have hm := bGet_mem.1 (by rw [h]; rfl : (bGet W q).isSome = true)
    obtain ⟨i, hi⟩ := List.mem_iff_getElem?.1 hm
    rw [List.getElem?_map, Option.map_eq_some_iff] at hi
    obtain ⟨⟨k, c⟩, h1, h2⟩ := hi
    have hkq : k = q := h2
    subst hkq
    rw [if_pos]
    · rfl
    · exact List.mem_map.2 ⟨i, hall i (List.getElem?_eq_some_iff.1 h1).1, keyW_get h1⟩
  | none =>
    split
    · rename_i hm
      obtain ⟨i, hi, hk⟩ := List.mem_map.1 hm
      have hil := hix.2 i hi
      have : q ∈ W.map Prod.fst := List.mem_map.2 ⟨W[i], List.getElem_mem hil, by rw [← hk]; simp [keyW, List.getD, hil]⟩
      rw [← bGet_mem, h] at this
      cases this
    · simp
/- maps.Copy[map[int][]byte,map[int][]byte,int,[]byte] -/
set_option maxRecDepth 100000 in
set_option maxHeartbeats 400000 in
theorem maps_Copy (bs bw : Nat) (S W : List (Int × BS)) (sk : (S.map Prod.fst).Nodup) (wk : (W.map Prod.fst).Nodup) : Triple Try.prog 42 [.v (.map (some bs)), .v (.map (some bw))] [.map bs (kvA S), .map bw (kvA W)] (fun q h' => q = .tup [] ∧ ∃ T, h' = [.map bs (kvA T), .map bw (kvA W)] ∧ (T.map Prod.fst).Nodup ∧ ∀ k, bGet T k = (bGet W k).or (bGet S k)) := by
  refine triple_of Try.func42 rfl (by kernel_rfl) rfl (by simp) ?_
  refine aSeq ?_
  refine aReg ?_
  refine sp pM ?_
  refine sa ?_
  refine oRange rfl rfl (by decide) rfl (by repeat constructor) um_40 (fun r7 => ?_)
  refine oNil ?_
  refine aBlock ?_
  refine aLoopI (α := List Nat × List (Int × BS)) (fun (idx, T) => Idx W.length idx ∧ (T.map Prod.fst).Nodup ∧ ∀ q, bGet T q = if q ∈ idx.map (keyW W) then bGet W q else bGet S q) (fun (idx, T) => ([(0, .v (.map (some bs))), (7, .v (.pointer (some ⟨r7, 0, none⟩)))], [.mapIt bw r7 (kvA W) idx, .map bs (kvA T)])) (fun (idx, T) => W.length - idx.length) ([], S) ?_ ?_ ?_
  · skip
    exact ⟨Idx.nil, sk, fun q => by simp⟩
  · skip
    exact weak_sub ⟨rfl, rfl, trivial⟩ (.cons .hd (.cons .hd .nil))
  · rintro ⟨idx, T⟩ ⟨hix, hTn, hT⟩
    skip
    refine aSeq ?_
    refine aReg ?_
    refine sa ?_
    refine oNextR rfl rfl (by decide) rfl (by repeat constructor) (fun t8 ks8 ix8 hn8 => ?_)
    refine sp pX ?_
    refine oNil ?_
    refine aSeq ?_
    refine aCond rfl (fun c9 => ?_) (fun c9 => ?_)
    · skip
      refine aSkip ?_
      refine aBlock ?_
      refine aSeq ?_
      refine aReg ?_
      obtain ⟨i, ⟨k, v⟩, hkv, hni, rfl, rfl⟩ := hn8.yes c9
      obtain ⟨b, hkb, hvb⟩ := kvA_at hkv
      replace hvb : v = bsA b := hvb
      subst hvb
      refine sr (rEntry rfl rfl (by repeat constructor) hkv) ?_
      refine sp pX ?_
      refine sp pX ?_
      refine sp pMa ?_
      refine sp pMa ?_
      refine oNil ?_
      refine aReg ?_
      refine sp pM ?_
      refine sp pM ?_
      refine sp pM ?_
      refine sa ?_
      refine oMapSet rfl rfl rfl rfl rfl (by repeat constructor) mo_40 ?_
      refine oNil ?_
      have hil := (List.getElem?_eq_some_iff.1 hkb).1
      have hlt := hix.lt hil hni
      refine ⟨(idx ++ [i], bPut T k b), ⟨hix.add hil hni, bPut_nodup hTn, copy_step wk hkb hT⟩, by show W.length - (idx ++ [i]).length < W.length - idx.length; simp only [List.length_append, List.length_cons, List.length_nil]; omega, ?_⟩
      dsimp only
      rw [← kvA_put]
      exact weak_sub ⟨rfl, rfl, trivial⟩ (.cons (.tl .hd) (.cons .hd .nil))
    · skip
      obtain ⟨rfl, rfl, hall⟩ := hn8.no c9
      refine aWeak (weak_unmap .hd) ?_
      refine aExit rfl ?_
      exact ⟨_, [_, _], [], rfl, .cons (.tl .hd) (.cons .hd .nil), rfl, T, rfl, hTn, copy_end hix (fun i hi => hall i (by rw [kvA_len]; exact hi)) hT⟩
/- disk.Disk).Flush -/
def disk_Flush_r6_T : Bool × List (List Nat × List Nat) := (true, [([], []), ([0], [0]), ([1], [1]), ([2], [2]), ([], []), ([4], [4]), ([5], [5]), ([6], [6]), ([3, 7], [3, 7])])
def disk_Flush_r6_B : List Nat := [0, 1, 3, 7, 0, 16, 48, 112, 255]
theorem disk_Flush_r6_t : Go.Proofs.YtnabkchagjjjnaaW.PrintLast.rtab .any (Go.Proofs.YtnabkchagjjjnaaW.PrintLast.opsOf Try.f18 6) = disk_Flush_r6_T := by kernel_rfl
theorem disk_Flush_r6_b : Go.Proofs.YtnabkchagjjjnaaW.PrintLast.waitsOk disk_Flush_r6_T.2 disk_Flush_r6_B = true := by kernel_rfl
set_option maxRecDepth 100000 in
set_option maxHeartbeats 1000000 in
theorem disk_Flush (db bs bw n : Nat) (S W : List (Int × BS)) (w : DW) (r : Rel n S W w) : Triple Try.prog 18 [.v (.pointer (some ⟨db, 0, none⟩))] [.box db [.int n, .v (.map (some bs)), .v (.map (some bw)), .int w.armed, .v (.bool w.dead)], .map bs (kvA S), .map bw (kvA W)] (fun q h' => q = .int w.flush.2 ∧ ∃ S' W', Rel n S' W' w.flush.1 ∧ h' = [.box db [.int n, .v (.map (some bs)), .v (.map (some bw)), .int w.flush.1.armed, .v (.bool w.flush.1.dead)], .map bs (kvA S'), .map bw (kvA W')]) := by
  refine triple_of Try.func18 rfl (by kernel_rfl) rfl (by simp) ?_
  refine aSeq ?_
  refine aReg ?_
  refine sp pMa ?_
  refine oNil ?_
  refine aSeq ?_
  refine aSeq ?_
  refine aReg ?_
  refine sp pM ?_
  refine sa ?_
  refine aCall rfl rfl (by decide) rfl rfl (.cons (by repeat constructor) .nil) (disk_off _ _ _ _ _ _) ?_
  rintro _ _ ⟨rfl, rfl⟩
  refine oNil ?_
  refine aCond rfl (fun c5 => ?_) (fun c5 => ?_)
  · skip
    refine aSeq ?_
    refine aReg ?_
    refine sp pMa ?_
    refine oNil ?_
    refine aRet ?_
    have hd := r.off c5
    rw [flush_no (.inl hd), act_arm0 (.inl hd)]
    exact ⟨_, [_, _, _], [], rfl, tk_refl, rfl, S, W, { r with }, by rw [hd]⟩
  · skip
    refine aSkip ?_
    refine aSeq ?_
    refine aSeq ?_
    have hd := r.off (d := false) (by simpa using c5)
    refine aReg ?_
    refine sp pM ?_
    refine sa ?_
    refine aCall rfl rfl (by decide) rfl rfl (.cons (by repeat constructor) .nil) (disk_act _ _ _ _ _ _ r.ar) ?_
    rintro _ _ ⟨rfl, rfl⟩
    refine sp pMa ?_
    refine oNil ?_
    refine aSeq ?_
    refine aReg ?_
    refine sp pM ?_
    refine sp pB ?_
    refine oNil ?_
    refine aCondNe rfl (fun c9 => ?_) (fun c9 => ?_)
    · skip
      refine aSeq ?_
      refine aReg ?_
      refine sp pM ?_
      refine sp pMa ?_
      refine oNil ?_
      refine aRet ?_
      have ha : w.armed = 0 := by rcases Int.lt_trichotomy w.armed 0 with h | h | h <;> simp_all <;> omega
      rw [flush_no (.inr ha), act_arm0 (.inr ha)]
      refine ⟨_, [_, _, _], [], rfl, tk_refl, ?_, S, W, { r with }, ?_⟩
      · simp [retOf, ha]
      · simp [ha]
    · skip
      refine aSkip ?_
      refine aSeq ?_
      refine aDrawT disk_Flush_r6_t disk_Flush_r6_b [8] 9 #[false, false, false, false, false, false, false, false, false] (by kernel_rfl) rfl rfl (fun HT => ?_)
      refine dp HT 0 rfl pM ?_
      refine dp HT 1 rfl pNv ?_
      refine dp HT 2 rfl (pFb fd_42_1) ?_
      refine dr HT 3 rfl (rB1 ty_40) ?_
      refine dp HT 4 rfl pM ?_
      refine dp HT 5 rfl pNv ?_
      refine dp HT 6 rfl (pFb fd_42_2) ?_
      refine dr HT 7 rfl (rB1 ty_40) ?_
      refine dGo ?_
      refine eLast ?_
      refine f1 HT 8 rfl ?_
      refine aCall rfl rfl (by decide) rfl rfl (.cons (by repeat constructor) (.cons (by repeat constructor) .nil)) (maps_Copy bs bw S W r.sk r.wk) ?_
      rintro _ _ ⟨rfl, T, rfl, hTn, hT⟩
      refine fE HT ?_
      clear HT
      refine aSeq ?_
      refine aReg ?_
      refine sp pM ?_
      refine sp pNv ?_
      refine sp (pFb fd_42_2) ?_
      refine sr (rB1 ty_40) ?_
      refine sa ?_
      refine oClearM rfl rfl rfl (by repeat constructor) mo_40 ?_
      refine oNil ?_
      refine aSeq ?_
      refine aReg ?_
      refine sp pMa ?_
      refine oNil ?_
      refine aRet ?_
      have ha : w.armed ≠ 0 := fun h => by simp [h] at c9
      have har := r.ar
      rw [flush_yes hd ha]
      refine ⟨_, [_, _, _], [], rfl, .cons (.tl (.tl .hd)) (.cons (.tl .hd) (.cons .hd .nil)), rfl, T, [], r.flushed hTn hT _ (by split <;> omega), ?_⟩
      dsimp only
      rw [hd, if_neg ha]
      rfl
/- disk.Disk).Waits -/
set_option maxRecDepth 100000 in
set_option maxHeartbeats 400000 in
theorem disk_Waits (db bs bw n : Nat) (S W : List (Int × BS)) (w : DW) (r : Rel n S W w) : Triple Try.prog 20 [.v (.pointer (some ⟨db, 0, none⟩))] [.box db [.int n, .v (.map (some bs)), .v (.map (some bw)), .int w.armed, .v (.bool w.dead)], .map bs (kvA S), .map bw (kvA W)] (fun q h' => ∃ g c, q = .v (slV g w.waiting.length c) ∧ h' = .sl g c 3 1 ((w.waiting.map (fun i : Nat => (i : Int))).map intA) :: [.box db [.int n, .v (.map (some bs)), .v (.map (some bw)), .int w.armed, .v (.bool w.dead)], .map bs (kvA S), .map bw (kvA W)]) := by
  refine triple_of Try.func20 rfl (by kernel_rfl) rfl (by simp) ?_
  refine aSeq ?_
  refine aReg ?_
  refine sp pMa ?_
  refine oNil ?_
  refine aSeq ?_
  refine aSeq ?_
  refine aReg ?_
  refine sp pM ?_
  refine sp (by first | exact pPtrNil rfl (.inl rfl) rfl pt_25 rfl (rfl : _ = false) | exact pSpNil rfl (.inl rfl) rfl pt_25 (rfl : _ = false)) ?_
  refine oNil ?_
  refine aCondF rfl ?_
  refine aSkip ?_
  refine aSeq ?_
  refine aReg ?_
  refine sp pM ?_
  refine sp pNv ?_
  refine sp (pFb fd_42_2) ?_
  refine sr (rB1 ty_40) ?_
  refine sa ?_
  refine aCall rfl rfl (by decide) rfl rfl .nil (keys_mib bw) ?_
  rintro _ _ ⟨pb, rfl, rfl⟩
  refine sa ?_
  refine aCall rfl rfl (by decide) rfl rfl (.cons .hd (.cons (.tl (.tl .hd)) .nil)) (sorted_int _ _ (kvA W) _ (keys1_mib_iter bw pb (kvA W)) (by have := r.wlen; have := r.n2; rw [kvA_len]; omega)) ?_
  rintro _ _ ⟨g, c, rfl, rfl⟩
  rw [kvA_keys, r.waiting]
  refine sp pMa ?_
  refine oNil ?_
  refine aRet ?_
  refine ⟨_, _ :: [_, _, _], [_], rfl, .cons .hd (.cons (.tl (.tl .hd)) (.cons (.tl (.tl .hd)) (.cons (.tl .hd) .nil))), g, c, ?_, rfl⟩
  simp [retOf]
end A
end Go.Proofs.Ytnabkchagjjjnaa
set_option linter.unusedVariables false
set_option linter.unusedSimpArgs false
namespace Go.Proofs.Ytnabkchagjjjnaa
namespace A
theorem es_36 : elemSize Try.prog 36 = some 2 := by kernel_rfl
theorem es_51 : elemSize Try.prog 51 = some 1 := by kernel_rfl
theorem fd_68_0 : fieldOf Try.prog 68 0 = some (0, 1, false) := by kernel_rfl
theorem fd_68_1 : fieldOf Try.prog 68 1 = some (1, 1, false) := by kernel_rfl
theorem sl_36 : isSl Try.prog 36 = true := by kernel_rfl
theorem ty_35 : tyOf Try.prog 35 = some (1, false) := by kernel_rfl
theorem map_get1 {α : Type} {f : α → List AV} {l : List α} {i : Nat} {a : α} (h : l[i]? = some a) : (l.map f)[i]? = some (f a) := by rw [List.getElem?_map, h]; rfl
theorem torn_map (b o : BS) : (b.map by1).take (o.map by1).length ++ (o.map by1).drop (b.map by1).length = (torn b o).map by1 := by simp [torn, List.map_take, List.map_drop]
def crashK (w : DW) (l : List DTear) (k : Nat) : List BS := ((w.waiting.zip l).take k).foldl (crash1 w) w.safe
theorem crashK_step {w : DW} {l : List DTear} {k i : Nat} {t : DTear} (hi : w.waiting[k]? = some i) (ht : l[k]? = some t) : crashK w l (k + 1) = crash1 w (crashK w l k) (i, t) := by
  have hz : (w.waiting.zip l)[k]? = some (i, t) := by rw [List.getElem?_zip_eq_some]; exact ⟨hi, ht⟩
  unfold crashK
  rw [List.take_add_one, hz]
  simp [List.foldl_append]
theorem crashK_all {w : DW} {l : List DTear} {k : Nat} (h : w.waiting.length ≤ k ∨ l.length ≤ k) : crashK w l k = (w.waiting.zip l).foldl (crash1 w) w.safe := by
  unfold crashK
  rw [List.take_of_length_le]
  rw [List.length_zip]
  omega
theorem waiting_lt {w : DW} {k i : Nat} (h : w.waiting[k]? = some i) : i < w.waits.length ∧ 0 < (w.waits.getD i []).length := by
  have hm := List.mem_of_getElem? h
  unfold DW.waiting at hm
  simpa using hm
theorem Rel.wl {n : Nat} {S W : List (Int × BS)} {w : DW} (r : Rel n S W w) : w.waiting.length ≤ 1024 := by
  have h1 : w.waiting.length ≤ (List.range w.waits.length).length := List.length_filter_le _ _
  rw [List.length_range, r.wn] at h1
  have := r.n2
  omega
theorem waiting_ne {w : DW} {k j i q : Nat} (hk : w.waiting[k]? = some i) (hj : w.waiting[j]? = some q) (hkj : k < j) : q ≠ i := by
  have hp : w.waiting.Pairwise (· < ·) := List.pairwise_lt_range.filter _
  rw [List.pairwise_iff_getElem] at hp
  have h1 := (List.getElem?_eq_some_iff.1 hk).1
  have h2 := (List.getElem?_eq_some_iff.1 hj).1
  have := hp k j h1 h2 hkj
  rw [List.getElem?_eq_getElem h1] at hk
  rw [List.getElem?_eq_getElem h2] at hj
  cases hk; cases hj
  omega
/-- What the maps are behind k of those that waited. -/
structure Mid (n : Nat) (S W T : List (Int × BS)) (w : DW) (l : List DTear) (k : Nat) : Prop where
  kw : k ≤ w.waiting.length
  kl : k ≤ l.length
  rel : Rel n T W { w with safe := crashK w l k }
  rest : ∀ j i, k ≤ j → w.waiting[j]? = some i → bGet T i = bGet S i
theorem mid0 {n : Nat} {S W : List (Int × BS)} {w : DW} (r : Rel n S W w) (l : List DTear) : Mid n S W S w l 0 := ⟨Nat.zero_le _, Nat.zero_le _, r, fun j i _ _ => rfl⟩
theorem Mid.next {n : Nat} {S W T : List (Int × BS)} {w : DW} {l : List DTear} {k i : Nat} {t : DTear} (m : Mid n S W T w l k) (r : Rel n S W w) (hi : w.waiting[k]? = some i) (ht : l[k]? = some t) :
    Mid n S W (if t.kind = 1 then bPut T i ((bGet W i).getD []) else if t.kind = 2 then bPut T i (torn t.b ((bGet T i).getD zeros)) else T) w l (k + 1) := by
  obtain ⟨h1, h2⟩ := waiting_lt hi
  refine ⟨(List.getElem?_eq_some_iff.1 hi).1, (List.getElem?_eq_some_iff.1 ht).1, ?_, fun j q hj hq => ?_⟩
  · rw [crashK_step hi ht]
    exact r.crash1 m.rel (by rw [← r.wn]; exact h1) h2 (m.rest k i (Nat.le_refl _) hi) t
  · have hne := waiting_ne hi hq (by omega)
    have hne2 : ¬ ((q : Int) = (i : Int)) := by omega
    have := m.rest j q (by omega) hq
    split
    · rw [bGet_put, if_neg hne2]; exact this
    · split
      · rw [bGet_put, if_neg hne2]; exact this
      · exact this
theorem Mid.done {n : Nat} {S W T : List (Int × BS)} {w : DW} {l : List DTear} {k : Nat} (m : Mid n S W T w l k) (r : Rel n S W w) (h : w.waiting.length ≤ k ∨ l.length ≤ k) : Rel n T [] (w.crash l) := by
  have := m.rel.crashed
  rw [crashK_all h] at this
  unfold DW.crash
  rw [r.sn]
  exact this
abbrev waitA (w : DW) : AV := .sl 1 ((w.waiting.map (fun i : Nat => (i : Int))).map intA)
theorem waitA_get {w : DW} {k i : Nat} (h : w.waiting[k]? = some i) : ((w.waiting.map (fun i : Nat => (i : Int))).map intA)[k]? = some [.int (i : Int)] := by simp [h, intA]
theorem waitA_len (w : DW) : ((w.waiting.map (fun i : Nat => (i : Int))).map intA).length = w.waiting.length := by simp
theorem cast_look1 (S : List (Int × BS)) (k : Int) : Cast ((kvGet (kvA S) k).getD (.v (.slice none 0 0))) (bsA ((bGet S k).getD [])) := by
  rw [kvA_get]
  cases h : bGet S k with
  | some b => exact Cast.refl
  | none => exact cast_nil
/- disk.Disk).Crash -/
def disk_Crash_r7_T : Bool × List (List Nat × List Nat) := (true, [([], []), ([0], [0]), ([1], [1]), ([2], [2]), ([], []), ([], []), ([5], [5]), ([6], [6]), ([7], [7]), ([], []), ([8, 9], [8, 9]), ([3, 4, 10, 0, 1, 2, 3, 4, 5, 6, 7, 8, 9, 10], [3, 4, 10])])
def disk_Crash_r7_B : List Nat := [0, 1, 3, 7, 0, 0, 32, 96, 224, 0, 992, 2047]
theorem disk_Crash_r7_t : Go.Proofs.YtnabkchagjjjnaaW.PrintLast.rtab .any (Go.Proofs.YtnabkchagjjjnaaW.PrintLast.opsOf Try.f13 7) = disk_Crash_r7_T := by kernel_rfl
theorem disk_Crash_r7_b : Go.Proofs.YtnabkchagjjjnaaW.PrintLast.waitsOk disk_Crash_r7_T.2 disk_Crash_r7_B = true := by kernel_rfl
set_option maxRecDepth 100000 in
set_option maxHeartbeats 2000000 in
theorem disk_Crash (db bs bw n : Nat) (S W : List (Int × BS)) (w : DW) (r : Rel n S W w) (l : List DTear) : Triple Try.prog 13 [.v (.pointer (some ⟨db, 0, none⟩)), .sl 2 (l.map tearC)] [.box db [.int n, .v (.map (some bs)), .v (.map (some bw)), .int w.armed, .v (.bool w.dead)], .map bs (kvA S), .map bw (kvA W)] (fun q h' => q = .tup [] ∧ ∃ S', Rel n S' [] (w.crash l) ∧ h' = [.box db [.int n, .v (.map (some bs)), .v (.map (some bw)), .int (w.crash l).armed, .v (.bool (w.crash l).dead)], .map bs (kvA S'), .map bw (kvA [])]) := by
  have hwl := r.wl
  refine triple_of Try.func13 rfl (by kernel_rfl) rfl (by simp) ?_
  refine aSeq ?_
  refine aSeq ?_
  refine aReg ?_
  refine sp pM ?_
  refine sp (by first | exact pPtrNil rfl (.inl rfl) rfl pt_25 rfl (rfl : _ = false) | exact pSpNil rfl (.inl rfl) rfl pt_25 (rfl : _ = false)) ?_
  refine sp pM ?_
  refine gp pM ?_
  refine gp pNv ?_
  refine gp (pFb fd_42_0) ?_
  refine gr (rB1 ty_3) ?_
  refine gp (pBin rfl rfl rfl rfl (by have := r.n1; rw [show ((n : Int) == 0) = false by simp; omega] : _ = Value.bool false)) ?_
  refine sp pK ?_
  refine oNil ?_
  refine aCondF rfl ?_
  refine aSkip ?_
  refine aSeq ?_
  refine aSeq ?_
  refine aReg ?_
  refine sp pM ?_
  refine sa ?_
  refine aCall rfl rfl (by decide) rfl rfl tk_refl (disk_Waits db bs bw n S W w r) ?_
  rintro _ _ ⟨g17, c17, rfl, rfl⟩
  refine oWeak (weak_settle (k := 17) rfl .hd (waitA_len w).symm) ?_
  refine sp (pLenS' (pLenS rfl rfl sl_51) (waitA_len w)) ?_
  refine sp pM ?_
  refine oNil ?_
  refine aBlock ?_
  refine aLoopI (α := Nat × List (Int × BS)) (fun (k, T) => Mid n S W T w l k) (fun (k, T) => ([(0, .v (.pointer (some ⟨db, 0, none⟩))), (1, .sl 2 (l.map tearC)), (17, waitA w), (18, .int w.waiting.length), (19, .int k)], [.box db [.int n, .v (.map (some bs)), .v (.map (some bw)), .int w.armed, .v (.bool w.dead)], .map bs (kvA T), .map bw (kvA W)])) (fun (k, T) => w.waiting.length - k) (0, S) ?_ ?_ ?_
  · skip
    exact mid0 r l
  · skip
    exact weak_sub ⟨rfl, rfl, rfl, rfl, rfl, trivial⟩ tk_refl
  · rintro ⟨k, T⟩ m
    skip
    refine aSeq ?_
    refine aReg ?_
    refine sp pB ?_
    refine oNil ?_
    refine aSeq ?_
    refine aCondDec rfl (fun c20 => ?_) (fun c20 => ?_)
    · skip
      refine aSkip ?_
      refine aSeq ?_
      refine aBlock ?_
      refine aSeq ?_
      refine aReg ?_
      refine sp pM ?_
      obtain ⟨i, hi⟩ : ∃ i, w.waiting[k]? = some i := ⟨_, List.getElem?_eq_getElem (by omega)⟩
      refine sp (pIdxS rfl rfl rfl es_51 (by omega) (waitA_get hi)) ?_
      refine sr (by first | exact rS1 ty_3 | exact rB1 ty_3 | exact rAr ty_3 | exact rArL ty_3 | exact rArR2 ty_3) ?_
      refine sp pMa ?_
      refine sp pMa ?_
      refine oNil ?_
      refine aSeq ?_
      refine aSeq ?_
      refine aReg ?_
      refine sp pM ?_
      refine sp pM ?_
      refine sp (by first | exact pLm sl_36 | exact pLs sl_36 | exact pLv sl_36) ?_
      refine sp pB ?_
      refine oNil ?_
      refine aCondDec rfl (fun c27 => ?_) (fun c27 => ?_)
      · skip
        refine aExit rfl ?_
        refine aSeq ?_
        refine aReg ?_
        refine sp pM ?_
        refine sp (by first | exact pNv | exact pNs) ?_
        refine sp (by first | exact pFb fd_42_2 | exact pFs fd_42_2) ?_
        refine sr (by first | exact rS1 ty_40 | exact rB1 ty_40 | exact rAr ty_40 | exact rArL ty_40 | exact rArR2 ty_40) ?_
        refine sa ?_
        refine oClearM rfl rfl rfl (by repeat constructor) mo_40 ?_
        refine oNil ?_
        refine aReg ?_
        refine sp pM ?_
        refine sp pM ?_
        refine sp (by first | exact pNv | exact pNs) ?_
        refine sp (by first | exact pFb fd_42_4 | exact pFs fd_42_4) ?_
        refine sa ?_
        refine oStB rfl rfl rfl rfl (by repeat constructor) ty_4 rfl (Nat.le_of_ble_eq_true rfl) rfl ?_
        refine sp (by first | exact pNv | exact pNs) ?_
        refine sp (by first | exact pFb fd_42_3 | exact pFs fd_42_3) ?_
        refine sa ?_
        refine oStB rfl rfl rfl rfl (by repeat constructor) ty_3 rfl (Nat.le_of_ble_eq_true rfl) rfl ?_
        refine oNil ?_
        have hdn := m.done r (by first | exact .inl (by omega) | exact .inr (by omega))
        refine ⟨_, [_, _, _], [], rfl, .cons .hd (.cons (.tl .hd) (.cons .hd .nil)), rfl, T, hdn, rfl⟩
      · skip
        refine aSkip ?_
        refine aSeq ?_
        refine aReg ?_
        refine sp pM ?_
        refine sp pM ?_
        obtain ⟨t, ht⟩ : ∃ t, l[k]? = some t := ⟨_, List.getElem?_eq_getElem (by omega)⟩
        refine sp (pIdxS rfl rfl rfl es_36 (by omega) (map_get1 (f := tearC) ht)) ?_
        refine sp (by first | exact pFb fd_68_0 | exact pFs fd_68_0) ?_
        refine sr (by first | exact rS1 ty_3 | exact rB1 ty_3 | exact rAr ty_3 | exact rArL ty_3 | exact rArR2 ty_3) ?_
        refine oNil ?_
        refine aBlock ?_
        refine aSeq ?_
        refine aReg ?_
        refine sp pB ?_
        refine sp pMa ?_
        refine oNil ?_
        refine aCondEq rfl (fun c33 => ?_) (fun c33 => ?_)
        · skip
          refine aDrawT disk_Crash_r7_t disk_Crash_r7_b [11] 12 #[false, false, false, false, false, false, false, false, false, false, false, false] (by kernel_rfl) rfl rfl (fun HT => ?_)
          refine dp HT 0 rfl pM ?_
          refine dp HT 1 rfl (by first | exact pNv | exact pNs) ?_
          refine dp HT 2 rfl (by first | exact pFb fd_42_1 | exact pFs fd_42_1) ?_
          refine dr HT 3 rfl (by first | exact rS1 ty_40 | exact rB1 ty_40 | exact rAr ty_40 | exact rArL ty_40 | exact rArR2 ty_40) ?_
          refine dp HT 4 rfl pM ?_
          refine dp HT 5 rfl pM ?_
          refine dp HT 6 rfl (by first | exact pNv | exact pNs) ?_
          refine dp HT 7 rfl (by first | exact pFb fd_42_2 | exact pFs fd_42_2) ?_
          refine dr HT 8 rfl (by first | exact rS1 ty_40 | exact rB1 ty_40 | exact rAr ty_40 | exact rArL ty_40 | exact rArR2 ty_40) ?_
          refine dp HT 9 rfl pM ?_
          refine dr HT 10 rfl (rCast (rLook rfl rfl rfl (by repeat constructor) mo_40 ze_35 rfl) (cast_look1 W i)) ?_
          refine dGo ?_
          refine eLast ?_
          refine f1 HT 11 rfl ?_
          refine oMapSet rfl rfl rfl rfl rfl (by repeat constructor) mo_40 ?_
          refine fE HT ?_
          clear HT
          refine aReg ?_
          refine sp pAd ?_
          refine sp pM ?_
          refine oNil ?_
          refine ⟨(k + 1, _), m.next r hi ht, by show w.waiting.length - (k + 1) < w.waiting.length - k; have := m.kw; omega, ?_⟩
          dsimp only
          first
            | (rw [if_pos (by assumption), ← kvA_put]
               exact weak_sub ⟨rfl, rfl, rfl, rfl, gInt rfl (by simp), trivial⟩ (.cons (.tl .hd) (.cons .hd (.cons .hd .nil))))
            | (rw [if_neg (by assumption), if_pos (by assumption), ← kvA_put]
               exact weak_sub ⟨rfl, rfl, rfl, rfl, gInt rfl (by simp), trivial⟩ (by repeat constructor))
            | (rw [if_neg (by assumption), if_neg (by assumption)]
               exact weak_sub ⟨rfl, rfl, rfl, rfl, gInt rfl (by simp), trivial⟩ (by repeat constructor))
        · skip
          refine aSeq ?_
          refine aReg ?_
          refine sp pB ?_
          refine sp pMa ?_
          refine oNil ?_
          refine aCondEq rfl (fun c46 => ?_) (fun c46 => ?_)
          · skip
            refine aSeq ?_
            refine aReg ?_
            refine sp pM ?_
            refine sp pM ?_
            refine sa ?_
            refine aCall rfl rfl (by decide) rfl rfl (.cons (by repeat constructor) (.cons (by repeat constructor) .nil)) (disk_firm _ _ i _ _ _ _ T (fun b hb => (m.rel.sr _ b hb).2.2)) ?_
            rintro _ _ ⟨g, c, rfl, rfl⟩
            refine sp pMa ?_
            refine oNil ?_
            refine aSeq ?_
            refine aReg ?_
            refine sp pM ?_
            refine sp pM ?_
            refine sp pM ?_
            refine sp (pIdxS rfl rfl rfl es_36 (by omega) (map_get1 (f := tearC) ht)) ?_
            refine sp (by first | exact pFb fd_68_1 | exact pFs fd_68_1) ?_
            refine sr (by first | exact rS1 ty_35 | exact rB1 ty_35 | exact rAr ty_35 | exact rArL ty_35 | exact rArR2 ty_35) ?_
            refine oSome (g := g) (by repeat constructor) (by1_ne (m.rel.s512 i)) (fun gb hgb => ?_)
            subst hgb
            refine sa ?_
            refine oCopyS rfl rfl (by decide) rfl (by repeat constructor) (by rw [List.length_map]; exact (m.rel.s512 i).symm) rfl el_35 ?_
            rw [torn_map]
            refine oNil ?_
            refine aReg ?_
            refine sp pM ?_
            refine sp (by first | exact pNv | exact pNs) ?_
            refine sp (by first | exact pFb fd_42_1 | exact pFs fd_42_1) ?_
            refine sr (by first | exact rS1 ty_40 | exact rB1 ty_40 | exact rAr ty_40 | exact rArL ty_40 | exact rArR2 ty_40) ?_
            refine sp pM ?_
            refine sp pM ?_
            refine oWeak (weak_settle (k := 63) rfl (by repeat constructor) (by rw [List.length_map]; have := m.rel.s512 i; simp only [torn, List.length_append, List.length_take, List.length_drop]; omega)) ?_
            refine sa ?_
            refine oMapSet rfl rfl rfl rfl rfl (by repeat constructor) mo_40 ?_
            refine oNil ?_
            refine aReg ?_
            refine sp pAd ?_
            refine sp pM ?_
            refine oNil ?_
            refine ⟨(k + 1, _), m.next r hi ht, by show w.waiting.length - (k + 1) < w.waiting.length - k; have := m.kw; omega, ?_⟩
            dsimp only
            first
              | (rw [if_pos (by assumption), ← kvA_put]
                 exact weak_sub ⟨rfl, rfl, rfl, rfl, gInt rfl (by simp), trivial⟩ (.cons (.tl .hd) (.cons .hd (.cons .hd .nil))))
              | (rw [if_neg (by assumption), if_pos (by assumption), ← kvA_put]
                 exact weak_sub ⟨rfl, rfl, rfl, rfl, gInt rfl (by simp), trivial⟩ (by repeat constructor))
              | (rw [if_neg (by assumption), if_neg (by assumption)]
                 exact weak_sub ⟨rfl, rfl, rfl, rfl, gInt rfl (by simp), trivial⟩ (by repeat constructor))
          · skip
            refine aSkip ?_
            refine aReg ?_
            refine sp pAd ?_
            refine sp pM ?_
            refine oNil ?_
            refine ⟨(k + 1, _), m.next r hi ht, by show w.waiting.length - (k + 1) < w.waiting.length - k; have := m.kw; omega, ?_⟩
            dsimp only
            first
              | (rw [if_pos (by assumption), ← kvA_put]
                 exact weak_sub ⟨rfl, rfl, rfl, rfl, gInt rfl (by simp), trivial⟩ (.cons (.tl .hd) (.cons .hd (.cons .hd .nil))))
              | (rw [if_neg (by assumption), if_pos (by assumption), ← kvA_put]
                 exact weak_sub ⟨rfl, rfl, rfl, rfl, gInt rfl (by simp), trivial⟩ (by repeat constructor))
              | (rw [if_neg (by assumption), if_neg (by assumption)]
                 exact weak_sub ⟨rfl, rfl, rfl, rfl, gInt rfl (by simp), trivial⟩ (by repeat constructor))
    · skip
      refine aExit rfl ?_
      refine aSeq ?_
      refine aReg ?_
      refine sp pM ?_
      refine sp (by first | exact pNv | exact pNs) ?_
      refine sp (by first | exact pFb fd_42_2 | exact pFs fd_42_2) ?_
      refine sr (by first | exact rS1 ty_40 | exact rB1 ty_40 | exact rAr ty_40 | exact rArL ty_40 | exact rArR2 ty_40) ?_
      refine sa ?_
      refine oClearM rfl rfl rfl (by repeat constructor) mo_40 ?_
      refine oNil ?_
      refine aReg ?_
      refine sp pM ?_
      refine sp pM ?_
      refine sp (by first | exact pNv | exact pNs) ?_
      refine sp (by first | exact pFb fd_42_4 | exact pFs fd_42_4) ?_
      refine sa ?_
      refine oStB rfl rfl rfl rfl (by repeat constructor) ty_4 rfl (Nat.le_of_ble_eq_true rfl) rfl ?_
      refine sp (by first | exact pNv | exact pNs) ?_
      refine sp (by first | exact pFb fd_42_3 | exact pFs fd_42_3) ?_
      refine sa ?_
      refine oStB rfl rfl rfl rfl (by repeat constructor) ty_3 rfl (Nat.le_of_ble_eq_true rfl) rfl ?_
      refine oNil ?_
      have hdn := m.done r (by first | exact .inl (by omega) | exact .inr (by omega))
      refine ⟨_, [_, _, _], [], rfl, .cons .hd (.cons (.tl .hd) (.cons .hd .nil)), rfl, T, hdn, rfl⟩
end A
end Go.Proofs.Ytnabkchagjjjnaa
set_option linter.unusedVariables false
set_option linter.unusedSimpArgs false
namespace Go.Proofs.Ytnabkchagjjjnaa
namespace A
theorem es_29 : elemSize Try.prog 29 = some 1 := by kernel_rfl
theorem es_35 : elemSize Try.prog 35 = some 1 := by kernel_rfl
theorem fd_31_0 : fieldOf Try.prog 31 0 = some (0, 1, false) := by kernel_rfl
theorem fd_31_1 : fieldOf Try.prog 31 1 = some (1, 1, false) := by kernel_rfl
theorem fd_31_2 : fieldOf Try.prog 31 2 = some (2, 1, false) := by kernel_rfl
theorem fd_31_3 : fieldOf Try.prog 31 3 = some (3, 1, false) := by kernel_rfl
theorem ty_29 : tyOf Try.prog 29 = some (1, false) := by kernel_rfl
theorem ty_31 : tyOf Try.prog 31 = some (4, true) := by kernel_rfl
theorem ze_31 : zeroOf Try.prog 31 = some (.agg #[.slice none 0 0, .slice none 0 0, .int .i64 0, .bool false]) := by kernel_rfl
def rowC (b : BS) : List AV := [bsA b]
structure Fit (w : DW) : Prop where
  wn : w.waits.length = w.safe.length
  n1 : 1 ≤ w.safe.length
  n2 : w.safe.length ≤ 1024
  ws : ∀ b ∈ w.waits, b.length = 0 ∨ b.length = 512
  ss : ∀ b ∈ w.safe, b.length = 512
  a1 : w.armed ≤ 9223372036854775807
theorem rowC_len {l : List BS} : ∀ y ∈ l.map rowC, y.length = 1 := by
  intro y hy
  obtain ⟨b, _, rfl⟩ := List.mem_map.1 hy
  rfl
theorem ne_map {α : Type} {f : α → List AV} {l : List α} (h : 1 ≤ l.length) : l.map f ≠ [] := fun e => by have := congrArg List.length e; simp at this; rw [this] at h; simp at h
theorem getD_get {l : List BS} {i : Nat} {b : BS} (h : l[i]? = some b) : l.getD i [] = b := by simp [List.getD, h]
theorem by1_inj {a b : BS} {i : Nat} {x y : Nat} (ha : a[i]? = some x) (hb : b[i]? = some y) (h : x ≠ y) : a ≠ b := fun e => h (by rw [e, hb] at ha; exact (Option.some.inj ha).symm)
/- waymarkref01.Same -/
def ref01_Same_r6_T : Bool × List (List Nat × List Nat) := (true, [([], []), ([], []), ([0, 1], [0, 1]), ([2], [2]), ([], []), ([], []), ([4, 5], [4, 5]), ([6], [6]), ([3, 7], [3, 7])])
def ref01_Same_r6_B : List Nat := [0, 0, 3, 7, 0, 0, 48, 112, 255]
theorem ref01_Same_r6_t : Go.Proofs.YtnabkchagjjjnaaW.PrintLast.rtab .any (Go.Proofs.YtnabkchagjjjnaaW.PrintLast.opsOf Try.f46 6) = ref01_Same_r6_T := by kernel_rfl
theorem ref01_Same_r6_b : Go.Proofs.YtnabkchagjjjnaaW.PrintLast.waitsOk ref01_Same_r6_T.2 ref01_Same_r6_B = true := by kernel_rfl
set_option maxRecDepth 100000 in
set_option maxHeartbeats 400000 in
theorem ref01_Same (a b : BS) (ha : a.length ≤ 1000000) (hb : b.length ≤ 1000000) : Triple Try.prog 46 [.sl 1 (a.map by1), .sl 1 (b.map by1)] [] (fun q h' => q = .v (.bool (decide (a = b))) ∧ h' = []) := by
  refine triple_of Try.func46 rfl (by kernel_rfl) rfl (by simp) ?_
  refine aSeq ?_
  refine aReg ?_
  refine sp pMa ?_
  refine oNil ?_
  refine aSeq ?_
  refine aSeq ?_
  refine aReg ?_
  refine sp pM ?_
  refine sp (by first | exact pLm sl_35 | exact pLs sl_35) ?_
  refine sp pM ?_
  refine sp (by first | exact pLm sl_35 | exact pLs sl_35) ?_
  refine sp pB ?_
  refine oNil ?_
  refine aCondNe rfl (fun c10 => ?_) (fun c10 => ?_)
  · skip
    refine aSeq ?_
    refine aReg ?_
    refine sp pMa ?_
    refine oNil ?_
    refine aRet ?_
    refine ⟨_, [], _, rfl, .nil, ?_, rfl⟩
    rw [decide_eq_false (fun e => by rw [e] at c10; exact c10 rfl)]
    rfl
  · skip
    refine aSkip ?_
    refine aSeq ?_
    refine aSeq ?_
    refine aReg ?_
    refine sp pMa ?_
    refine oNil ?_
    refine aBlock ?_
    refine aLoopI (α := Nat) (fun i => i ≤ a.length ∧ a.length = b.length ∧ a.take i = b.take i) (fun i => ([(0, .sl 1 (a.map by1)), (1, .sl 1 (b.map by1)), (5, .int i)], [])) (fun i => a.length - i) 0 ?_ ?_ ?_
    · skip
      exact ⟨by omega, by omega, rfl⟩
    · skip
      exact weak_sub ⟨rfl, rfl, rfl, trivial⟩ .nil
    · rintro i ⟨hi, hl, hv⟩
      skip
      refine aSeq ?_
      refine aSeq ?_
      refine aReg ?_
      refine sp pM ?_
      refine sp pM ?_
      refine sp (by first | exact pLm sl_35 | exact pLs sl_35 | exact pLv sl_35) ?_
      refine sp pB ?_
      refine oNil ?_
      refine aCondDec rfl (fun c14 => ?_) (fun c14 => ?_)
      · skip
        refine aSkip ?_
        refine aSeq ?_
        refine aBlock ?_
        refine aSeq ?_
        obtain ⟨x, hx⟩ : ∃ x, a[i]? = some x := ⟨_, List.getElem?_eq_getElem (by omega)⟩
        obtain ⟨y, hy⟩ : ∃ y, b[i]? = some y := ⟨_, List.getElem?_eq_getElem (by omega)⟩
        refine aDrawT ref01_Same_r6_t ref01_Same_r6_b [] 9 #[false, false, false, false, false, false, false, false, false] (by kernel_rfl) rfl rfl (fun HT => ?_)
        refine dp HT 0 rfl pM ?_
        refine dp HT 1 rfl pM ?_
        refine dp HT 2 rfl (pIdxS rfl rfl rfl es_35 (by omega) (map_get1 (f := by1) hx)) ?_
        refine dr HT 3 rfl (by first | exact rS1 ty_5 | exact rB1 ty_5 | exact rAr ty_5 | exact rArL ty_5 | exact rArR2 ty_5) ?_
        refine dp HT 4 rfl pM ?_
        refine dp HT 5 rfl pM ?_
        refine dp HT 6 rfl (pIdxS rfl rfl rfl es_35 (by omega) (map_get1 (f := by1) hy)) ?_
        refine dr HT 7 rfl (by first | exact rS1 ty_5 | exact rB1 ty_5 | exact rAr ty_5 | exact rArL ty_5 | exact rArR2 ty_5) ?_
        refine dp HT 8 rfl pB ?_
        refine dE HT ?_
        clear HT
        refine aCondNe rfl (fun c25 => ?_) (fun c25 => ?_)
        · skip
          refine aSeq ?_
          refine aReg ?_
          refine sp pMa ?_
          refine oNil ?_
          refine aRet ?_
          refine ⟨_, [], _, rfl, .nil, ?_, rfl⟩
          rw [decide_eq_false (by1_inj hx hy (fun e => c25 (by rw [e])))]
          rfl
        · skip
          refine aSkip ?_
          refine aReg ?_
          refine sp pM ?_
          refine sp pAd ?_
          refine sp pMa ?_
          refine oNil ?_
          refine ⟨i + 1, ⟨by omega, hl, ?_⟩, by show a.length - (i + 1) < a.length - i; omega, weak_sub ⟨rfl, rfl, gInt rfl (by simp), trivial⟩ .nil⟩
          rw [List.take_add_one, List.take_add_one, hv, hx, hy, show x = y by omega]
      · skip
        refine aExit rfl ?_
        refine aSeq ?_
        refine aReg ?_
        refine sp pMa ?_
        refine oNil ?_
        refine aRet ?_
        refine ⟨_, [], _, rfl, .nil, ?_, rfl⟩
        rw [List.take_of_length_le (by omega), List.take_of_length_le (by omega)] at hv
        rw [decide_eq_true hv]
        rfl
/- waymarkref03.Get -/
set_option maxRecDepth 100000 in
set_option maxHeartbeats 400000 in
theorem ref03_Get (w : DW) (i : Nat) (f : Fit w) (hi : i < w.safe.length) : Triple Try.prog 47 [.agg (dwC w), .int i] [] (fun q h' => q = bsA (w.get i) ∧ h' = []) := by
  have hwn := f.wn
  obtain ⟨x, hx⟩ : ∃ x, w.waits[i]? = some x := ⟨_, List.getElem?_eq_getElem (by omega)⟩
  obtain ⟨y, hy⟩ : ∃ y, w.safe[i]? = some y := ⟨_, List.getElem?_eq_getElem hi⟩
  refine triple_of Try.func47 rfl (by kernel_rfl) rfl (by simp) ?_
  refine aSeq ?_
  refine aReg ?_
  refine sq ?_
  refine qBox rfl rfl (by decide) rfl rfl (fun b2 => ?_)
  refine sp pMa ?_
  refine oNil ?_
  refine aSeq ?_
  refine aSeq ?_
  refine aReg ?_
  refine sp (pFb fd_31_1) ?_
  refine sr (rB1 ty_29) ?_
  refine sp pM ?_
  refine sp (pIdxS rfl rfl rfl es_29 (by omega) (map_get1 (f := rowC) hx)) ?_
  refine sr (by first | exact rS1 ty_35 | exact rB1 ty_35 | exact rAr ty_35 | exact rArL ty_35 | exact rArR2 ty_35) ?_
  refine sp (by first | exact pLm sl_35 | exact pLs sl_35 | exact pLv sl_35) ?_
  refine sp pB ?_
  refine oNil ?_
  refine aCondDec rfl (fun c11 => ?_) (fun c11 => ?_)
  · skip
    refine aSeq ?_
    refine aReg ?_
    refine sp (pFb fd_31_1) ?_
    refine sr (rB1 ty_29) ?_
    refine sp pM ?_
    refine sp (pIdxS rfl rfl rfl es_29 (by omega) (map_get1 (f := rowC) hx)) ?_
    refine sr (by first | exact rS1 ty_35 | exact rB1 ty_35 | exact rAr ty_35 | exact rArL ty_35 | exact rArR2 ty_35) ?_
    refine sp pMa ?_
    refine oNil ?_
    refine aRet ?_
    refine ⟨_, [], _, rfl, .nil, ?_, rfl⟩
    rw [DW.get, getD_get hx, if_pos (by omega)]
    rfl
  · skip
    refine aSkip ?_
    refine aSeq ?_
    refine aReg ?_
    refine sp (pFb fd_31_0) ?_
    refine sr (rB1 ty_29) ?_
    refine sp pM ?_
    refine sp (pIdxS rfl rfl rfl es_29 (by omega) (map_get1 (f := rowC) hy)) ?_
    refine sr (by first | exact rS1 ty_35 | exact rB1 ty_35 | exact rAr ty_35 | exact rArL ty_35 | exact rArR2 ty_35) ?_
    refine sp pMa ?_
    refine oNil ?_
    refine aRet ?_
    refine ⟨_, [], _, rfl, .nil, ?_, rfl⟩
    rw [DW.get, getD_get hx, if_neg (by omega), getD_get hy]
    rfl
/- waymarkref03.act -/
set_option maxRecDepth 100000 in
set_option maxHeartbeats 1000000 in
theorem ref03_act (w : DW) (ha : w.armed ≤ 9223372036854775807) : Triple Try.prog 64 [.agg (dwC w)] [] (fun q h' => q = .tup [.agg (dwC w.act.1), .v (.bool w.act.2)] ∧ h' = []) := by
  refine triple_ofR Try.func64 rfl (by kernel_rfl) rfl (by simp) ?_
  refine aSeq ?_
  refine aReg ?_
  refine sq ?_
  refine qBox rfl rfl (by decide) rfl rfl (fun b1 => ?_)
  refine sq ?_
  refine qAlloc rfl rfl (by decide) ze_31 rfl (fun b2 => ?_)
  refine sp pMa ?_
  refine oNil ?_
  refine aSeq ?_
  refine aSeq ?_
  refine aReg ?_
  refine sp (pFb fd_31_3) ?_
  refine sr (rB1 ty_4) ?_
  refine sp pM ?_
  refine oSplit 6 rfl (fun c6 => ?_) (fun c6 => ?_)
  · skip
    refine gf ?_
    refine gf ?_
    refine gf ?_
    refine sp pK ?_
    refine oNil ?_
    refine aCondT rfl ?_
    refine aSeq ?_
    refine aReg ?_
    refine sp (pFb fd_31_3) ?_
    refine sa ?_
    refine oStB rfl rfl rfl rfl (by repeat constructor) ty_4 rfl (Nat.le_of_ble_eq_true rfl) rfl ?_
    refine oNil ?_
    refine aSeq ?_
    refine aReg ?_
    refine sr (by first | exact rBWa ty_31 | exact rBW ty_31 | exact rBA ty_31) ?_
    refine sa ?_
    refine oStW rfl rfl rfl rfl (by repeat constructor) ty_31 ?_
    refine sp pMa ?_
    refine oNil ?_
    refine aRet ?_
    refine ⟨[.agg (dwC w.act.1), .v (.bool w.act.2)], [], _, .cons (.cellA (cs := dwC w.act.1) rfl ?_ ty_31) (.cons (.tmp ?_) .nil), .nil, rfl, rfl⟩
    · have hb : (w.dead || w.armed == 0) = true := by first | (simp_all; done) | (simp; omega)
      have h3 : ¬ (0 < w.armed ∧ w.dead = false) := by rintro ⟨h1, h2⟩; simp [h2] at hb; omega
      simp [setCells, putAll, avCells, dwC, DW.act, hb, h3]
    · have hb : (w.dead || w.armed == 0) = true := by first | (simp_all; done) | (simp; omega)
      simp [DW.act, hb, get]
  · skip
    refine gp (pFb fd_31_2) ?_
    refine gr (rB1 ty_3) ?_
    refine gp pB ?_
    refine sp pK ?_
    refine oNil ?_
    refine aCondEq rfl (fun c10 => ?_) (fun c10 => ?_)
    · skip
      refine aSeq ?_
      refine aReg ?_
      refine sp (pFb fd_31_3) ?_
      refine sa ?_
      refine oStB rfl rfl rfl rfl (by repeat constructor) ty_4 rfl (Nat.le_of_ble_eq_true rfl) rfl ?_
      refine oNil ?_
      refine aSeq ?_
      refine aReg ?_
      refine sr (by first | exact rBWa ty_31 | exact rBW ty_31 | exact rBA ty_31) ?_
      refine sa ?_
      refine oStW rfl rfl rfl rfl (by repeat constructor) ty_31 ?_
      refine sp pMa ?_
      refine oNil ?_
      refine aRet ?_
      refine ⟨[.agg (dwC w.act.1), .v (.bool w.act.2)], [], _, .cons (.cellA (cs := dwC w.act.1) rfl ?_ ty_31) (.cons (.tmp ?_) .nil), .nil, rfl, rfl⟩
      · have hb : (w.dead || w.armed == 0) = true := by first | (simp_all; done) | (simp; omega)
        have h3 : ¬ (0 < w.armed ∧ w.dead = false) := by rintro ⟨h1, h2⟩; simp [h2] at hb; omega
        simp [setCells, putAll, avCells, dwC, DW.act, hb, h3]
      · have hb : (w.dead || w.armed == 0) = true := by first | (simp_all; done) | (simp; omega)
        simp [DW.act, hb, get]
    · skip
      refine aSkip ?_
      refine aCutI (α := Unit) (fun _ => w.dead = false ∧ w.armed ≠ 0) (fun _ => ([(1, .v (.pointer (some ⟨b1, 0, none⟩))), (2, .v (.pointer (some ⟨b2, 0, none⟩)))], [.box b1 [rowsA w.safe, rowsA w.waits, .int (if 0 < w.armed then w.armed - 1 else w.armed), .v (.bool w.dead)], .box b2 [.v (.slice none 0 0), .v (.slice none 0 0), .int 0, .v (.bool false)]])) ?_ ?_
      · skip
        refine aSeq ?_
        refine aReg ?_
        refine sp (pFb fd_31_2) ?_
        refine sr (rB1 ty_3) ?_
        refine sp pB ?_
        refine oNil ?_
        refine aCondDec rfl (fun c15 => ?_) (fun c15 => ?_)
        · skip
          refine aReg ?_
          refine sp (pFb fd_31_2) ?_
          refine sr (rB1 ty_3) ?_
          refine sp pSu ?_
          refine sp (pFb fd_31_2) ?_
          refine sa ?_
          refine oStB rfl rfl rfl rfl (by repeat constructor) ty_3 rfl (Nat.le_of_ble_eq_true rfl) rfl ?_
          refine oNil ?_
          refine ⟨(), ⟨by simpa using c6, by omega⟩, ?_⟩
          dsimp only
          first
            | (rw [if_pos (by omega)]; exact weak_sub ⟨rfl, rfl, trivial⟩ (.cons .hd (.cons .hd .nil)))
            | (rw [if_neg (by omega)]; exact weak_sub ⟨rfl, rfl, trivial⟩ (.cons (.tl .hd) (.cons .hd .nil)))
            | (rw [if_neg (by omega)]; exact weak_sub ⟨rfl, rfl, trivial⟩ (.cons .hd (.cons .hd .nil)))
        · skip
          refine aSkip ?_
          refine ⟨(), ⟨by simpa using c6, by omega⟩, ?_⟩
          dsimp only
          first
            | (rw [if_pos (by omega)]; exact weak_sub ⟨rfl, rfl, trivial⟩ (.cons .hd (.cons .hd .nil)))
            | (rw [if_neg (by omega)]; exact weak_sub ⟨rfl, rfl, trivial⟩ (.cons (.tl .hd) (.cons .hd .nil)))
            | (rw [if_neg (by omega)]; exact weak_sub ⟨rfl, rfl, trivial⟩ (.cons .hd (.cons .hd .nil)))
      · rintro _ ⟨hd, ha0⟩
        skip
        refine aSeq ?_
        refine aReg ?_
        refine sr (by first | exact rSW ty_31 rfl | exact rSA ty_31 | exact rBWa ty_31 | exact rBW ty_31 | exact rBA ty_31 | exact rArA ty_31 (fun _ => rfl)) ?_
        refine sa ?_
        refine oStW rfl rfl rfl rfl (by repeat constructor) ty_31 ?_
        refine sp pMa ?_
        refine oNil ?_
        refine aRet ?_
        refine ⟨[.agg (dwC w.act.1), .v (.bool w.act.2)], [], _, .cons (.cellA (cs := dwC w.act.1) rfl ?_ ty_31) (.cons (.tmp ?_) .nil), .nil, rfl, rfl⟩
        · simp [setCells, putAll, avCells, dwC, DW.act, hd, ha0]
        · simp [DW.act, hd, ha0, get]
end A
end Go.Proofs.Ytnabkchagjjjnaa
set_option linter.unusedVariables false
set_option linter.unusedSimpArgs false
namespace Go.Proofs.Ytnabkchagjjjnaa
namespace A
theorem sl_29 : isSl Try.prog 29 = true := by kernel_rfl
theorem torn_step {b o : BS} {i x : Nat} (hi : i < o.length) (hx : b[i]? = some x) : ((b.take i ++ o.drop i).map by1).set i (by1 x) = (b.take (i + 1) ++ o.drop (i + 1)).map by1 := by
  have hib := (List.getElem?_eq_some_iff.1 hx).1
  apply List.ext_getElem?
  intro j
  rw [List.getElem?_set, List.getElem?_map, List.getElem?_map]
  by_cases hij : i = j
  · subst hij
    rw [if_pos rfl, if_pos (by simp; omega), List.getElem?_append_left (by simp; omega), List.getElem?_take_of_lt (by omega), hx]
    rfl
  · rw [if_neg hij]
    congr 1
    by_cases hj : j < i
    · rw [List.getElem?_append_left (by simp; omega), List.getElem?_append_left (by simp; omega), List.getElem?_take_of_lt hj, List.getElem?_take_of_lt (by omega)]
    · rw [List.getElem?_append_right (by simp; omega), List.getElem?_append_right (by simp; omega), List.getElem?_drop, List.getElem?_drop]
      congr 1
      simp
      omega
theorem torn_end {b o : BS} {i : Nat} (hi : i ≤ o.length) (hb : i ≤ b.length) (h : b.length ≤ i ∨ o.length ≤ i) : b.take i ++ o.drop i = torn b o := by
  unfold torn
  rcases h with h | h
  · have : i = b.length := by omega
    subst this
    rw [List.take_of_length_le (Nat.le_refl _), List.take_of_length_le (by omega)]
  · have : i = o.length := by omega
    subst this
    rw [List.drop_of_length_le (Nat.le_refl _), List.drop_of_length_le (by omega)]
def waitK (w : DW) (i : Nat) : List Nat := (List.range i).filter fun i => 0 < (w.waits.getD i []).length
theorem waitK_step (w : DW) (i : Nat) : waitK w (i + 1) = waitK w i ++ (if 0 < (w.waits.getD i []).length then [i] else []) := by
  unfold waitK
  rw [List.range_succ, List.filter_append]
  congr 1
  by_cases h : 0 < (w.waits.getD i []).length
  · rw [if_pos h]
    exact List.filter_cons_of_pos (by simpa using h)
  · rw [if_neg h]
    exact List.filter_cons_of_neg (by simpa using h)
theorem waitK_all (w : DW) : waitK w w.waits.length = w.waiting := rfl
theorem waitK_len (w : DW) (i : Nat) : (waitK w i).length ≤ i := by
  have := List.length_filter_le (fun i => decide (0 < (w.waits.getD i []).length)) (List.range i)
  simpa [waitK] using this
def natsA (l : List Nat) : List (List AV) := (l.map (fun i : Nat => (i : Int))).map intA
theorem natsA_len (l : List Nat) : (natsA l).length = l.length := by simp [natsA]
theorem natsA_app (l : List Nat) (i : Nat) : natsA l ++ [[.int (i : Int)]] = natsA (l ++ [i]) := by simp [natsA, intA]
/- waymarkref03.Torn -/
set_option maxRecDepth 100000 in
set_option maxHeartbeats 1000000 in
theorem ref03_Torn (b o : BS) (hb : b.length ≤ 1000000) (ho : o.length ≤ 1000000) : Triple Try.prog 65 [.sl 1 (b.map by1), .sl 1 (o.map by1)] [] (fun q h' => ∃ g c, q = .v (slV g (torn b o).length c) ∧ h' = [.sl g c 5 1 ((torn b o).map by1)]) := by
  refine triple_of Try.func65 rfl (by kernel_rfl) rfl (by simp) ?_
  refine aSeq ?_
  refine aReg ?_
  refine sp pMa ?_
  refine oNil ?_
  refine aSeq ?_
  refine aReg ?_
  refine sq ?_
  refine qLit (l := []) rfl rfl (by decide) us_35 ty_5 ze_5 rfl (by decide) (by decide) rfl rfl rfl (fun b7 => ?_)
  refine sp pM ?_
  refine sa ?_
  refine oApp rfl rfl (by decide) rfl (by repeat constructor) rfl (.inl rfl) el_35 sl_35 by1_len (by simp; omega) (by simp; omega) (fun g9 k9 => ?_)
  refine sp pMa ?_
  refine oNil ?_
  refine aSeq ?_
  refine aSeq ?_
  refine aReg ?_
  refine sp pMa ?_
  refine oNil ?_
  refine aBlock ?_
  refine aLoopI (α := Nat × Option Nat × Nat) (fun (i, g, c) => i ≤ b.length ∧ i ≤ o.length) (fun (i, g, c) => ([(0, .sl 1 (b.map by1)), (1, .sl 1 (o.map by1)), (5, .v (slV g o.length c)), (6, .int i)], [.sl g c 5 1 ((b.take i ++ o.drop i).map by1)])) (fun (i, g, c) => b.length - i) (0, g9, k9) ?_ ?_ ?_
  · skip
    exact ⟨by omega, by omega⟩
  · skip
    exact weak_sub ⟨rfl, rfl, gLen rfl (by simp), rfl, trivial⟩ (.cons .hd .nil)
  · rintro ⟨i, g, c⟩ ⟨hib, hio⟩
    skip
    refine aSeq ?_
    refine aSeq ?_
    refine aReg ?_
    refine sp pM ?_
    refine sp pM ?_
    refine sp (by first | exact pLm sl_35 | exact pLs sl_35 | exact pLv sl_35) ?_
    refine sp pB ?_
    refine sp pM ?_
    refine oSplitDec 14 rfl (fun c14 => ?_) (fun c14 => ?_)
    · skip
      refine gp pM ?_
      refine gp pM ?_
      refine gp (pLenV rfl rfl sl_35) ?_
      refine gp pB ?_
      refine sp pK ?_
      refine oNil ?_
      refine aCondDec rfl (fun c19 => ?_) (fun c19 => ?_)
      · skip
        refine aSkip ?_
        refine aSeq ?_
        refine aBlock ?_
        obtain ⟨x, hx⟩ : ∃ x, b[i]? = some x := ⟨_, List.getElem?_eq_getElem (by omega)⟩
        obtain ⟨y, hy⟩ : ∃ y, (b.take i ++ o.drop i)[i]? = some y := ⟨_, List.getElem?_eq_getElem (by simp; omega)⟩
        refine aSome .hd (ne_map (by simp; omega)) (fun gb hgb => ?_)
        subst hgb
        refine aReg ?_
        refine sp pM ?_
        refine sp pM ?_
        refine sp pM ?_
        refine sp pM ?_
        refine sp (pIdxS rfl rfl rfl es_35 (by omega) (map_get1 (f := by1) hx)) ?_
        refine sr (by first | exact rS1 ty_5 | exact rB1 ty_5 | exact rAr ty_5 | exact rArL ty_5 | exact rArR2 ty_5) ?_
        refine sp (pIdxO rfl rfl rfl es_35 (by omega) (by omega)) ?_
        refine sa ?_
        refine oStS (i := i) (j := 0) rfl rfl rfl rfl (by repeat constructor) ty_5 rfl (by omega) (map_get1 (f := by1) hy) (by decide) rfl ?_
        rw [show setCells (by1 y) 0 (avCells (AV.v (Value.int .u8 x))) = by1 x from rfl, torn_step (by omega) hx]
        refine oNil ?_
        refine aReg ?_
        refine sp pM ?_
        refine sp pAd ?_
        refine sp pMa ?_
        refine oNil ?_
        refine ⟨(i + 1, _, c), ⟨by omega, by omega⟩, by show b.length - (i + 1) < b.length - i; omega, weak_sub ⟨rfl, rfl, rfl, gInt rfl (by simp), trivial⟩ (.cons .hd .nil)⟩
      · skip
        refine aExit rfl ?_
        refine aSeq ?_
        refine aReg ?_
        refine sp pM ?_
        refine sp pMa ?_
        refine oNil ?_
        refine aRet ?_
        have he := torn_end (b := b) (o := o) hio hib (by first | exact .inl (by omega) | exact .inr (by omega))
        refine ⟨_, [.sl g c 5 1 ((b.take i ++ o.drop i).map by1)], [], rfl, .cons .hd .nil, g, c, ?_, by rw [he]⟩
        rw [← he]
        show AV.v (slV g o.length c) = _
        rw [show (b.take i ++ o.drop i).length = o.length by simp only [List.length_append, List.length_take, List.length_drop]; omega]
    · skip
      refine gf ?_
      refine gf ?_
      refine gf ?_
      refine gf ?_
      refine sp pK ?_
      refine oNil ?_
      refine aCondF rfl ?_
      refine aExit rfl ?_
      refine aSeq ?_
      refine aReg ?_
      refine sp pM ?_
      refine sp pMa ?_
      refine oNil ?_
      refine aRet ?_
      have he := torn_end (b := b) (o := o) hio hib (by first | exact .inl (by omega) | exact .inr (by omega))
      refine ⟨_, [.sl g c 5 1 ((b.take i ++ o.drop i).map by1)], [], rfl, .cons .hd .nil, g, c, ?_, by rw [he]⟩
      rw [← he]
      show AV.v (slV g o.length c) = _
      rw [show (b.take i ++ o.drop i).length = o.length by simp only [List.length_append, List.length_take, List.length_drop]; omega]
/- waymarkref03.Waiting -/
set_option maxRecDepth 100000 in
set_option maxHeartbeats 1000000 in
theorem ref03_Waiting (w : DW) (f : Fit w) : Triple Try.prog 45 [.agg (dwC w)] [] (fun q h' => ∃ g c, q = .v (slV g w.waiting.length c) ∧ h' = [.sl g c 3 1 (natsA w.waiting)]) := by
  have hwn := f.wn
  have hn2 := f.n2
  refine triple_of Try.func45 rfl (by kernel_rfl) rfl (by simp) ?_
  refine aSeq ?_
  refine aReg ?_
  refine sq ?_
  refine qBox rfl rfl (by decide) rfl rfl (fun b1 => ?_)
  refine sp pMa ?_
  refine oNil ?_
  refine aSeq ?_
  refine aReg ?_
  refine sq ?_
  refine qLit (l := []) rfl rfl (by decide) us_51 ty_3 ze_3 rfl (by decide) (by decide) rfl rfl rfl (fun b5 => ?_)
  refine sp pMa ?_
  refine oNil ?_
  refine aSeq ?_
  refine aSeq ?_
  refine aReg ?_
  refine sp pMa ?_
  refine oNil ?_
  refine aBlock ?_
  refine aLoopI (α := Nat × Option Nat × Nat) (fun (i, g, c) => i ≤ w.waits.length) (fun (i, g, c) => ([(1, .v (.pointer (some ⟨b1, 0, none⟩))), (3, .v (slV g (waitK w i).length c)), (4, .int i)], [.sl g c 3 1 (natsA (waitK w i)), .box b1 (dwC w)])) (fun (i, g, c) => w.waits.length - i) (0, some b5, 0) ?_ ?_ ?_
  · skip
    omega
  · skip
    exact weak_sub ⟨rfl, rfl, rfl, trivial⟩ (.cons .hd (.cons .hd .nil))
  · rintro ⟨i, g, c⟩ hi
    skip
    refine aSeq ?_
    refine aSeq ?_
    refine aReg ?_
    refine sp pM ?_
    refine sp (by first | exact pFb fd_31_1 | exact pFs fd_31_1) ?_
    refine sr (by first | exact rS1 ty_29 | exact rB1 ty_29 | exact rAr ty_29 | exact rArL ty_29 | exact rArR2 ty_29) ?_
    refine sp (by first | exact pLm sl_29 | exact pLs sl_29 | exact pLv sl_29) ?_
    refine sp pB ?_
    refine oNil ?_
    refine aCondDec rfl (fun c10 => ?_) (fun c10 => ?_)
    · skip
      refine aSkip ?_
      refine aSeq ?_
      refine aBlock ?_
      refine aSeq ?_
      have hwl := waitK_len w i
      obtain ⟨x, hx⟩ : ∃ x, w.waits[i]? = some x := ⟨_, List.getElem?_eq_getElem (by omega)⟩
      refine aReg ?_
      refine sp (by first | exact pFb fd_31_1 | exact pFs fd_31_1) ?_
      refine sr (by first | exact rS1 ty_29 | exact rB1 ty_29 | exact rAr ty_29 | exact rArL ty_29 | exact rArR2 ty_29) ?_
      refine sp pM ?_
      refine sp (pIdxS rfl rfl rfl es_29 (by omega) (map_get1 (f := rowC) hx)) ?_
      refine sr (by first | exact rS1 ty_35 | exact rB1 ty_35 | exact rAr ty_35 | exact rArL ty_35 | exact rArR2 ty_35) ?_
      refine sp (by first | exact pLm sl_35 | exact pLs sl_35 | exact pLv sl_35) ?_
      refine sp pB ?_
      refine oNil ?_
      refine aCondDec rfl (fun c19 => ?_) (fun c19 => ?_)
      · skip
        refine aReg ?_
        refine sp pM ?_
        refine sp pM ?_
        refine sq ?_
        refine qLit (l := [_]) rfl rfl (by decide) us_51 ty_3 ze_3 rfl (by decide) (by decide) rfl rfl rfl (fun b22 => ?_)
        refine sa ?_
        refine oApp rfl rfl (by decide) rfl (by repeat constructor) (natsA_len _).symm (srcOwn rfl (by repeat constructor) (by first | rfl | simp)) el_51 sl_51 (by intro z hz; rcases List.mem_cons.1 hz with rfl | hz; rfl; cases hz) (by simp [natsA_len]; omega) (by simp [natsA_len]; omega) (fun g23 k23 => ?_)
        refine sp pMa ?_
        refine oNil ?_
        refine aReg ?_
        refine sp pM ?_
        refine sp pAd ?_
        refine sp pMa ?_
        refine oNil ?_
        have hst := waitK_step w i
        rw [getD_get hx] at hst
        first
          | (rw [if_pos (by omega)] at hst
             refine ⟨(i + 1, g23, k23), by show i + 1 ≤ _; omega, by show w.waits.length - (i + 1) < w.waits.length - i; omega, ?_⟩
             dsimp only
             rw [hst, ← natsA_app]
             exact weak_sub ⟨rfl, gLen rfl (by simp [natsA_len]), gInt rfl (by simp), trivial⟩ (.cons .hd (.cons (.tl .hd) .nil)))
          | (rw [if_neg (by omega), List.append_nil] at hst
             refine ⟨(i + 1, g, c), by show i + 1 ≤ _; omega, by show w.waits.length - (i + 1) < w.waits.length - i; omega, ?_⟩
             dsimp only
             rw [hst]
             exact weak_sub ⟨rfl, rfl, gInt rfl (by simp), trivial⟩ (.cons .hd (.cons .hd .nil)))
      · skip
        refine aSkip ?_
        refine aReg ?_
        refine sp pM ?_
        refine sp pAd ?_
        refine sp pMa ?_
        refine oNil ?_
        have hst := waitK_step w i
        rw [getD_get hx] at hst
        first
          | (rw [if_pos (by omega)] at hst
             refine ⟨(i + 1, g23, k23), by show i + 1 ≤ _; omega, by show w.waits.length - (i + 1) < w.waits.length - i; omega, ?_⟩
             dsimp only
             rw [hst, ← natsA_app]
             exact weak_sub ⟨rfl, gLen rfl (by simp [natsA_len]), gInt rfl (by simp), trivial⟩ (.cons .hd (.cons (.tl .hd) .nil)))
          | (rw [if_neg (by omega), List.append_nil] at hst
             refine ⟨(i + 1, g, c), by show i + 1 ≤ _; omega, by show w.waits.length - (i + 1) < w.waits.length - i; omega, ?_⟩
             dsimp only
             rw [hst]
             exact weak_sub ⟨rfl, rfl, gInt rfl (by simp), trivial⟩ (.cons .hd (.cons .hd .nil)))
    · skip
      refine aExit rfl ?_
      refine aSeq ?_
      refine aReg ?_
      refine sp pM ?_
      refine sp pMa ?_
      refine oNil ?_
      refine aRet ?_
      have hie : i = w.waits.length := by omega
      subst hie
      rw [waitK_all]
      exact ⟨_, [_], [_], rfl, .cons .hd .nil, g, c, rfl, rfl⟩
end A
end Go.Proofs.Ytnabkchagjjjnaa
set_option linter.unusedVariables false
set_option linter.unusedSimpArgs false
namespace Go.Proofs.Ytnabkchagjjjnaa
namespace A
theorem el_29 : elemOf Try.prog 29 = some (35, 1, 24) := by kernel_rfl
theorem us_29 : Try.prog.underlying 29 = some (.slice 35) := by kernel_rfl
theorem write_act {w : DW} {i : Int} {b : BS} (h : w.dead = false) (h0 : 0 ≤ i) (hi : i < (w.safe.length : Int)) (hb : b.length = 512) : w.write i b = (if w.act.2 then ({ w.act.1 with waits := w.waits.set i.toNat b }, 0) else (w.act.1, 7)) := by
  rw [DW.write, if_neg (by simp [h]), if_neg (by omega)]
theorem rows_set {l : List BS} {i : Nat} {x b : BS} : (l.map rowC).set i (setCells (rowC x) 0 (avCells (.sl 1 (b.map by1)))) = (l.set i b).map rowC := by
  rw [show setCells (rowC x) 0 (avCells (AV.sl 1 (b.map by1))) = rowC b from rfl, List.map_set]
theorem getK_step (w : DW) (i : Nat) : ((List.range i).map w.get).map rowC ++ [rowC (w.get i)] = ((List.range (i + 1)).map w.get).map rowC := by
  rw [List.range_succ]
  simp
theorem rep_nils : ∀ (F : Nat → Prop) (w : World) (j : Nat) (av : AV) (x : Value), (rowC [])[j]? = some av → (Value.slice none 0 0).cells[j]? = some x → Rep F w av x := by
  intro F w j av x hj hx
  match j with
  | 0 => simp [rowC] at hj; simp [Value.cells] at hx; subst hj; subst hx; exact .sl0 _ _ _
  | j + 1 => simp [rowC] at hj
theorem rows_rep (n : Nat) : List.replicate n (rowC []) = (List.replicate n ([] : BS)).map rowC := List.map_replicate.symm
theorem zrow_step (n : Nat) : (List.replicate n zeros).map rowC ++ [rowC zeros] = (List.replicate (n + 1) zeros).map rowC := by
  rw [List.replicate_succ', List.map_append]
  rfl
/- waymarkref03.Write -/
def ref03_Write_r9_T : Bool × List (List Nat × List Nat) := (true, [([], []), ([0], [0]), ([], []), ([], []), ([], []), ([3, 4], [3, 4]), ([1, 2, 0, 1, 2, 3, 4, 5], [1, 2]), ([6, 5, 5, 0, 1, 2, 3, 4, 5], [5, 6])])
def ref03_Write_r9_B : List Nat := [0, 1, 0, 0, 0, 24, 63, 127]
theorem ref03_Write_r9_t : Go.Proofs.YtnabkchagjjjnaaW.PrintLast.rtab .any (Go.Proofs.YtnabkchagjjjnaaW.PrintLast.opsOf Try.f34 9) = ref03_Write_r9_T := by kernel_rfl
theorem ref03_Write_r9_b : Go.Proofs.YtnabkchagjjjnaaW.PrintLast.waitsOk ref03_Write_r9_T.2 ref03_Write_r9_B = true := by kernel_rfl
set_option maxRecDepth 100000 in
set_option maxHeartbeats 1000000 in
theorem ref03_Write (w : DW) (i : Int) (b : BS) (f : Fit w) (ha : w.armed ≤ 9223372036854775807) (hb : b.length ≤ 1000) : Triple Try.prog 34 [.agg (dwC w), .int i, .sl 1 (b.map by1)] [] (fun q h' => q = .tup [.agg (dwC (w.write i b).1), .int (w.write i b).2] ∧ h' = []) := by
  have hwn := f.wn
  have hn2 := f.n2
  have hn1 := f.n1
  refine triple_ofR Try.func34 rfl (by kernel_rfl) rfl (by simp) ?_
  refine aSeq ?_
  refine aReg ?_
  refine sq ?_
  refine qBox rfl rfl (by decide) rfl rfl (fun b3 => ?_)
  refine sq ?_
  refine qAlloc rfl rfl (by decide) ze_31 rfl (fun b6 => ?_)
  refine sp pMa ?_
  refine oNil ?_
  refine aSeq ?_
  refine aSeq ?_
  refine aReg ?_
  refine sp (pFb fd_31_3) ?_
  refine sr (rB1 ty_4) ?_
  refine oNil ?_
  refine aCond rfl (fun c11 => ?_) (fun c11 => ?_)
  · skip
    refine aSeq ?_
    refine aReg ?_
    refine sr (by first | exact rBWa ty_31 | exact rBW ty_31 | exact rBA ty_31) ?_
    refine sa ?_
    refine oStW rfl rfl rfl rfl (by repeat constructor) ty_31 ?_
    refine sp pMa ?_
    refine oNil ?_
    refine aRet ?_
    rw [write_dead c11]
    refine ⟨[.agg (dwC w), .int 7], [], _, .cons (.cellA (cs := dwC w) rfl (by first | exact .head _ | exact .tail _ (.head _) | exact .tail _ (.tail _ (.head _)) | exact .tail _ (.tail _ (.tail _ (.head _)))) ty_31) (.cons (.tmp rfl) .nil), .nil, rfl, rfl⟩
  · skip
    refine aSkip ?_
    refine aSeq ?_
    refine aSeq ?_
    refine aReg ?_
    refine sp pM ?_
    refine sp pB ?_
    refine sp pM ?_
    refine oSplitDec 15 rfl (fun c15 => ?_) (fun c15 => ?_)
    · skip
      refine gf ?_
      refine gf ?_
      refine gf ?_
      refine gf ?_
      refine gf ?_
      refine sp pK ?_
      refine sp pM ?_
      refine gf ?_
      refine gf ?_
      refine gf ?_
      refine sp pK ?_
      refine oNil ?_
      refine aCondT rfl ?_
      refine aSeq ?_
      refine aReg ?_
      refine sr (by first | exact rBWa ty_31 | exact rBW ty_31 | exact rBA ty_31) ?_
      refine sa ?_
      refine oStW rfl rfl rfl rfl (by repeat constructor) ty_31 ?_
      refine sp pMa ?_
      refine oNil ?_
      refine aRet ?_
      rw [write_arg (by simpa using c11) (by first | exact .inl (by assumption) | exact .inr (.inl (by omega)) | exact .inr (.inr (by omega)))]
      refine ⟨[.agg (dwC w), .int 1], [], _, .cons (.cellA (cs := dwC w) rfl (by first | exact .head _ | exact .tail _ (.head _) | exact .tail _ (.tail _ (.head _)) | exact .tail _ (.tail _ (.tail _ (.head _)))) ty_31) (.cons (.tmp rfl) .nil), .nil, rfl, rfl⟩
    · skip
      refine gp pM ?_
      refine gp (pFb fd_31_0) ?_
      refine gr (rB1 ty_29) ?_
      refine gp (by first | exact pLm sl_29 | exact pLs sl_29 | exact pLv sl_29) ?_
      refine gp pB ?_
      refine sp pK ?_
      refine sp pM ?_
      refine oSplitDec 22 rfl (fun c22 => ?_) (fun c22 => ?_)
      · skip
        refine gf ?_
        refine gf ?_
        refine gf ?_
        refine sp pK ?_
        refine oNil ?_
        refine aCondT rfl ?_
        refine aSeq ?_
        refine aReg ?_
        refine sr (by first | exact rBWa ty_31 | exact rBW ty_31 | exact rBA ty_31) ?_
        refine sa ?_
        refine oStW rfl rfl rfl rfl (by repeat constructor) ty_31 ?_
        refine sp pMa ?_
        refine oNil ?_
        refine aRet ?_
        rw [write_arg (by simpa using c11) (by first | exact .inl (by assumption) | exact .inr (.inl (by omega)) | exact .inr (.inr (by omega)))]
        refine ⟨[.agg (dwC w), .int 1], [], _, .cons (.cellA (cs := dwC w) rfl (by first | exact .head _ | exact .tail _ (.head _) | exact .tail _ (.tail _ (.head _)) | exact .tail _ (.tail _ (.tail _ (.head _)))) ty_31) (.cons (.tmp rfl) .nil), .nil, rfl, rfl⟩
      · skip
        refine gp pM ?_
        refine gp (by first | exact pLm sl_35 | exact pLs sl_35) ?_
        refine gp pB ?_
        refine sp pK ?_
        refine oNil ?_
        refine aCondNe rfl (fun c26 => ?_) (fun c26 => ?_)
        · skip
          refine aSeq ?_
          refine aReg ?_
          refine sr (by first | exact rBWa ty_31 | exact rBW ty_31 | exact rBA ty_31) ?_
          refine sa ?_
          refine oStW rfl rfl rfl rfl (by repeat constructor) ty_31 ?_
          refine sp pMa ?_
          refine oNil ?_
          refine aRet ?_
          rw [write_arg (by simpa using c11) (by first | exact .inl (by assumption) | exact .inr (.inl (by omega)) | exact .inr (.inr (by omega)))]
          refine ⟨[.agg (dwC w), .int 1], [], _, .cons (.cellA (cs := dwC w) rfl (by first | exact .head _ | exact .tail _ (.head _) | exact .tail _ (.tail _ (.head _)) | exact .tail _ (.tail _ (.tail _ (.head _)))) ty_31) (.cons (.tmp rfl) .nil), .nil, rfl, rfl⟩
        · skip
          refine aSkip ?_
          refine aSeq ?_
          have hbl : b.length = 512 := by omega
          have hwa := write_act (w := w) (i := i) (b := b) (by simpa using c11) (by omega) (by omega) hbl
          refine aReg ?_
          refine sr (by first | exact rBWa ty_31 | exact rBW ty_31 | exact rBA ty_31) ?_
          refine sq ?_
          refine qCall0 rfl rfl (by decide) rfl rfl (ref03_act w ha) ?_
          rintro _ _ ⟨rfl, rfl⟩
          refine sp pM ?_
          refine sp pX ?_
          refine sp pX ?_
          refine sq ?_
          refine qAlloc rfl rfl (by decide) ze_31 rfl (fun b8 => ?_)
          refine sa ?_
          refine oStW rfl rfl rfl rfl (by repeat constructor) ty_31 ?_
          refine sp pMa ?_
          refine oNil ?_
          refine aSeq ?_
          refine aSeq ?_
          refine aReg ?_
          refine sp pM ?_
          refine sp pNo ?_
          refine oNil ?_
          refine aCondNot rfl (fun c34 => ?_) (fun c34 => ?_)
          · skip
            refine aSeq ?_
            refine aReg ?_
            refine sr (by first | exact rBWa ty_31 | exact rBW ty_31 | exact rBA ty_31) ?_
            refine sa ?_
            refine oStW rfl rfl rfl rfl (by repeat constructor) ty_31 ?_
            refine sp pMa ?_
            refine oNil ?_
            refine aRet ?_
            have ha2 : w.act.2 = false := by simpa using c34
            rw [hwa, if_neg (by rw [ha2]; decide)]
            refine ⟨[.agg (dwC w.act.1), .int 7], [], _, .cons (.cellA (cs := dwC w.act.1) rfl (by first | exact .head _ | exact .tail _ (.head _) | exact .tail _ (.tail _ (.head _)) | exact .tail _ (.tail _ (.tail _ (.head _)))) ty_31) (.cons (.tmp rfl) .nil), .nil, rfl, rfl⟩
          · skip
            refine aSkip ?_
            refine aSeq ?_
            have ha2 : w.act.2 = true := by simpa using c34
            rw [if_pos ha2] at hwa
            have hww : w.act.1.waits.length = w.safe.length := hwn
            refine aReg ?_
            refine sq ?_
            refine qLit (l := []) rfl rfl (by decide) us_29 ty_35 ze_35 rfl (by decide) (by decide) rfl rfl rfl (fun b36 => ?_)
            refine sp (pFb fd_31_1) ?_
            refine sr (rB1 ty_29) ?_
            refine sa ?_
            refine oApp rfl rfl (by decide) rfl (by repeat constructor) rfl (.inl rfl) el_29 sl_29 rowC_len (by simp; omega) (by simp; omega) (fun g39 k39 => ?_)
            rw [show w.act.1.waits = w.waits from rfl]
            refine sp (pFb fd_31_1) ?_
            refine sa ?_
            refine oStB rfl rfl rfl rfl (by repeat constructor) ty_29 rfl (Nat.le_of_ble_eq_true rfl) rfl ?_
            refine oNil ?_
            refine aSeq ?_
            obtain ⟨x, hx⟩ : ∃ x, w.waits[i.toNat]? = some x := ⟨_, List.getElem?_eq_getElem (by omega)⟩
            refine aSome (g := g39) (.tl .hd) (ne_map (by rw [hwn]; exact hn1)) (fun gb hgb => ?_)
            subst hgb
            refine aDrawT ref03_Write_r9_t ref03_Write_r9_b [7] 8 #[false, false, false, false, false, false, false, false] (by kernel_rfl) rfl rfl (fun HT => ?_)
            refine dp HT 0 rfl (pFb fd_31_1) ?_
            refine dr HT 1 rfl (rB1 ty_29) ?_
            refine dp HT 2 rfl pM ?_
            refine dp HT 4 rfl pM ?_
            refine dGo ?_
            refine e1 HT 3 rfl ?_
            refine qLit (l := []) rfl rfl (by decide) us_35 ty_5 ze_5 rfl (by decide) (by decide) rfl rfl rfl (fun b44 => ?_)
            refine eOneS (i := 5) #[true, true, true, true, true, true, false, false] rfl (HT.one (by kernel_rfl)) (by decide) ?_
            · skip
              refine stA (hx := [.sl (some b44) 0 5 1 []]) (wantN rfl) (fun t ht => by cases ht <;> decide) (.cons (by repeat constructor) .nil) (by repeat constructor) ?_
              refine oApp rfl rfl (by decide) rfl (by repeat constructor) rfl (.inl rfl) el_35 sl_35 by1_len (by simp; omega) (by simp; omega) (fun g46 k46 => ?_)
              refine undel (d := 46) rfl ?_
              dsimp only [List.cons_append, List.nil_append]
              refine ep HT 6 rfl (pIdxO rfl rfl rfl es_29 (by omega) (by simp; omega)) ?_
              first | refine fWeak (weak_settle (k := 46) rfl .hd (by simp)) ?_ | skip
              refine eLast ?_
              first | refine fWeak (weak_settle (k := 46) rfl .hd (by simp)) ?_ | skip
              refine f1 HT 7 rfl ?_
              refine oStS (i := i.toNat) (j := 0) rfl rfl rfl rfl (by repeat constructor) ty_35 rfl (by omega) (map_get1 (f := rowC) hx) (by decide) rfl ?_
              refine fE HT ?_
              clear HT
              refine aSeq ?_
              refine aReg ?_
              refine sr (by first | exact rBWa ty_31 | exact rBW ty_31 | exact rBA ty_31) ?_
              refine oWeak (weak_deep (k := 48) (b := .agg (dwC { w.act.1 with waits := w.waits.set i.toNat b })) rfl (.cons .hd .nil) (.agg (.same (.sl (List.mem_singleton.2 rfl) (by simp) (by show Deep _ _ ((w.waits.set i.toNat b).map rowC); rw [← rows_set (x := x)]; exact Deep.refl) (.same (.same (.row .nil))))) (.row .nil))) ?_
              refine sa ?_
              refine oStW rfl rfl rfl rfl (by repeat constructor) ty_31 ?_
              refine sp pMa ?_
              refine oNil ?_
              refine aRet ?_
              rw [hwa]
              refine ⟨[.agg (dwC { w.act.1 with waits := w.waits.set i.toNat b }), .int 0], [], _, .cons (.cellA (cs := dwC { w.act.1 with waits := w.waits.set i.toNat b }) rfl (by first | exact .head _ | exact .tail _ (.head _) | exact .tail _ (.tail _ (.head _)) | exact .tail _ (.tail _ (.tail _ (.head _)))) ty_31) (.cons (.tmp rfl) .nil), .nil, rfl, rfl⟩
end A
end Go.Proofs.Ytnabkchagjjjnaa
set_option linter.unusedVariables false
set_option linter.unusedSimpArgs false
namespace Go.Proofs.Ytnabkchagjjjnaa
namespace A
theorem st_31 : structPlaces Try.prog 31 = some [(0, 1), (1, 1), (2, 1), (3, 1)] := by kernel_rfl
theorem rangeC_len (w : DW) (n : Nat) : ((List.range n).map w.get).length = n := by simp
/- waymarkref03.Flush -/
def ref03_Flush_r4_T : Bool × List (List Nat × List Nat) := (true, [([], []), ([0], [0]), ([1], [1]), ([2, 2], [2]), ([], []), ([4], [4]), ([3, 5], [3, 5]), ([], []), ([7, 6, 0, 1, 2, 3, 4, 5, 6, 7], [6, 7])])
def ref03_Flush_r4_B : List Nat := [0, 1, 3, 7, 0, 16, 63, 0, 255]
theorem ref03_Flush_r4_t : Go.Proofs.YtnabkchagjjjnaaW.PrintLast.rtab .any (Go.Proofs.YtnabkchagjjjnaaW.PrintLast.opsOf Try.f35 4) = ref03_Flush_r4_T := by kernel_rfl
theorem ref03_Flush_r4_b : Go.Proofs.YtnabkchagjjjnaaW.PrintLast.waitsOk ref03_Flush_r4_T.2 ref03_Flush_r4_B = true := by kernel_rfl
def ref03_Flush_r8_T : Bool × List (List Nat × List Nat) := (true, [([], []), ([0], [0]), ([], []), ([], []), ([2, 3], [2, 3]), ([4], [4]), ([1, 5, 4], [1, 5]), ([0, 1, 2, 3, 4, 5, 6], []), ([7, 6, 6, 0, 1, 2, 3, 4, 5, 6], [6, 7])])
def ref03_Flush_r8_B : List Nat := [0, 1, 0, 0, 12, 28, 63, 127, 255]
theorem ref03_Flush_r8_t : Go.Proofs.YtnabkchagjjjnaaW.PrintLast.rtab .any (Go.Proofs.YtnabkchagjjjnaaW.PrintLast.opsOf Try.f35 8) = ref03_Flush_r8_T := by kernel_rfl
theorem ref03_Flush_r8_b : Go.Proofs.YtnabkchagjjjnaaW.PrintLast.waitsOk ref03_Flush_r8_T.2 ref03_Flush_r8_B = true := by kernel_rfl
set_option maxRecDepth 100000 in
set_option maxHeartbeats 1000000 in
theorem ref03_Flush (w : DW) (f : Fit w) (ha : w.armed ≤ 9223372036854775807) : Triple Try.prog 35 [.agg (dwC w)] [] (fun q h' => q = .tup [.agg (dwC w.flush.1), .int w.flush.2] ∧ h' = []) := by
  have hwn := f.wn
  have hn2 := f.n2
  have hn1 := f.n1
  refine triple_ofR Try.func35 rfl (by kernel_rfl) rfl (by simp) ?_
  refine aSeq ?_
  refine aReg ?_
  refine sq ?_
  refine qBox rfl rfl (by decide) rfl rfl (fun b1 => ?_)
  refine sq ?_
  refine qAlloc rfl rfl (by decide) ze_31 rfl (fun b2 => ?_)
  refine sp pMa ?_
  refine oNil ?_
  refine aSeq ?_
  refine aReg ?_
  refine sr (by first | exact rBWa ty_31 | exact rBW ty_31 | exact rBA ty_31) ?_
  refine sq ?_
  refine qCall0 rfl rfl (by decide) rfl rfl (ref03_act w ha) ?_
  rintro _ _ ⟨rfl, rfl⟩
  refine sp pM ?_
  refine sp pX ?_
  refine sp pX ?_
  refine sq ?_
  refine qAlloc rfl rfl (by decide) ze_31 rfl (fun b4 => ?_)
  refine sa ?_
  refine oStW rfl rfl rfl rfl (by repeat constructor) ty_31 ?_
  refine sp pMa ?_
  refine oNil ?_
  refine aSeq ?_
  refine aSeq ?_
  refine aReg ?_
  refine sp pM ?_
  refine sp pNo ?_
  refine oNil ?_
  refine aCondNot rfl (fun c14 => ?_) (fun c14 => ?_)
  · skip
    refine aSeq ?_
    refine aReg ?_
    refine sr (by first | exact rBWa ty_31 | exact rBW ty_31 | exact rBA ty_31) ?_
    refine sa ?_
    refine oStW rfl rfl rfl rfl (by repeat constructor) ty_31 ?_
    refine sp pMa ?_
    refine oNil ?_
    refine aRet ?_
    rw [show w.flush = (w.act.1, 7) by rw [DW.flush, if_neg (by simpa using c14)]]
    refine ⟨[.agg (dwC w.act.1), .int 7], [], _, .cons (.cellA (cs := dwC w.act.1) rfl (by first | exact .head _ | exact .tail _ (.head _) | exact .tail _ (.tail _ (.head _)) | exact .tail _ (.tail _ (.tail _ (.head _)))) ty_31) (.cons (.tmp rfl) .nil), .nil, rfl, rfl⟩
  · skip
    refine aSkip ?_
    refine aSeq ?_
    refine aDrawT ref03_Flush_r4_t ref03_Flush_r4_b [8] 9 #[false, false, false, false, false, false, false, false, false] (by kernel_rfl) rfl rfl (fun HT => ?_)
    refine dp HT 0 rfl (pFb fd_31_0) ?_
    refine dr HT 1 rfl (rB1 ty_29) ?_
    refine dp HT 2 rfl (by first | exact pLm sl_29 | exact pLs sl_29 | exact pLv sl_29) ?_
    refine dp HT 4 rfl (pFb fd_31_2) ?_
    refine dr HT 5 rfl (rB1 ty_3) ?_
    refine dGo ?_
    refine eTwoS (i := 3) (j := 7) #[true, true, true, true, true, true, false, false, false] #[true, true, true, false, true, true, false, true, false] rfl rfl (HT.two (by kernel_rfl)) (by decide) (by decide) ?_ ?_
    · skip
      refine stQ (wantN rfl) (fun t ht => by cases ht <;> decide) ?_
      refine qMake (n := w.safe.length) (zs := rowC []) rfl rfl (by decide) rfl rfl rfl rfl el_29 ze_35 rfl rfl rep_nils (by omega) (by omega) (fun b19 => ?_)
      refine undel (d := 19) rfl ?_
      refine ef HT 6 rfl (pBuild rfl st_31 ze_31 rfl rfl rfl rfl) ?_
      refine e1 HT 7 rfl ?_
      refine qAlloc rfl rfl (by decide) ze_31 rfl (fun b6 => ?_)
      refine eLast ?_
      refine f1 HT 8 rfl ?_
      refine oStW rfl rfl rfl rfl (by repeat constructor) ty_31 ?_
      refine fE HT ?_
      clear HT
      refine aSeq ?_
      refine aSeq ?_
      refine aReg ?_
      refine sp pMa ?_
      refine oNil ?_
      refine aBlock ?_
      refine aLoopI (α := Nat × Option Nat × Nat) (fun (i, g, c) => i ≤ w.safe.length) (fun (i, g, c) => ([(1, .v (.pointer (some ⟨b1, 0, none⟩))), (2, .v (.pointer (some ⟨b2, 0, none⟩))), (6, .v (.pointer (some ⟨b6, 0, none⟩))), (7, .int i)], [.sl g c 35 1 (((List.range i).map w.get).map rowC), .box b6 [.v (slV g i c), .v (slV (some b19) w.safe.length w.safe.length), .int w.act.1.armed, .v (.bool false)], .sl (some b19) w.safe.length 35 1 (List.replicate w.safe.length (rowC [])), .box b1 (dwC w), .box b2 [.v (.slice none 0 0), .v (.slice none 0 0), .int 0, .v (.bool false)]])) (fun (i, g, c) => w.safe.length - i) (0, none, 0) ?_ ?_ ?_
      · skip
        omega
      · skip
        exact Weak.trans (weak_nil 35 1) (weak_sub ⟨rfl, rfl, rfl, rfl, trivial⟩ (by repeat constructor))
      · rintro ⟨i, g, c⟩ hi
        skip
        refine aSeq ?_
        refine aSeq ?_
        refine aReg ?_
        refine sp pM ?_
        refine sp (by first | exact pFb fd_31_0 | exact pFs fd_31_0) ?_
        refine sr (by first | exact rS1 ty_29 | exact rB1 ty_29 | exact rAr ty_29 | exact rArL ty_29 | exact rArR2 ty_29) ?_
        refine sp (by first | exact pLm sl_29 | exact pLs sl_29 | exact pLv sl_29) ?_
        refine sp pB ?_
        refine oNil ?_
        refine aCondDec rfl (fun c27 => ?_) (fun c27 => ?_)
        · skip
          refine aSkip ?_
          refine aSeq ?_
          refine aBlock ?_
          refine aDrawT ref03_Flush_r8_t ref03_Flush_r8_b [6, 8] 9 #[false, false, false, false, false, false, false, false, false] (by kernel_rfl) rfl rfl (fun HT => ?_)
          refine dp HT 0 rfl (by first | exact pFb fd_31_0 | exact pFs fd_31_0) ?_
          refine dr HT 1 rfl (by first | exact rS1 ty_29 | exact rB1 ty_29 | exact rAr ty_29 | exact rArL ty_29 | exact rArR2 ty_29) ?_
          refine dr HT 2 rfl (by first | exact rSW ty_31 rfl | exact rSA ty_31 | exact rBWa ty_31 | exact rBW ty_31 | exact rBA ty_31 | exact rArA ty_31 (fun _ => rfl)) ?_
          refine dp HT 3 rfl pM ?_
          refine dGo ?_
          refine e1 HT 4 rfl ?_
          refine qCall0 rfl rfl (by decide) rfl rfl (ref03_Get w i f (by omega)) ?_
          rintro _ _ ⟨rfl, rfl⟩
          refine e1 HT 5 rfl ?_
          refine qLit (l := [_]) rfl rfl (by decide) us_29 ty_35 ze_35 rfl (by decide) (by decide) rfl rfl rfl (fun b35 => ?_)
          refine eLast ?_
          refine f1 HT 6 rfl ?_
          refine oApp rfl rfl (by decide) rfl (by repeat constructor) (by rw [List.length_map, rangeC_len]) (srcOwn rfl (by repeat constructor) (by first | rfl | simp)) el_29 sl_29 (by intro z hz; rcases List.mem_cons.1 hz with rfl | hz; rfl; cases hz) (by simp; omega) (by simp; omega) (fun g36 k36 => ?_)
          refine fp HT 7 rfl (by first | exact pFb fd_31_0 | exact pFs fd_31_0) ?_
          refine f1 HT 8 rfl ?_
          refine oStB rfl rfl rfl rfl (by repeat constructor) ty_29 rfl (Nat.le_of_ble_eq_true rfl) rfl ?_
          refine fE HT ?_
          clear HT
          refine aReg ?_
          refine sp pM ?_
          refine sp pAd ?_
          refine sp pMa ?_
          refine oNil ?_
          refine ⟨(i + 1, g36, k36), by show i + 1 ≤ _; omega, by show w.safe.length - (i + 1) < w.safe.length - i; omega, ?_⟩
          dsimp only
          rw [← getK_step]
          have hlen : (((List.range i).map w.get).map rowC).length + (List.map avCells [bsA (w.get i)]).length = i + 1 := by simp
          rw [← hlen]
          exact weak_sub ⟨rfl, rfl, rfl, gInt rfl (by simp), trivial⟩ (.cons (.tl .hd) (.cons .hd (by repeat constructor)))
        · skip
          refine aExit rfl ?_
          refine aSeq ?_
          obtain rfl : i = w.safe.length := by omega
          refine aReg ?_
          refine sr (by first | exact rSW ty_31 rfl | exact rSA ty_31 | exact rBWa ty_31 | exact rBW ty_31 | exact rBA ty_31 | exact rArA ty_31 (fun _ => rfl)) ?_
          refine oWeak (weak_deep (k := 38) (b := .agg (dwC (⟨(List.range w.safe.length).map w.get, List.replicate w.safe.length [], w.act.1.armed, false⟩ : DW))) rfl (.cons .hd (.cons (.tl .hd) .nil)) (.agg (.sl (List.mem_cons_self ..) (by simp) Deep.refl (.sl (List.mem_cons_of_mem _ (List.mem_cons_self ..)) (by simp) (by show Deep _ _ ((List.replicate w.safe.length ([] : BS)).map rowC); rw [← rows_rep]; exact Deep.refl) (.same (.same (.row .nil))))) (.row .nil))) ?_
          refine sa ?_
          refine oStW rfl rfl rfl rfl (by repeat constructor) ty_31 ?_
          refine sp pMa ?_
          refine oNil ?_
          refine aRet ?_
          rw [show w.flush = ((⟨(List.range w.safe.length).map w.get, List.replicate w.safe.length [], w.act.1.armed, false⟩ : DW), 0) by rw [DW.flush, if_pos (by simpa using c14)]]
          refine ⟨[.agg (dwC (⟨(List.range w.safe.length).map w.get, List.replicate w.safe.length [], w.act.1.armed, false⟩ : DW)), .int 0], [], _, .cons (.cellA (cs := dwC (⟨(List.range w.safe.length).map w.get, List.replicate w.safe.length [], w.act.1.armed, false⟩ : DW)) rfl (by first | exact .head _ | exact .tail _ (.head _) | exact .tail _ (.tail _ (.head _)) | exact .tail _ (.tail _ (.tail _ (.head _)))) ty_31) (.cons (.tmp rfl) .nil), .nil, rfl, rfl⟩
    · skip
      refine stQ (wantN rfl) (fun t ht => by cases ht <;> decide) ?_
      refine qAlloc rfl rfl (by decide) ze_31 rfl (fun b6 => ?_)
      refine undel (d := 6) rfl ?_
      refine e1 HT 3 rfl ?_
      refine qMake (n := w.safe.length) (zs := rowC []) rfl rfl (by decide) rfl rfl rfl rfl el_29 ze_35 rfl rfl rep_nils (by omega) (by omega) (fun b19 => ?_)
      refine ef HT 6 rfl (pBuild rfl st_31 ze_31 rfl rfl rfl rfl) ?_
      refine eLast ?_
      refine f1 HT 8 rfl ?_
      refine oStW rfl rfl rfl rfl (by repeat constructor) ty_31 ?_
      refine fE HT ?_
      clear HT
      refine aSeq ?_
      refine aSeq ?_
      refine aReg ?_
      refine sp pMa ?_
      refine oNil ?_
      refine aBlock ?_
      refine aLoopI (α := Nat × Option Nat × Nat) (fun (i, g, c) => i ≤ w.safe.length) (fun (i, g, c) => ([(1, .v (.pointer (some ⟨b1, 0, none⟩))), (2, .v (.pointer (some ⟨b2, 0, none⟩))), (6, .v (.pointer (some ⟨b6, 0, none⟩))), (7, .int i)], [.sl g c 35 1 (((List.range i).map w.get).map rowC), .box b6 [.v (slV g i c), .v (slV (some b19) w.safe.length w.safe.length), .int w.act.1.armed, .v (.bool false)], .sl (some b19) w.safe.length 35 1 (List.replicate w.safe.length (rowC [])), .box b1 (dwC w), .box b2 [.v (.slice none 0 0), .v (.slice none 0 0), .int 0, .v (.bool false)]])) (fun (i, g, c) => w.safe.length - i) (0, none, 0) ?_ ?_ ?_
      · skip
        omega
      · skip
        exact Weak.trans (weak_nil 35 1) (weak_sub ⟨rfl, rfl, rfl, rfl, trivial⟩ (by repeat constructor))
      · rintro ⟨i, g, c⟩ hi
        skip
        refine aSeq ?_
        refine aSeq ?_
        refine aReg ?_
        refine sp pM ?_
        refine sp (by first | exact pFb fd_31_0 | exact pFs fd_31_0) ?_
        refine sr (by first | exact rS1 ty_29 | exact rB1 ty_29 | exact rAr ty_29 | exact rArL ty_29 | exact rArR2 ty_29) ?_
        refine sp (by first | exact pLm sl_29 | exact pLs sl_29 | exact pLv sl_29) ?_
        refine sp pB ?_
        refine oNil ?_
        refine aCondDec rfl (fun c27 => ?_) (fun c27 => ?_)
        · skip
          refine aSkip ?_
          refine aSeq ?_
          refine aBlock ?_
          refine aDrawT ref03_Flush_r8_t ref03_Flush_r8_b [6, 8] 9 #[false, false, false, false, false, false, false, false, false] (by kernel_rfl) rfl rfl (fun HT => ?_)
          refine dp HT 0 rfl (by first | exact pFb fd_31_0 | exact pFs fd_31_0) ?_
          refine dr HT 1 rfl (by first | exact rS1 ty_29 | exact rB1 ty_29 | exact rAr ty_29 | exact rArL ty_29 | exact rArR2 ty_29) ?_
          refine dr HT 2 rfl (by first | exact rSW ty_31 rfl | exact rSA ty_31 | exact rBWa ty_31 | exact rBW ty_31 | exact rBA ty_31 | exact rArA ty_31 (fun _ => rfl)) ?_
          refine dp HT 3 rfl pM ?_
          refine dGo ?_
          refine e1 HT 4 rfl ?_
          refine qCall0 rfl rfl (by decide) rfl rfl (ref03_Get w i f (by omega)) ?_
          rintro _ _ ⟨rfl, rfl⟩
          refine e1 HT 5 rfl ?_
          refine qLit (l := [_]) rfl rfl (by decide) us_29 ty_35 ze_35 rfl (by decide) (by decide) rfl rfl rfl (fun b35 => ?_)
          refine eLast ?_
          refine f1 HT 6 rfl ?_
          refine oApp rfl rfl (by decide) rfl (by repeat constructor) (by rw [List.length_map, rangeC_len]) (srcOwn rfl (by repeat constructor) (by first | rfl | simp)) el_29 sl_29 (by intro z hz; rcases List.mem_cons.1 hz with rfl | hz; rfl; cases hz) (by simp; omega) (by simp; omega) (fun g36 k36 => ?_)
          refine fp HT 7 rfl (by first | exact pFb fd_31_0 | exact pFs fd_31_0) ?_
          refine f1 HT 8 rfl ?_
          refine oStB rfl rfl rfl rfl (by repeat constructor) ty_29 rfl (Nat.le_of_ble_eq_true rfl) rfl ?_
          refine fE HT ?_
          clear HT
          refine aReg ?_
          refine sp pM ?_
          refine sp pAd ?_
          refine sp pMa ?_
          refine oNil ?_
          refine ⟨(i + 1, g36, k36), by show i + 1 ≤ _; omega, by show w.safe.length - (i + 1) < w.safe.length - i; omega, ?_⟩
          dsimp only
          rw [← getK_step]
          have hlen : (((List.range i).map w.get).map rowC).length + (List.map avCells [bsA (w.get i)]).length = i + 1 := by simp
          rw [← hlen]
          exact weak_sub ⟨rfl, rfl, rfl, gInt rfl (by simp), trivial⟩ (.cons (.tl .hd) (.cons .hd (by repeat constructor)))
        · skip
          refine aExit rfl ?_
          refine aSeq ?_
          obtain rfl : i = w.safe.length := by omega
          refine aReg ?_
          refine sr (by first | exact rSW ty_31 rfl | exact rSA ty_31 | exact rBWa ty_31 | exact rBW ty_31 | exact rBA ty_31 | exact rArA ty_31 (fun _ => rfl)) ?_
          refine oWeak (weak_deep (k := 38) (b := .agg (dwC (⟨(List.range w.safe.length).map w.get, List.replicate w.safe.length [], w.act.1.armed, false⟩ : DW))) rfl (.cons .hd (.cons (.tl .hd) .nil)) (.agg (.sl (List.mem_cons_self ..) (by simp) Deep.refl (.sl (List.mem_cons_of_mem _ (List.mem_cons_self ..)) (by simp) (by show Deep _ _ ((List.replicate w.safe.length ([] : BS)).map rowC); rw [← rows_rep]; exact Deep.refl) (.same (.same (.row .nil))))) (.row .nil))) ?_
          refine sa ?_
          refine oStW rfl rfl rfl rfl (by repeat constructor) ty_31 ?_
          refine sp pMa ?_
          refine oNil ?_
          refine aRet ?_
          rw [show w.flush = ((⟨(List.range w.safe.length).map w.get, List.replicate w.safe.length [], w.act.1.armed, false⟩ : DW), 0) by rw [DW.flush, if_pos (by simpa using c14)]]
          refine ⟨[.agg (dwC (⟨(List.range w.safe.length).map w.get, List.replicate w.safe.length [], w.act.1.armed, false⟩ : DW)), .int 0], [], _, .cons (.cellA (cs := dwC (⟨(List.range w.safe.length).map w.get, List.replicate w.safe.length [], w.act.1.armed, false⟩ : DW)) rfl (by first | exact .head _ | exact .tail _ (.head _) | exact .tail _ (.tail _ (.head _)) | exact .tail _ (.tail _ (.tail _ (.head _)))) ty_31) (.cons (.tmp rfl) .nil), .nil, rfl, rfl⟩
end A
end Go.Proofs.Ytnabkchagjjjnaa
set_option linter.unusedVariables false
set_option linter.unusedSimpArgs false
namespace Go.Proofs.Ytnabkchagjjjnaa
namespace A
theorem crash1_len (w : DW) (s : List BS) (p : Nat × DTear) : (crash1 w s p).length = s.length := by
  unfold crash1
  split
  · simp
  · split <;> simp
/- waymarkref03.New -/
def ref03_New_r5_T : Bool × List (List Nat × List Nat) := (true, [([], []), ([0], [0]), ([], []), ([2], [2]), ([1, 3], [1, 3]), ([0, 1, 2, 3, 4], []), ([5, 4, 4, 0, 1, 2, 3, 4], [4, 5])])
def ref03_New_r5_B : List Nat := [0, 1, 0, 4, 15, 31, 63]
theorem ref03_New_r5_t : Go.Proofs.YtnabkchagjjjnaaW.PrintLast.rtab .any (Go.Proofs.YtnabkchagjjjnaaW.PrintLast.opsOf Try.f9 5) = ref03_New_r5_T := by kernel_rfl
theorem ref03_New_r5_b : Go.Proofs.YtnabkchagjjjnaaW.PrintLast.waitsOk ref03_New_r5_T.2 ref03_New_r5_B = true := by kernel_rfl
set_option maxRecDepth 100000 in
set_option maxHeartbeats 1000000 in
theorem ref03_New (n : Nat) (h1 : 1 ≤ n) (h2 : n ≤ 1024) : Triple Try.prog 9 [.int n] [] (fun q h' => q = .agg (dwC (DW.new n)) ∧ h' = []) := by
  refine triple_ofR Try.func9 rfl (by kernel_rfl) rfl (by simp) ?_
  refine aSeq ?_
  refine aReg ?_
  refine sq ?_
  refine qAlloc rfl rfl (by decide) ze_31 rfl (fun b2 => ?_)
  refine oNil ?_
  refine aSeq ?_
  refine aReg ?_
  refine sp pM ?_
  refine sq ?_
  refine qMake (n := n) (zs := rowC []) rfl rfl (by decide) rfl rfl rfl rfl el_29 ze_35 rfl rfl rep_nils (by omega) (by omega) (fun b6 => ?_)
  refine sp (pBuild rfl st_31 ze_31 rfl rfl rfl rfl) ?_
  refine sq ?_
  refine qAlloc rfl rfl (by decide) ze_31 rfl (fun b3 => ?_)
  refine sa ?_
  refine oStW rfl rfl rfl rfl (by repeat constructor) ty_31 ?_
  refine oNil ?_
  refine aSeq ?_
  refine aSeq ?_
  refine aReg ?_
  refine sp pMa ?_
  refine oNil ?_
  refine aBlock ?_
  refine aLoopI (α := Nat × Option Nat × Nat) (fun (i, g, c) => i ≤ n) (fun (i, g, c) => ([(0, .int n), (2, .v (.pointer (some ⟨b2, 0, none⟩))), (3, .v (.pointer (some ⟨b3, 0, none⟩))), (4, .int i)], [.sl g c 35 1 ((List.replicate i zeros).map rowC), .box b3 [.v (slV g i c), .v (slV (some b6) n n), .int (-1), .v (.bool false)], .sl (some b6) n 35 1 (List.replicate n (rowC [])), .box b2 [.v (.slice none 0 0), .v (.slice none 0 0), .int 0, .v (.bool false)]])) (fun (i, g, c) => n - i) (0, none, 0) ?_ ?_ ?_
  · skip
    omega
  · skip
    exact Weak.trans (weak_nil 35 1) (weak_sub ⟨rfl, rfl, rfl, rfl, trivial⟩ (by repeat constructor))
  · rintro ⟨i, g, c⟩ hi
    skip
    refine aSeq ?_
    refine aSeq ?_
    refine aReg ?_
    refine sp pM ?_
    refine sp pM ?_
    refine sp pB ?_
    refine oNil ?_
    refine aCondDec rfl (fun c10 => ?_) (fun c10 => ?_)
    · skip
      refine aSkip ?_
      refine aSeq ?_
      refine aBlock ?_
      refine aDrawT ref03_New_r5_t ref03_New_r5_b [4, 6] 7 #[false, false, false, false, false, false, false] (by kernel_rfl) rfl rfl (fun HT => ?_)
      refine dp HT 0 rfl (by first | exact pFb fd_31_0 | exact pFs fd_31_0) ?_
      refine dr HT 1 rfl (by first | exact rS1 ty_29 | exact rB1 ty_29 | exact rAr ty_29 | exact rArL ty_29 | exact rArR2 ty_29) ?_
      refine dGo ?_
      refine e1 HT 2 rfl ?_
      refine qMake (n := 512) (zs := by1 0) rfl rfl (by decide) rfl rfl rfl rfl el_35 ze_5 rfl rfl rep_zeros (by decide) (by decide) (fun b15 => ?_)
      refine eSettle (k := 15) rfl .hd List.length_replicate.symm ?_
      refine e1 HT 3 rfl ?_
      refine qLit (l := [_]) rfl rfl (by decide) us_29 ty_35 ze_35 rfl (by decide) (by decide) rfl rfl rfl (fun b16 => ?_)
      refine eLast ?_
      refine f1 HT 4 rfl ?_
      refine oApp rfl rfl (by decide) rfl (by repeat constructor) (by simp) (srcOwn rfl (by repeat constructor) (by first | rfl | simp)) el_29 sl_29 (by intro z hz; rcases List.mem_cons.1 hz with rfl | hz; rfl; cases hz) (by simp; omega) (by simp; omega) (fun g17 k17 => ?_)
      refine fp HT 5 rfl (by first | exact pFb fd_31_0 | exact pFs fd_31_0) ?_
      refine f1 HT 6 rfl ?_
      refine oStB rfl rfl rfl rfl (by repeat constructor) ty_29 rfl (Nat.le_of_ble_eq_true rfl) rfl ?_
      refine fE HT ?_
      clear HT
      refine aReg ?_
      refine sp pM ?_
      refine sp pAd ?_
      refine sp pMa ?_
      refine oNil ?_
      refine ⟨(i + 1, g17, k17), by show i + 1 ≤ _; omega, by show n - (i + 1) < n - i; omega, ?_⟩
      dsimp only
      rw [← zrow_step, show rowC zeros = [AV.sl 1 (List.replicate 512 (by1 0))] by rw [rowC, bsA, zeros_map]]
      have hlen : ((List.replicate i zeros).map rowC).length + (List.map avCells [AV.sl 1 (List.replicate 512 (by1 0))]).length = i + 1 := by rw [List.length_map, List.length_map, List.length_replicate]; rfl
      rw [← hlen]
      exact weak_sub ⟨rfl, rfl, rfl, gInt rfl (by simp), trivial⟩ (.cons (.tl .hd) (.cons .hd (by repeat constructor)))
    · skip
      refine aExit rfl ?_
      refine aSeq ?_
      obtain rfl : i = n := by omega
      refine aReg ?_
      refine sr (by first | exact rSW ty_31 rfl | exact rSA ty_31 | exact rBWa ty_31 | exact rBW ty_31 | exact rBA ty_31 | exact rArA ty_31 (fun _ => rfl)) ?_
      refine oWeak (weak_deep (k := 19) (b := .agg (dwC (DW.new i))) rfl (.cons .hd (.cons (.tl .hd) .nil)) (.agg (.sl (List.mem_cons_self ..) (by simp) Deep.refl (.sl (List.mem_cons_of_mem _ (List.mem_cons_self ..)) (by simp) (by show Deep _ _ ((List.replicate i ([] : BS)).map rowC); rw [← rows_rep]; exact Deep.refl) (.same (.same (.row .nil))))) (.row .nil))) ?_
      refine sa ?_
      refine oStW rfl rfl rfl rfl (by repeat constructor) ty_31 ?_
      refine oNil ?_
      refine aRet ?_
      refine ⟨[.agg (dwC (DW.new i))], [], _, .cons (.cellA (cs := dwC (DW.new i)) rfl (.head _) ty_31) .nil, .nil, rfl, rfl⟩
/- waymarkref03.Crash -/
def ref03_Crash_r2_T : Bool × List (List Nat × List Nat) := (true, [([], []), ([], []), ([1], [1]), ([0, 2], [0, 2]), ([], []), ([4], [4]), ([5], [5]), ([6, 6], [6]), ([3, 7], [3, 7]), ([], []), ([9, 8, 3, 0, 1, 2, 3, 4, 5, 6, 7, 8, 9], [8, 9])])
def ref03_Crash_r2_B : List Nat := [0, 0, 2, 7, 0, 16, 48, 112, 255, 0, 1023]
theorem ref03_Crash_r2_t : Go.Proofs.YtnabkchagjjjnaaW.PrintLast.rtab .any (Go.Proofs.YtnabkchagjjjnaaW.PrintLast.opsOf Try.f36 2) = ref03_Crash_r2_T := by kernel_rfl
theorem ref03_Crash_r2_b : Go.Proofs.YtnabkchagjjjnaaW.PrintLast.waitsOk ref03_Crash_r2_T.2 ref03_Crash_r2_B = true := by kernel_rfl
def ref03_Crash_r7_T : Bool × List (List Nat × List Nat) := (true, [([], []), ([0], [0]), ([], []), ([], []), ([2, 3], [2, 3]), ([4], [4]), ([], []), ([6], [6]), ([], []), ([], []), ([8, 9], [8, 9]), ([10], [10]), ([7, 11], [7, 11]), ([12], [12]), ([1, 5, 0, 1, 2, 3, 4, 5, 6, 7, 8, 9, 10, 11, 12, 13], [1, 5]), ([14, 13, 0, 1, 2, 3, 4, 5, 6, 7, 8, 9, 10, 11, 12, 13], [13, 14])])
def ref03_Crash_r7_B : List Nat := [0, 1, 0, 0, 12, 28, 0, 64, 0, 0, 768, 1792, 4032, 8128, 16383, 32767]
theorem ref03_Crash_r7_t : Go.Proofs.YtnabkchagjjjnaaW.PrintLast.rtab .any (Go.Proofs.YtnabkchagjjjnaaW.PrintLast.opsOf Try.f36 7) = ref03_Crash_r7_T := by kernel_rfl
theorem ref03_Crash_r7_b : Go.Proofs.YtnabkchagjjjnaaW.PrintLast.waitsOk ref03_Crash_r7_T.2 ref03_Crash_r7_B = true := by kernel_rfl
def ref03_Crash_r9_T : Bool × List (List Nat × List Nat) := (true, [([], []), ([0], [0]), ([], []), ([], []), ([2, 3], [2, 3]), ([4], [4]), ([], []), ([], []), ([6, 7], [6, 7]), ([8], [8]), ([9], [9]), ([], []), ([11], [11]), ([], []), ([], []), ([13, 14], [13, 14]), ([15], [15]), ([12, 16], [12, 16]), ([17], [17]), ([10, 18], [10, 18]), ([1, 5, 0, 1, 2, 3, 4, 5, 6, 7, 8, 9, 10, 11, 12, 13, 14, 15, 16, 17, 18, 19], [1, 5]), ([20, 19, 19, 0, 1, 2, 3, 4, 5, 6, 7, 8, 9, 10, 11, 12, 13, 14, 15, 16, 17, 18, 19], [19, 20])])
def ref03_Crash_r9_B : List Nat := [0, 1, 0, 0, 12, 28, 0, 0, 192, 448, 960, 0, 2048, 0, 0, 24576, 57344, 129024, 260096, 524224, 1048575, 2097151]
theorem ref03_Crash_r9_t : Go.Proofs.YtnabkchagjjjnaaW.PrintLast.rtab .any (Go.Proofs.YtnabkchagjjjnaaW.PrintLast.opsOf Try.f36 9) = ref03_Crash_r9_T := by kernel_rfl
theorem ref03_Crash_r9_b : Go.Proofs.YtnabkchagjjjnaaW.PrintLast.waitsOk ref03_Crash_r9_T.2 ref03_Crash_r9_B = true := by kernel_rfl
set_option maxRecDepth 100000 in
set_option maxHeartbeats 2000000 in
theorem ref03_Crash (w : DW) (f : Fit w) (l : List DTear) (hl : l.length ≤ 1000000) (hb : ∀ t ∈ l, t.b.length ≤ 1000) : Triple Try.prog 36 [.agg (dwC w), .sl 2 (l.map tearC)] [] (fun q h' => q = .agg (dwC (w.crash l)) ∧ h' = []) := by
  have hwn := f.wn
  have hn2 := f.n2
  have hn1 := f.n1
  have hwl : w.waiting.length ≤ w.waits.length := by rw [← waitK_all]; exact waitK_len w _
  refine triple_ofR Try.func36 rfl (by kernel_rfl) rfl (by simp) ?_
  refine aSeq ?_
  refine aReg ?_
  refine sq ?_
  refine qBox rfl rfl (by decide) rfl rfl (fun b2 => ?_)
  refine sq ?_
  refine qAlloc rfl rfl (by decide) ze_31 rfl (fun b4 => ?_)
  refine oNil ?_
  refine aSeq ?_
  refine aReg ?_
  refine sr (by first | exact rBWa ty_31 | exact rBW ty_31 | exact rBA ty_31) ?_
  refine sa ?_
  refine aCall rfl rfl (by decide) rfl rfl .nil (ref03_Waiting w f) ?_
  rintro _ _ ⟨g9, c9, rfl, rfl⟩
  refine oWeak (weak_settle (k := 9) rfl .hd (natsA_len _).symm) ?_
  refine sp pMa ?_
  refine oNil ?_
  refine aCutI (α := Option Nat × Nat × Nat × Nat) (fun (g, c, p, q) => True) (fun (g, c, p, q) => ([(1, .sl 2 (l.map tearC)), (2, .v (.pointer (some ⟨b2, 0, none⟩))), (4, .v (.pointer (some ⟨b4, 0, none⟩))), (5, waitA w), (6, .v (.pointer (some ⟨p, 0, none⟩)))], [.sl g c 35 1 (w.safe.map rowC), .box p [.v (slV g w.safe.length c), .v (slV (some q) w.safe.length w.safe.length), .int (-1), .v (.bool false)], .sl (some q) w.safe.length 35 1 (List.replicate w.safe.length (rowC [])), .box b2 (dwC w), .box b4 [.v (.slice none 0 0), .v (.slice none 0 0), .int 0, .v (.bool false)]])) ?_ ?_
  · skip
    refine aDrawT ref03_Crash_r2_t ref03_Crash_r2_b [10] 11 #[false, false, false, false, false, false, false, false, false, false, false] (by kernel_rfl) rfl rfl (fun HT => ?_)
    refine dp HT 1 rfl (pFb fd_31_0) ?_
    refine dr HT 2 rfl (rB1 ty_29) ?_
    refine dp HT 4 rfl (pFb fd_31_0) ?_
    refine dr HT 5 rfl (rB1 ty_29) ?_
    refine dp HT 6 rfl (by first | exact pLm sl_29 | exact pLs sl_29 | exact pLv sl_29) ?_
    refine dGo ?_
    refine eThreeS (i := 0) (j := 7) (k := 9) #[true, true, true, false, true, true, true, false, false, false, false] #[false, true, true, false, true, true, true, true, false, false, false] #[false, true, true, false, true, true, true, false, false, true, false] rfl rfl rfl (HT.three (by kernel_rfl)) (by decide) (by decide) (by decide) ?_ ?_ ?_
    · skip
      refine stQ (wantN rfl) (fun t ht => by cases ht <;> decide) ?_
      refine qLit (l := []) rfl rfl (by decide) us_29 ty_35 ze_35 rfl (by decide) (by decide) rfl rfl rfl (fun b10 => ?_)
      refine undel (d := 10) rfl ?_
      refine eThreeS (i := 3) (j := 7) (k := 9) #[true, true, true, true, true, true, true, false, false, false, false] #[true, true, true, false, true, true, true, true, false, false, false] #[true, true, true, false, true, true, true, false, false, true, false] rfl rfl rfl (HT.three (by kernel_rfl)) (by decide) (by decide) (by decide) ?_ ?_ ?_
      · skip
        refine stA (hx := [.sl (some b10) 0 35 1 []]) (wantN rfl) (fun t ht => by cases ht <;> decide) (.cons (by repeat constructor) .nil) (by repeat constructor) ?_
        refine oApp rfl rfl (by decide) rfl (by repeat constructor) rfl (.inl rfl) el_29 sl_29 rowC_len (by simp; omega) (by simp; omega) (fun g13 k13 => ?_)
        refine undel (d := 13) rfl ?_
        dsimp only [List.cons_append, List.nil_append]
        refine eTwoS (i := 7) (j := 9) #[true, true, true, true, true, true, true, true, false, false, false] #[true, true, true, true, true, true, true, false, false, true, false] rfl rfl (HT.two (by kernel_rfl)) (by decide) (by decide) ?_ ?_
        · skip
          refine stQ (wantN rfl) (fun t ht => by cases ht <;> decide) ?_
          refine qMake (n := w.safe.length) (zs := rowC []) rfl rfl (by decide) rfl rfl rfl rfl el_29 ze_35 rfl rfl rep_nils (by omega) (by omega) (fun b17 => ?_)
          refine undel (d := 17) rfl ?_
          refine ef HT 8 rfl (pBuild rfl st_31 ze_31 rfl rfl rfl rfl) ?_
          refine e1 HT 9 rfl ?_
          refine qAlloc rfl rfl (by decide) ze_31 rfl (fun b6 => ?_)
          refine eLast ?_
          refine f1 HT 10 rfl ?_
          refine oStW rfl rfl rfl rfl (by repeat constructor) ty_31 ?_
          refine fE HT ?_
          clear HT
          refine ⟨(g13, k13, b6, b17), trivial, ?_⟩
          dsimp only
          have hlen : (List.map avCells []).length + (w.safe.map rowC).length = w.safe.length := by simp
          rw [← hlen]
          exact weak_sub ⟨rfl, rfl, rfl, rfl, rfl, trivial⟩ (by repeat constructor)
        · skip
          refine stQ (wantN rfl) (fun t ht => by cases ht <;> decide) ?_
          refine qAlloc rfl rfl (by decide) ze_31 rfl (fun b6 => ?_)
          refine undel (d := 6) rfl ?_
          refine e1 HT 7 rfl ?_
          refine qMake (n := w.safe.length) (zs := rowC []) rfl rfl (by decide) rfl rfl rfl rfl el_29 ze_35 rfl rfl rep_nils (by omega) (by omega) (fun b17 => ?_)
          refine ef HT 8 rfl (pBuild rfl st_31 ze_31 rfl rfl rfl rfl) ?_
          refine eLast ?_
          refine f1 HT 10 rfl ?_
          refine oStW rfl rfl rfl rfl (by repeat constructor) ty_31 ?_
          refine fE HT ?_
          clear HT
          refine ⟨(g13, k13, b6, b17), trivial, ?_⟩
          dsimp only
          have hlen : (List.map avCells []).length + (w.safe.map rowC).length = w.safe.length := by simp
          rw [← hlen]
          exact weak_sub ⟨rfl, rfl, rfl, rfl, rfl, trivial⟩ (by repeat constructor)
      · skip
        refine stQ (wantN rfl) (fun t ht => by cases ht <;> decide) ?_
        refine qMake (n := w.safe.length) (zs := rowC []) rfl rfl (by decide) rfl rfl rfl rfl el_29 ze_35 rfl rfl rep_nils (by omega) (by omega) (fun b17 => ?_)
        refine undel (d := 17) rfl ?_
        refine eTwoS (i := 3) (j := 9) #[true, true, true, true, true, true, true, true, false, false, false] #[true, true, true, false, true, true, true, true, false, true, false] rfl rfl (HT.two (by kernel_rfl)) (by decide) (by decide) ?_ ?_
        · skip
          refine stA (hx := [.sl (some b10) 0 35 1 []]) (wantN rfl) (fun t ht => by cases ht <;> decide) (.cons (by repeat constructor) .nil) (by repeat constructor) ?_
          refine oApp rfl rfl (by decide) rfl (by repeat constructor) rfl (.inl rfl) el_29 sl_29 rowC_len (by simp; omega) (by simp; omega) (fun g13 k13 => ?_)
          refine undel (d := 13) rfl ?_
          dsimp only [List.cons_append, List.nil_append]
          refine ef HT 8 rfl (pBuild rfl st_31 ze_31 rfl rfl rfl rfl) ?_
          refine e1 HT 9 rfl ?_
          refine qAlloc rfl rfl (by decide) ze_31 rfl (fun b6 => ?_)
          refine eLast ?_
          refine f1 HT 10 rfl ?_
          refine oStW rfl rfl rfl rfl (by repeat constructor) ty_31 ?_
          refine fE HT ?_
          clear HT
          refine ⟨(g13, k13, b6, b17), trivial, ?_⟩
          dsimp only
          have hlen : (List.map avCells []).length + (w.safe.map rowC).length = w.safe.length := by simp
          rw [← hlen]
          exact weak_sub ⟨rfl, rfl, rfl, rfl, rfl, trivial⟩ (by repeat constructor)
        · skip
          refine stQ (wantN rfl) (fun t ht => by cases ht <;> decide) ?_
          refine qAlloc rfl rfl (by decide) ze_31 rfl (fun b6 => ?_)
          refine undel (d := 6) rfl ?_
          refine eOneS (i := 3) #[true, true, true, true, true, true, true, true, false, true, false] rfl (HT.one (by kernel_rfl)) (by decide) ?_
          · skip
            refine stA (hx := [.sl (some b10) 0 35 1 []]) (wantN rfl) (fun t ht => by cases ht <;> decide) (.cons (by repeat constructor) .nil) (by repeat constructor) ?_
            refine oApp rfl rfl (by decide) rfl (by repeat constructor) rfl (.inl rfl) el_29 sl_29 rowC_len (by simp; omega) (by simp; omega) (fun g13 k13 => ?_)
            refine undel (d := 13) rfl ?_
            dsimp only [List.cons_append, List.nil_append]
            refine ef HT 8 rfl (pBuild rfl st_31 ze_31 rfl rfl rfl rfl) ?_
            refine eLast ?_
            refine f1 HT 10 rfl ?_
            refine oStW rfl rfl rfl rfl (by repeat constructor) ty_31 ?_
            refine fE HT ?_
            clear HT
            refine ⟨(g13, k13, b6, b17), trivial, ?_⟩
            dsimp only
            have hlen : (List.map avCells []).length + (w.safe.map rowC).length = w.safe.length := by simp
            rw [← hlen]
            exact weak_sub ⟨rfl, rfl, rfl, rfl, rfl, trivial⟩ (by repeat constructor)
      · skip
        refine stQ (wantN rfl) (fun t ht => by cases ht <;> decide) ?_
        refine qAlloc rfl rfl (by decide) ze_31 rfl (fun b6 => ?_)
        refine undel (d := 6) rfl ?_
        refine eTwoS (i := 3) (j := 7) #[true, true, true, true, true, true, true, false, false, true, false] #[true, true, true, false, true, true, true, true, false, true, false] rfl rfl (HT.two (by kernel_rfl)) (by decide) (by decide) ?_ ?_
        · skip
          refine stA (hx := [.sl (some b10) 0 35 1 []]) (wantN rfl) (fun t ht => by cases ht <;> decide) (.cons (by repeat constructor) .nil) (by repeat constructor) ?_
          refine oApp rfl rfl (by decide) rfl (by repeat constructor) rfl (.inl rfl) el_29 sl_29 rowC_len (by simp; omega) (by simp; omega) (fun g13 k13 => ?_)
          refine undel (d := 13) rfl ?_
          dsimp only [List.cons_append, List.nil_append]
          refine e1 HT 7 rfl ?_
          refine qMake (n := w.safe.length) (zs := rowC []) rfl rfl (by decide) rfl rfl rfl rfl el_29 ze_35 rfl rfl rep_nils (by omega) (by omega) (fun b17 => ?_)
          refine ef HT 8 rfl (pBuild rfl st_31 ze_31 rfl rfl rfl rfl) ?_
          refine eLast ?_
          refine f1 HT 10 rfl ?_
          refine oStW rfl rfl rfl rfl (by repeat constructor) ty_31 ?_
          refine fE HT ?_
          clear HT
          refine ⟨(g13, k13, b6, b17), trivial, ?_⟩
          dsimp only
          have hlen : (List.map avCells []).length + (w.safe.map rowC).length = w.safe.length := by simp
          rw [← hlen]
          exact weak_sub ⟨rfl, rfl, rfl, rfl, rfl, trivial⟩ (by repeat constructor)
        · skip
          refine stQ (wantN rfl) (fun t ht => by cases ht <;> decide) ?_
          refine qMake (n := w.safe.length) (zs := rowC []) rfl rfl (by decide) rfl rfl rfl rfl el_29 ze_35 rfl rfl rep_nils (by omega) (by omega) (fun b17 => ?_)
          refine undel (d := 17) rfl ?_
          refine eOneS (i := 3) #[true, true, true, true, true, true, true, true, false, true, false] rfl (HT.one (by kernel_rfl)) (by decide) ?_
          · skip
            refine stA (hx := [.sl (some b10) 0 35 1 []]) (wantN rfl) (fun t ht => by cases ht <;> decide) (.cons (by repeat constructor) .nil) (by repeat constructor) ?_
            refine oApp rfl rfl (by decide) rfl (by repeat constructor) rfl (.inl rfl) el_29 sl_29 rowC_len (by simp; omega) (by simp; omega) (fun g13 k13 => ?_)
            refine undel (d := 13) rfl ?_
            dsimp only [List.cons_append, List.nil_append]
            refine ef HT 8 rfl (pBuild rfl st_31 ze_31 rfl rfl rfl rfl) ?_
            refine eLast ?_
            refine f1 HT 10 rfl ?_
            refine oStW rfl rfl rfl rfl (by repeat constructor) ty_31 ?_
            refine fE HT ?_
            clear HT
            refine ⟨(g13, k13, b6, b17), trivial, ?_⟩
            dsimp only
            have hlen : (List.map avCells []).length + (w.safe.map rowC).length = w.safe.length := by simp
            rw [← hlen]
            exact weak_sub ⟨rfl, rfl, rfl, rfl, rfl, trivial⟩ (by repeat constructor)
    · skip
      refine stQ (wantN rfl) (fun t ht => by cases ht <;> decide) ?_
      refine qMake (n := w.safe.length) (zs := rowC []) rfl rfl (by decide) rfl rfl rfl rfl el_29 ze_35 rfl rfl rep_nils (by omega) (by omega) (fun b17 => ?_)
      refine undel (d := 17) rfl ?_
      refine eTwoS (i := 0) (j := 9) #[true, true, true, false, true, true, true, true, false, false, false] #[false, true, true, false, true, true, true, true, false, true, false] rfl rfl (HT.two (by kernel_rfl)) (by decide) (by decide) ?_ ?_
      · skip
        refine stQ (wantN rfl) (fun t ht => by cases ht <;> decide) ?_
        refine qLit (l := []) rfl rfl (by decide) us_29 ty_35 ze_35 rfl (by decide) (by decide) rfl rfl rfl (fun b10 => ?_)
        refine undel (d := 10) rfl ?_
        refine eTwoS (i := 3) (j := 9) #[true, true, true, true, true, true, true, true, false, false, false] #[true, true, true, false, true, true, true, true, false, true, false] rfl rfl (HT.two (by kernel_rfl)) (by decide) (by decide) ?_ ?_
        · skip
          refine stA (hx := [.sl (some b10) 0 35 1 []]) (wantN rfl) (fun t ht => by cases ht <;> decide) (.cons (by repeat constructor) .nil) (by repeat constructor) ?_
          refine oApp rfl rfl (by decide) rfl (by repeat constructor) rfl (.inl rfl) el_29 sl_29 rowC_len (by simp; omega) (by simp; omega) (fun g13 k13 => ?_)
          refine undel (d := 13) rfl ?_
          dsimp only [List.cons_append, List.nil_append]
          refine ef HT 8 rfl (pBuild rfl st_31 ze_31 rfl rfl rfl rfl) ?_
          refine e1 HT 9 rfl ?_
          refine qAlloc rfl rfl (by decide) ze_31 rfl (fun b6 => ?_)
          refine eLast ?_
          refine f1 HT 10 rfl ?_
          refine oStW rfl rfl rfl rfl (by repeat constructor) ty_31 ?_
          refine fE HT ?_
          clear HT
          refine ⟨(g13, k13, b6, b17), trivial, ?_⟩
          dsimp only
          have hlen : (List.map avCells []).length + (w.safe.map rowC).length = w.safe.length := by simp
          rw [← hlen]
          exact weak_sub ⟨rfl, rfl, rfl, rfl, rfl, trivial⟩ (by repeat constructor)
        · skip
          refine stQ (wantN rfl) (fun t ht => by cases ht <;> decide) ?_
          refine qAlloc rfl rfl (by decide) ze_31 rfl (fun b6 => ?_)
          refine undel (d := 6) rfl ?_
          refine eOneS (i := 3) #[true, true, true, true, true, true, true, true, false, true, false] rfl (HT.one (by kernel_rfl)) (by decide) ?_
          · skip
            refine stA (hx := [.sl (some b10) 0 35 1 []]) (wantN rfl) (fun t ht => by cases ht <;> decide) (.cons (by repeat constructor) .nil) (by repeat constructor) ?_
            refine oApp rfl rfl (by decide) rfl (by repeat constructor) rfl (.inl rfl) el_29 sl_29 rowC_len (by simp; omega) (by simp; omega) (fun g13 k13 => ?_)
            refine undel (d := 13) rfl ?_
            dsimp only [List.cons_append, List.nil_append]
            refine ef HT 8 rfl (pBuild rfl st_31 ze_31 rfl rfl rfl rfl) ?_
            refine eLast ?_
            refine f1 HT 10 rfl ?_
            refine oStW rfl rfl rfl rfl (by repeat constructor) ty_31 ?_
            refine fE HT ?_
            clear HT
            refine ⟨(g13, k13, b6, b17), trivial, ?_⟩
            dsimp only
            have hlen : (List.map avCells []).length + (w.safe.map rowC).length = w.safe.length := by simp
            rw [← hlen]
            exact weak_sub ⟨rfl, rfl, rfl, rfl, rfl, trivial⟩ (by repeat constructor)
      · skip
        refine stQ (wantN rfl) (fun t ht => by cases ht <;> decide) ?_
        refine qAlloc rfl rfl (by decide) ze_31 rfl (fun b6 => ?_)
        refine undel (d := 6) rfl ?_
        refine e1 HT 0 rfl ?_
        refine qLit (l := []) rfl rfl (by decide) us_29 ty_35 ze_35 rfl (by decide) (by decide) rfl rfl rfl (fun b10 => ?_)
        refine eOneS (i := 3) #[true, true, true, true, true, true, true, true, false, true, false] rfl (HT.one (by kernel_rfl)) (by decide) ?_
        · skip
          refine stA (hx := [.sl (some b10) 0 35 1 []]) (wantN rfl) (fun t ht => by cases ht <;> decide) (.cons (by repeat constructor) .nil) (by repeat constructor) ?_
          refine oApp rfl rfl (by decide) rfl (by repeat constructor) rfl (.inl rfl) el_29 sl_29 rowC_len (by simp; omega) (by simp; omega) (fun g13 k13 => ?_)
          refine undel (d := 13) rfl ?_
          dsimp only [List.cons_append, List.nil_append]
          refine ef HT 8 rfl (pBuild rfl st_31 ze_31 rfl rfl rfl rfl) ?_
          refine eLast ?_
          refine f1 HT 10 rfl ?_
          refine oStW rfl rfl rfl rfl (by repeat constructor) ty_31 ?_
          refine fE HT ?_
          clear HT
          refine ⟨(g13, k13, b6, b17), trivial, ?_⟩
          dsimp only
          have hlen : (List.map avCells []).length + (w.safe.map rowC).length = w.safe.length := by simp
          rw [← hlen]
          exact weak_sub ⟨rfl, rfl, rfl, rfl, rfl, trivial⟩ (by repeat constructor)
    · skip
      refine stQ (wantN rfl) (fun t ht => by cases ht <;> decide) ?_
      refine qAlloc rfl rfl (by decide) ze_31 rfl (fun b6 => ?_)
      refine undel (d := 6) rfl ?_
      refine eTwoS (i := 0) (j := 7) #[true, true, true, false, true, true, true, false, false, true, false] #[false, true, true, false, true, true, true, true, false, true, false] rfl rfl (HT.two (by kernel_rfl)) (by decide) (by decide) ?_ ?_
      · skip
        refine stQ (wantN rfl) (fun t ht => by cases ht <;> decide) ?_
        refine qLit (l := []) rfl rfl (by decide) us_29 ty_35 ze_35 rfl (by decide) (by decide) rfl rfl rfl (fun b10 => ?_)
        refine undel (d := 10) rfl ?_
        refine eTwoS (i := 3) (j := 7) #[true, true, true, true, true, true, true, false, false, true, false] #[true, true, true, false, true, true, true, true, false, true, false] rfl rfl (HT.two (by kernel_rfl)) (by decide) (by decide) ?_ ?_
        · skip
          refine stA (hx := [.sl (some b10) 0 35 1 []]) (wantN rfl) (fun t ht => by cases ht <;> decide) (.cons (by repeat constructor) .nil) (by repeat constructor) ?_
          refine oApp rfl rfl (by decide) rfl (by repeat constructor) rfl (.inl rfl) el_29 sl_29 rowC_len (by simp; omega) (by simp; omega) (fun g13 k13 => ?_)
          refine undel (d := 13) rfl ?_
          dsimp only [List.cons_append, List.nil_append]
          refine e1 HT 7 rfl ?_
          refine qMake (n := w.safe.length) (zs := rowC []) rfl rfl (by decide) rfl rfl rfl rfl el_29 ze_35 rfl rfl rep_nils (by omega) (by omega) (fun b17 => ?_)
          refine ef HT 8 rfl (pBuild rfl st_31 ze_31 rfl rfl rfl rfl) ?_
          refine eLast ?_
          refine f1 HT 10 rfl ?_
          refine oStW rfl rfl rfl rfl (by repeat constructor) ty_31 ?_
          refine fE HT ?_
          clear HT
          refine ⟨(g13, k13, b6, b17), trivial, ?_⟩
          dsimp only
          have hlen : (List.map avCells []).length + (w.safe.map rowC).length = w.safe.length := by simp
          rw [← hlen]
          exact weak_sub ⟨rfl, rfl, rfl, rfl, rfl, trivial⟩ (by repeat constructor)
        · skip
          refine stQ (wantN rfl) (fun t ht => by cases ht <;> decide) ?_
          refine qMake (n := w.safe.length) (zs := rowC []) rfl rfl (by decide) rfl rfl rfl rfl el_29 ze_35 rfl rfl rep_nils (by omega) (by omega) (fun b17 => ?_)
          refine undel (d := 17) rfl ?_
          refine eOneS (i := 3) #[true, true, true, true, true, true, true, true, false, true, false] rfl (HT.one (by kernel_rfl)) (by decide) ?_
          · skip
            refine stA (hx := [.sl (some b10) 0 35 1 []]) (wantN rfl) (fun t ht => by cases ht <;> decide) (.cons (by repeat constructor) .nil) (by repeat constructor) ?_
            refine oApp rfl rfl (by decide) rfl (by repeat constructor) rfl (.inl rfl) el_29 sl_29 rowC_len (by simp; omega) (by simp; omega) (fun g13 k13 => ?_)
            refine undel (d := 13) rfl ?_
            dsimp only [List.cons_append, List.nil_append]
            refine ef HT 8 rfl (pBuild rfl st_31 ze_31 rfl rfl rfl rfl) ?_
            refine eLast ?_
            refine f1 HT 10 rfl ?_
            refine oStW rfl rfl rfl rfl (by repeat constructor) ty_31 ?_
            refine fE HT ?_
            clear HT
            refine ⟨(g13, k13, b6, b17), trivial, ?_⟩
            dsimp only
            have hlen : (List.map avCells []).length + (w.safe.map rowC).length = w.safe.length := by simp
            rw [← hlen]
            exact weak_sub ⟨rfl, rfl, rfl, rfl, rfl, trivial⟩ (by repeat constructor)
      · skip
        refine stQ (wantN rfl) (fun t ht => by cases ht <;> decide) ?_
        refine qMake (n := w.safe.length) (zs := rowC []) rfl rfl (by decide) rfl rfl rfl rfl el_29 ze_35 rfl rfl rep_nils (by omega) (by omega) (fun b17 => ?_)
        refine undel (d := 17) rfl ?_
        refine e1 HT 0 rfl ?_
        refine qLit (l := []) rfl rfl (by decide) us_29 ty_35 ze_35 rfl (by decide) (by decide) rfl rfl rfl (fun b10 => ?_)
        refine eOneS (i := 3) #[true, true, true, true, true, true, true, true, false, true, false] rfl (HT.one (by kernel_rfl)) (by decide) ?_
        · skip
          refine stA (hx := [.sl (some b10) 0 35 1 []]) (wantN rfl) (fun t ht => by cases ht <;> decide) (.cons (by repeat constructor) .nil) (by repeat constructor) ?_
          refine oApp rfl rfl (by decide) rfl (by repeat constructor) rfl (.inl rfl) el_29 sl_29 rowC_len (by simp; omega) (by simp; omega) (fun g13 k13 => ?_)
          refine undel (d := 13) rfl ?_
          dsimp only [List.cons_append, List.nil_append]
          refine ef HT 8 rfl (pBuild rfl st_31 ze_31 rfl rfl rfl rfl) ?_
          refine eLast ?_
          refine f1 HT 10 rfl ?_
          refine oStW rfl rfl rfl rfl (by repeat constructor) ty_31 ?_
          refine fE HT ?_
          clear HT
          refine ⟨(g13, k13, b6, b17), trivial, ?_⟩
          dsimp only
          have hlen : (List.map avCells []).length + (w.safe.map rowC).length = w.safe.length := by simp
          rw [← hlen]
          exact weak_sub ⟨rfl, rfl, rfl, rfl, rfl, trivial⟩ (by repeat constructor)
  · rintro ⟨g, c, p, q⟩ _
    skip
    refine aSeq ?_
    refine aSeq ?_
    refine aSome .hd (ne_map hn1) (fun gb hgb => ?_)
    subst hgb
    refine aReg ?_
    refine sp pMa ?_
    refine oNil ?_
    refine aBlock ?_
    refine aLoopI (α := Nat) (fun k => k ≤ w.waiting.length ∧ k ≤ l.length ∧ (crashK w l k).length = w.safe.length) (fun k => ([(1, .sl 2 (l.map tearC)), (2, .v (.pointer (some ⟨b2, 0, none⟩))), (4, .v (.pointer (some ⟨b4, 0, none⟩))), (5, waitA w), (6, .v (.pointer (some ⟨p, 0, none⟩))), (7, .int k)], [.sl (some gb) c 35 1 ((crashK w l k).map rowC), .box p [.v (slV (some gb) w.safe.length c), .v (slV (some q) w.safe.length w.safe.length), .int (-1), .v (.bool false)], .sl (some q) w.safe.length 35 1 (List.replicate w.safe.length (rowC [])), .box b2 (dwC w), .box b4 [.v (.slice none 0 0), .v (.slice none 0 0), .int 0, .v (.bool false)]])) (fun k => w.waiting.length - k) 0 ?_ ?_ ?_
    · skip
      exact ⟨Nat.zero_le _, Nat.zero_le _, rfl⟩
    · skip
      exact weak_env ⟨rfl, rfl, rfl, rfl, rfl, rfl, trivial⟩
    · rintro k ⟨hkw, hkl, hlen⟩
      skip
      refine aSeq ?_
      refine aSeq ?_
      refine aReg ?_
      refine sp pM ?_
      refine sp pM ?_
      refine sp (pLenS' (pLenS rfl rfl sl_51) (waitA_len w)) ?_
      refine sp pB ?_
      refine sp pM ?_
      refine oSplitDec 23 rfl (fun c23 => ?_) (fun c23 => ?_)
      · skip
        refine gp pM ?_
        refine gp pM ?_
        refine gp (by first | exact pLm sl_36 | exact pLs sl_36 | exact pLv sl_36) ?_
        refine gp pB ?_
        refine sp pK ?_
        refine oNil ?_
        refine aCondDec rfl (fun c28 => ?_) (fun c28 => ?_)
        · skip
          refine aSkip ?_
          refine aSeq ?_
          refine aBlock ?_
          obtain ⟨t, ht⟩ : ∃ t, l[k]? = some t := ⟨_, List.getElem?_eq_getElem (by omega)⟩
          obtain ⟨i, hi⟩ : ∃ i, w.waiting[k]? = some i := ⟨_, List.getElem?_eq_getElem (by omega)⟩
          have hil := (waiting_lt hi).1
          obtain ⟨x, hx⟩ : ∃ x, w.waits[i]? = some x := ⟨_, List.getElem?_eq_getElem hil⟩
          obtain ⟨y, hy⟩ : ∃ y, (crashK w l k)[i]? = some y := ⟨_, List.getElem?_eq_getElem (by omega)⟩
          obtain ⟨s0, hs0⟩ : ∃ s0, w.safe[i]? = some s0 := ⟨_, List.getElem?_eq_getElem (by omega)⟩
          refine aCutI (α := List BS) (fun s => s.length = w.safe.length ∧ s = if t.kind = 1 then (crashK w l k).set i (w.waits.getD i []) else crashK w l k) (fun s => ([(1, .sl 2 (l.map tearC)), (2, .v (.pointer (some ⟨b2, 0, none⟩))), (4, .v (.pointer (some ⟨b4, 0, none⟩))), (5, waitA w), (6, .v (.pointer (some ⟨p, 0, none⟩))), (7, .int k)], [.sl (some gb) c 35 1 ((s).map rowC), .box p [.v (slV (some gb) w.safe.length c), .v (slV (some q) w.safe.length w.safe.length), .int (-1), .v (.bool false)], .sl (some q) w.safe.length 35 1 (List.replicate w.safe.length (rowC [])), .box b2 (dwC w), .box b4 [.v (.slice none 0 0), .v (.slice none 0 0), .int 0, .v (.bool false)]])) ?_ ?_
          · skip
            refine aSeq ?_
            refine aReg ?_
            refine sp pM ?_
            refine sp pM ?_
            refine sp (pIdxS rfl rfl rfl es_36 (by omega) (map_get1 (f := tearC) ht)) ?_
            refine sp (by first | exact pFb fd_68_0 | exact pFs fd_68_0) ?_
            refine sr (by first | exact rS1 ty_3 | exact rB1 ty_3 | exact rAr ty_3 | exact rArL ty_3 | exact rArR2 ty_3) ?_
            refine sp pB ?_
            refine oNil ?_
            refine aCondEq rfl (fun c36 => ?_) (fun c36 => ?_)
            · skip
              refine aDrawT ref03_Crash_r7_t ref03_Crash_r7_b [15] 16 #[false, false, false, false, false, false, false, false, false, false, false, false, false, false, false, false] (by kernel_rfl) rfl rfl (fun HT => ?_)
              refine dp HT 0 rfl (by first | exact pFb fd_31_0 | exact pFs fd_31_0) ?_
              refine dr HT 1 rfl (by first | exact rS1 ty_29 | exact rB1 ty_29 | exact rAr ty_29 | exact rArL ty_29 | exact rArR2 ty_29) ?_
              refine dp HT 2 rfl pM ?_
              refine dp HT 3 rfl pM ?_
              refine dp HT 4 rfl (pIdxS rfl rfl rfl es_51 (by omega) (waitA_get hi)) ?_
              refine dr HT 5 rfl (by first | exact rS1 ty_3 | exact rB1 ty_3 | exact rAr ty_3 | exact rArL ty_3 | exact rArR2 ty_3) ?_
              refine dp HT 6 rfl (by first | exact pFb fd_31_1 | exact pFs fd_31_1) ?_
              refine dr HT 7 rfl (by first | exact rS1 ty_29 | exact rB1 ty_29 | exact rAr ty_29 | exact rArL ty_29 | exact rArR2 ty_29) ?_
              refine dp HT 8 rfl pM ?_
              refine dp HT 9 rfl pM ?_
              refine dp HT 10 rfl (pIdxS rfl rfl rfl es_51 (by omega) (waitA_get hi)) ?_
              refine dr HT 11 rfl (by first | exact rS1 ty_3 | exact rB1 ty_3 | exact rAr ty_3 | exact rArL ty_3 | exact rArR2 ty_3) ?_
              refine dp HT 12 rfl (pIdxS rfl rfl rfl es_29 (by omega) (map_get1 (f := rowC) hx)) ?_
              refine dr HT 13 rfl (by first | exact rS1 ty_35 | exact rB1 ty_35 | exact rAr ty_35 | exact rArL ty_35 | exact rArR2 ty_35) ?_
              refine dp HT 14 rfl (pIdxO rfl rfl rfl es_29 (by omega) (by omega)) ?_
              refine dGo ?_
              refine eLast ?_
              refine f1 HT 15 rfl ?_
              refine oStS (i := i) (j := 0) rfl rfl rfl rfl (by repeat constructor) ty_35 rfl (by omega) (map_get1 (f := rowC) hy) (by decide) rfl ?_
              refine fE HT ?_
              clear HT
              first
                | (refine ⟨(crashK w l k).set i x, ⟨by simp [hlen], by rw [if_pos (by assumption), getD_get hx]⟩, ?_⟩
                   rw [List.map_set]
                   exact weak_sub ⟨rfl, rfl, rfl, rfl, rfl, rfl, trivial⟩ (by repeat constructor))
                | (refine ⟨crashK w l k, ⟨hlen, by rw [if_neg (by assumption)]⟩, ?_⟩
                   exact weak_sub ⟨rfl, rfl, rfl, rfl, rfl, rfl, trivial⟩ (by repeat constructor))
            · skip
              refine aSkip ?_
              first
                | (refine ⟨(crashK w l k).set i x, ⟨by simp [hlen], by rw [if_pos (by assumption), getD_get hx]⟩, ?_⟩
                   rw [List.map_set]
                   exact weak_sub ⟨rfl, rfl, rfl, rfl, rfl, rfl, trivial⟩ (by repeat constructor))
                | (refine ⟨crashK w l k, ⟨hlen, by rw [if_neg (by assumption)]⟩, ?_⟩
                   exact weak_sub ⟨rfl, rfl, rfl, rfl, rfl, rfl, trivial⟩ (by repeat constructor))
          · rintro s ⟨hsl, hs⟩
            obtain ⟨y2, hy2⟩ : ∃ y2, s[i]? = some y2 := ⟨_, List.getElem?_eq_getElem (by omega)⟩
            refine aSeq ?_
            refine aReg ?_
            refine sp pM ?_
            refine sp pM ?_
            refine sp (pIdxS rfl rfl rfl es_36 (by omega) (map_get1 (f := tearC) ht)) ?_
            refine sp (by first | exact pFb fd_68_0 | exact pFs fd_68_0) ?_
            refine sr (by first | exact rS1 ty_3 | exact rB1 ty_3 | exact rAr ty_3 | exact rArL ty_3 | exact rArR2 ty_3) ?_
            refine sp pB ?_
            refine oNil ?_
            refine aCondEq rfl (fun c57 => ?_) (fun c57 => ?_)
            · skip
              refine aDrawT ref03_Crash_r9_t ref03_Crash_r9_b [21] 22 #[false, false, false, false, false, false, false, false, false, false, false, false, false, false, false, false, false, false, false, false, false, false] (by kernel_rfl) rfl rfl (fun HT => ?_)
              refine dp HT 0 rfl (by first | exact pFb fd_31_0 | exact pFs fd_31_0) ?_
              refine dr HT 1 rfl (by first | exact rS1 ty_29 | exact rB1 ty_29 | exact rAr ty_29 | exact rArL ty_29 | exact rArR2 ty_29) ?_
              refine dp HT 2 rfl pM ?_
              refine dp HT 3 rfl pM ?_
              refine dp HT 4 rfl (pIdxS rfl rfl rfl es_51 (by omega) (waitA_get hi)) ?_
              refine dr HT 5 rfl (by first | exact rS1 ty_3 | exact rB1 ty_3 | exact rAr ty_3 | exact rArL ty_3 | exact rArR2 ty_3) ?_
              refine dp HT 6 rfl pM ?_
              refine dp HT 7 rfl pM ?_
              refine dp HT 8 rfl (pIdxS rfl rfl rfl es_36 (by omega) (map_get1 (f := tearC) ht)) ?_
              refine dp HT 9 rfl (by first | exact pFb fd_68_1 | exact pFs fd_68_1) ?_
              refine dr HT 10 rfl (by first | exact rS1 ty_35 | exact rB1 ty_35 | exact rAr ty_35 | exact rArL ty_35 | exact rArR2 ty_35) ?_
              refine dp HT 11 rfl (by first | exact pFb fd_31_0 | exact pFs fd_31_0) ?_
              refine dr HT 12 rfl (by first | exact rS1 ty_29 | exact rB1 ty_29 | exact rAr ty_29 | exact rArL ty_29 | exact rArR2 ty_29) ?_
              refine dp HT 13 rfl pM ?_
              refine dp HT 14 rfl pM ?_
              refine dp HT 15 rfl (pIdxS rfl rfl rfl es_51 (by omega) (waitA_get hi)) ?_
              refine dr HT 16 rfl (by first | exact rS1 ty_3 | exact rB1 ty_3 | exact rAr ty_3 | exact rArL ty_3 | exact rArR2 ty_3) ?_
              refine dp HT 17 rfl (pIdxS rfl rfl rfl es_29 (by omega) (map_get1 (f := rowC) hs0)) ?_
              refine dr HT 18 rfl (by first | exact rS1 ty_35 | exact rB1 ty_35 | exact rAr ty_35 | exact rArL ty_35 | exact rArR2 ty_35) ?_
              refine dGo ?_
              refine e1 HT 19 rfl ?_
              refine qCall0 rfl rfl (by decide) rfl rfl (ref03_Torn t.b s0 (by have := hb t (List.mem_of_getElem? ht); omega) (by have := f.ss s0 (List.mem_of_getElem? hs0); omega)) ?_
              rintro _ _ ⟨g77, c77, rfl, rfl⟩
              refine ep HT 20 rfl (pIdxO rfl rfl rfl es_29 (by omega) (by omega)) ?_
              first | refine fWeak (weak_settle (k := 77) rfl .hd (by simp)) ?_ | skip
              refine eLast ?_
              first | refine fWeak (weak_settle (k := 77) rfl .hd (by simp)) ?_ | skip
              refine f1 HT 21 rfl ?_
              refine oStS (i := i) (j := 0) rfl rfl rfl rfl (by repeat constructor) ty_35 rfl (by omega) (map_get1 (f := rowC) hy2) (by decide) rfl ?_
              refine fE HT ?_
              clear HT
              refine aReg ?_
              refine sp pM ?_
              refine sp pAd ?_
              refine sp pMa ?_
              refine oNil ?_
              have hst := crashK_step hi ht
              refine ⟨k + 1, ⟨by omega, by omega, by rw [hst, crash1_len, hlen]⟩, by show w.waiting.length - (k + 1) < w.waiting.length - k; omega, ?_⟩
              rw [hst]
              first
                | (rw [show crash1 w (crashK w l k) (i, t) = s.set i (torn t.b s0) by rw [crash1, hs, getD_get hs0]; dsimp only; rw [if_neg (by omega), if_pos (by assumption), if_neg (by omega)], List.map_set]
                   exact weak_sub ⟨rfl, rfl, rfl, rfl, rfl, gInt rfl (by simp), trivial⟩ (by repeat constructor))
                | (rw [show crash1 w (crashK w l k) (i, t) = s by rw [crash1, hs]; dsimp only; split; rfl; first | rfl | rw [if_neg (by assumption)]]
                   exact weak_sub ⟨rfl, rfl, rfl, rfl, rfl, gInt rfl (by simp), trivial⟩ (by repeat constructor))
            · skip
              refine aSkip ?_
              refine aReg ?_
              refine sp pM ?_
              refine sp pAd ?_
              refine sp pMa ?_
              refine oNil ?_
              have hst := crashK_step hi ht
              refine ⟨k + 1, ⟨by omega, by omega, by rw [hst, crash1_len, hlen]⟩, by show w.waiting.length - (k + 1) < w.waiting.length - k; omega, ?_⟩
              rw [hst]
              first
                | (rw [show crash1 w (crashK w l k) (i, t) = s.set i (torn t.b s0) by rw [crash1, hs, getD_get hs0]; dsimp only; rw [if_neg (by omega), if_pos (by assumption), if_neg (by omega)], List.map_set]
                   exact weak_sub ⟨rfl, rfl, rfl, rfl, rfl, gInt rfl (by simp), trivial⟩ (by repeat constructor))
                | (rw [show crash1 w (crashK w l k) (i, t) = s by rw [crash1, hs]; dsimp only; split; rfl; first | rfl | rw [if_neg (by assumption)]]
                   exact weak_sub ⟨rfl, rfl, rfl, rfl, rfl, gInt rfl (by simp), trivial⟩ (by repeat constructor))
        · skip
          refine aExit rfl ?_
          refine aSeq ?_
          have hall := crashK_all (w := w) (l := l) (k := k) (by first | exact .inl (by omega) | exact .inr (by omega))
          refine aReg ?_
          refine sr (by first | exact rSW ty_31 rfl | exact rSA ty_31 | exact rBWa ty_31 | exact rBW ty_31 | exact rBA ty_31 | exact rArA ty_31 (fun _ => rfl)) ?_
          refine oWeak (weak_deep (k := 79) (b := .agg (dwC (w.crash l))) rfl (.cons .hd (.cons (.tl .hd) .nil)) (.agg (.sl (List.mem_cons_self ..) (by simp [hlen]) (by show Deep _ _ (((w.waiting.zip l).foldl (crash1 w) w.safe).map rowC); rw [← hall]; exact Deep.refl) (.sl (List.mem_cons_of_mem _ (List.mem_cons_self ..)) (by simp) (by show Deep _ _ ((List.replicate w.safe.length ([] : BS)).map rowC); rw [← rows_rep]; exact Deep.refl) (.same (.same (.row .nil))))) (.row .nil))) ?_
          refine sa ?_
          refine oStW rfl rfl rfl rfl (by repeat constructor) ty_31 ?_
          refine oNil ?_
          refine aRet ?_
          refine ⟨[.agg (dwC (w.crash l))], [], _, .cons (.cellA (cs := dwC (w.crash l)) rfl (.head _) ty_31) .nil, .nil, rfl, rfl⟩
      · skip
        refine gf ?_
        refine gf ?_
        refine gf ?_
        refine gf ?_
        refine sp pK ?_
        refine oNil ?_
        refine aCondF rfl ?_
        refine aExit rfl ?_
        refine aSeq ?_
        have hall := crashK_all (w := w) (l := l) (k := k) (by first | exact .inl (by omega) | exact .inr (by omega))
        refine aReg ?_
        refine sr (by first | exact rSW ty_31 rfl | exact rSA ty_31 | exact rBWa ty_31 | exact rBW ty_31 | exact rBA ty_31 | exact rArA ty_31 (fun _ => rfl)) ?_
        refine oWeak (weak_deep (k := 79) (b := .agg (dwC (w.crash l))) rfl (.cons .hd (.cons (.tl .hd) .nil)) (.agg (.sl (List.mem_cons_self ..) (by simp [hlen]) (by show Deep _ _ (((w.waiting.zip l).foldl (crash1 w) w.safe).map rowC); rw [← hall]; exact Deep.refl) (.sl (List.mem_cons_of_mem _ (List.mem_cons_self ..)) (by simp) (by show Deep _ _ ((List.replicate w.safe.length ([] : BS)).map rowC); rw [← rows_rep]; exact Deep.refl) (.same (.same (.row .nil))))) (.row .nil))) ?_
        refine sa ?_
        refine oStW rfl rfl rfl rfl (by repeat constructor) ty_31 ?_
        refine oNil ?_
        refine aRet ?_
        refine ⟨[.agg (dwC (w.crash l))], [], _, .cons (.cellA (cs := dwC (w.crash l)) rfl (.head _) ty_31) .nil, .nil, rfl, rfl⟩
end A
end Go.Proofs.Ytnabkchagjjjnaa
set_option linter.unusedVariables false
set_option linter.unusedSimpArgs false
namespace Go.Proofs.Ytnabkchagjjjnaa
namespace A
theorem es_22 : elemSize Try.prog 22 = some 5 := by kernel_rfl
theorem fd_38_2 : fieldOf Try.prog 38 2 = some (2, 1, false) := by kernel_rfl
theorem fd_38_4 : fieldOf Try.prog 38 4 = some (4, 1, false) := by kernel_rfl
theorem sl_22 : isSl Try.prog 22 = true := by kernel_rfl
theorem ty_36 : tyOf Try.prog 36 = some (1, false) := by kernel_rfl
def fill (b : BS) : BS := torn b zeros
theorem fill_len (b : BS) : (fill b).length = 512 := by
  have := zeros_len
  simp only [fill, torn, List.length_append, List.length_take, List.length_drop]
  omega
def doB (a : DAct) : BS := if a.short then a.b else fill a.b
def DW.act1 (w : DW) (a : DAct) : DW × Int :=
  if a.d = 0 then w.write a.n (doB a) else if a.d = 1 then w.flush else if a.d = 2 then (w.arm a.n, 0) else if a.d = 3 then (w.crash a.tears, 0) else (w, 0)
def actOk (a : DAct) : Bool := decide (a.b.length ≤ 600) && (decide (a.tears.length ≤ 40) && a.tears.all fun t => decide (t.b.length ≤ 600))
def lightB (l : List DAct) : Bool := decide (l.length ≤ 40) && l.all actOk
theorem all_take {α : Type} {p : α → Bool} {l : List α} {i : Nat} {a : α} (h : l[i]? = some a) : (l.take (i + 1)).all p = ((l.take i).all p && p a) := by
  rw [List.take_add_one, h]
  simp [List.all_append]
theorem all_no {α : Type} {p : α → Bool} {l : List α} {i : Nat} {a : α} (h : l[i]? = some a) (hp : p a = false) : l.all p = false := by
  rw [List.all_eq_false]
  exact ⟨a, List.mem_of_getElem? h, by rw [hp]; decide⟩
theorem Rel.fit {n : Nat} {S W : List (Int × BS)} {w : DW} (r : Rel n S W w) : Fit w where
  wn := by rw [r.wn, r.sn]
  n1 := by rw [r.sn]; exact r.n1
  n2 := by rw [r.sn]; exact r.n2
  a1 := r.ar
  ws := fun b hb => by
    obtain ⟨i, hi⟩ := List.mem_iff_getElem?.1 hb
    have hl := (List.getElem?_eq_some_iff.1 hi).1
    rw [r.wn] at hl
    rw [r.wg i hl] at hi
    cases h : bGet W (i : Int) with
    | none => rw [h] at hi; cases hi; exact .inl rfl
    | some c => rw [h] at hi; cases hi; exact .inr (r.wr _ _ h).2.2
  ss := fun b hb => by
    obtain ⟨i, hi⟩ := List.mem_iff_getElem?.1 hb
    have hl := (List.getElem?_eq_some_iff.1 hi).1
    rw [r.sn] at hl
    rw [r.sg i hl] at hi
    cases hi
    exact r.s512 i
/- waymarklaw03.Fill -/
set_option maxRecDepth 100000 in
set_option maxHeartbeats 400000 in
theorem law03_Fill (b : BS) (hb : b.length ≤ 1000) : Triple Try.prog 17 [.sl 1 (b.map by1)] [] (fun q h' => ∃ g c, q = .v (slV g 512 c) ∧ h' = [.sl g c 5 1 ((fill b).map by1)]) := by
  refine triple_of Try.func17 rfl (by kernel_rfl) rfl (by simp) ?_
  refine aSeq ?_
  refine aReg ?_
  refine sp pMa ?_
  refine oNil ?_
  refine aSeq ?_
  refine aReg ?_
  refine sq ?_
  refine qMake (n := 512) (zs := by1 0) rfl rfl (by decide) rfl rfl rfl rfl el_35 ze_5 rfl rfl rep_zeros (by decide) (by decide) (fun b4 => ?_)
  rw [← zeros_map]
  refine sp pMa ?_
  refine oNil ?_
  refine aSeq ?_
  refine aReg ?_
  refine sp pM ?_
  refine sp pM ?_
  refine sa ?_
  refine oCopyS rfl rfl (by decide) rfl (by repeat constructor) (by rw [List.length_map]; exact zeros_len.symm) rfl el_35 ?_
  rw [torn_map]
  refine oNil ?_
  refine aSeq ?_
  refine aReg ?_
  refine sp pM ?_
  refine sp pMa ?_
  refine oNil ?_
  refine aRet ?_
  exact ⟨_, [_], [], rfl, .cons .hd .nil, some b4, 512, rfl, rfl⟩
/- waymarklaw03.Light -/
set_option maxRecDepth 100000 in
set_option maxHeartbeats 1000000 in
theorem law03_Light (l : List DAct) (hl : l.length ≤ 9223372036854775807) : Triple Try.prog 6 [.sl 5 (l.map dactC)] [] (fun q h' => q = .v (.bool (lightB l)) ∧ h' = []) := by
  refine triple_of Try.func6 rfl (by kernel_rfl) rfl (by simp) ?_
  refine aSeq ?_
  refine aReg ?_
  refine sp pMa ?_
  refine oNil ?_
  refine aSeq ?_
  refine aSeq ?_
  refine aReg ?_
  refine sp pMa ?_
  refine oNil ?_
  refine aBlock ?_
  refine aLoopI (α := Nat) (fun i => i ≤ l.length ∧ i ≤ 41 ∧ (l.take i).all actOk = true) (fun i => ([(0, .sl 5 (l.map dactC)), (3, .int i)], [])) (fun i => l.length - i) 0 ?_ ?_ ?_
  · skip
    exact ⟨by omega, by omega, rfl⟩
  · skip
    exact weak_sub ⟨rfl, rfl, trivial⟩ .nil
  · rintro i ⟨hi, hi2, hv⟩
    skip
    refine aSeq ?_
    refine aSeq ?_
    refine aReg ?_
    refine sp pM ?_
    refine sp pM ?_
    refine sp (by first | exact pLm sl_22 | exact pLs sl_22 | exact pLv sl_22) ?_
    refine sp pB ?_
    refine sp pM ?_
    refine oSplitDec 9 rfl (fun c9 => ?_) (fun c9 => ?_)
    · skip
      refine gp pM ?_
      refine gp pB ?_
      refine sp pK ?_
      refine oNil ?_
      refine aCondDec rfl (fun c12 => ?_) (fun c12 => ?_)
      · skip
        refine aSkip ?_
        refine aSeq ?_
        refine aBlock ?_
        refine aSeq ?_
        refine aSeq ?_
        obtain ⟨a, ha⟩ : ∃ a, l[i]? = some a := ⟨_, List.getElem?_eq_getElem (by omega)⟩
        refine aReg ?_
        refine sp pM ?_
        refine sp pM ?_
        refine sp (pIdxS rfl rfl rfl es_22 (by omega) (map_get1 (f := dactC) ha)) ?_
        refine sp (by first | exact pFb fd_38_2 | exact pFs fd_38_2) ?_
        refine sr (by first | exact rS1 ty_35 | exact rB1 ty_35 | exact rAr ty_35 | exact rArL ty_35 | exact rArR2 ty_35) ?_
        refine sp (by first | exact pLm sl_35 | exact pLs sl_35 | exact pLv sl_35) ?_
        refine sp pB ?_
        refine sp pM ?_
        refine oSplitDec 22 rfl (fun c22 => ?_) (fun c22 => ?_)
        · skip
          refine gf ?_
          refine gf ?_
          refine gf ?_
          refine gf ?_
          refine gf ?_
          refine gf ?_
          refine gf ?_
          refine sp pK ?_
          refine oNil ?_
          refine aCondT rfl ?_
          refine aSeq ?_
          refine aReg ?_
          refine sp pMa ?_
          refine oNil ?_
          refine aRet ?_
          refine ⟨_, [], _, rfl, .nil, ?_, rfl⟩
          have hna : actOk a = false := by
            rw [actOk]
            first | (rw [decide_eq_false (by omega)]; rfl) | (rw [decide_eq_false (p := a.tears.length ≤ 40) (by omega), Bool.false_and, Bool.and_false])
          rw [lightB, all_no ha hna, Bool.and_false]
          rfl
        · skip
          refine gp pM ?_
          refine gp pM ?_
          refine gp (pIdxS rfl rfl rfl es_22 (by omega) (map_get1 (f := dactC) ha)) ?_
          refine gp (by first | exact pFb fd_38_4 | exact pFs fd_38_4) ?_
          refine gr (by first | exact rS1 ty_36 | exact rB1 ty_36 | exact rAr ty_36 | exact rArL ty_36 | exact rArR2 ty_36) ?_
          refine gp (by first | exact pLm sl_36 | exact pLs sl_36 | exact pLv sl_36) ?_
          refine gp pB ?_
          refine sp pK ?_
          refine oNil ?_
          refine aCondDec rfl (fun c30 => ?_) (fun c30 => ?_)
          · skip
            refine aSeq ?_
            refine aReg ?_
            refine sp pMa ?_
            refine oNil ?_
            refine aRet ?_
            refine ⟨_, [], _, rfl, .nil, ?_, rfl⟩
            have hna : actOk a = false := by
              rw [actOk]
              first | (rw [decide_eq_false (by omega)]; rfl) | (rw [decide_eq_false (p := a.tears.length ≤ 40) (by omega), Bool.false_and, Bool.and_false])
            rw [lightB, all_no ha hna, Bool.and_false]
            rfl
          · skip
            refine aSkip ?_
            refine aSeq ?_
            refine aReg ?_
            refine sp pMa ?_
            refine oNil ?_
            refine aBlock ?_
            refine aLoopI (α := Nat) (fun k => k ≤ a.tears.length ∧ (a.tears.take k).all (fun t => decide (t.b.length ≤ 600)) = true) (fun k => ([(0, .sl 5 (l.map dactC)), (3, .int i), (4, .int k)], [])) (fun k => a.tears.length - k) 0 ?_ ?_ ?_
            · skip
              exact ⟨by omega, rfl⟩
            · skip
              exact weak_sub ⟨rfl, rfl, rfl, trivial⟩ .nil
            · rintro k ⟨hk, hu⟩
              skip
              refine aSeq ?_
              refine aSeq ?_
              refine aReg ?_
              refine sp pM ?_
              refine sp pM ?_
              refine sp pM ?_
              refine sp (pIdxS rfl rfl rfl es_22 (by omega) (map_get1 (f := dactC) ha)) ?_
              refine sp (by first | exact pFb fd_38_4 | exact pFs fd_38_4) ?_
              refine sr (by first | exact rS1 ty_36 | exact rB1 ty_36 | exact rAr ty_36 | exact rArL ty_36 | exact rArR2 ty_36) ?_
              refine sp (by first | exact pLm sl_36 | exact pLs sl_36 | exact pLv sl_36) ?_
              refine sp pB ?_
              refine oNil ?_
              refine aCondDec rfl (fun c38 => ?_) (fun c38 => ?_)
              · skip
                refine aSkip ?_
                refine aSeq ?_
                refine aBlock ?_
                refine aSeq ?_
                obtain ⟨t, ht⟩ : ∃ t, a.tears[k]? = some t := ⟨_, List.getElem?_eq_getElem (by omega)⟩
                refine aReg ?_
                refine sp pM ?_
                refine sp pM ?_
                refine sp (pIdxS rfl rfl rfl es_22 (by omega) (map_get1 (f := dactC) ha)) ?_
                refine sp (by first | exact pFb fd_38_4 | exact pFs fd_38_4) ?_
                refine sr (by first | exact rS1 ty_36 | exact rB1 ty_36 | exact rAr ty_36 | exact rArL ty_36 | exact rArR2 ty_36) ?_
                refine sp pM ?_
                refine sp (pIdxS rfl rfl rfl es_36 (by omega) (map_get1 (f := tearC) ht)) ?_
                refine sp (by first | exact pFb fd_68_1 | exact pFs fd_68_1) ?_
                refine sr (by first | exact rS1 ty_35 | exact rB1 ty_35 | exact rAr ty_35 | exact rArL ty_35 | exact rArR2 ty_35) ?_
                refine sp (by first | exact pLm sl_35 | exact pLs sl_35 | exact pLv sl_35) ?_
                refine sp pB ?_
                refine oNil ?_
                refine aCondDec rfl (fun c51 => ?_) (fun c51 => ?_)
                · skip
                  refine aSeq ?_
                  refine aReg ?_
                  refine sp pMa ?_
                  refine oNil ?_
                  refine aRet ?_
                  refine ⟨_, [], _, rfl, .nil, ?_, rfl⟩
                  have hna : actOk a = false := by
                    rw [actOk, all_no (p := fun t : DTear => decide (t.b.length ≤ 600)) ht (decide_eq_false (by omega)), Bool.and_false, Bool.and_false]
                  rw [lightB, all_no ha hna, Bool.and_false]
                  rfl
                · skip
                  refine aSkip ?_
                  refine aReg ?_
                  refine sp pM ?_
                  refine sp pAd ?_
                  refine sp pMa ?_
                  refine oNil ?_
                  refine ⟨k + 1, ⟨by omega, ?_⟩, by show a.tears.length - (k + 1) < a.tears.length - k; omega, weak_sub ⟨rfl, rfl, gInt rfl (by simp), trivial⟩ .nil⟩
                  rw [all_take ht, hu, decide_eq_true (by omega)]
                  rfl
              · skip
                refine aExit rfl ?_
                refine aReg ?_
                refine sp pM ?_
                refine sp pAd ?_
                refine sp pMa ?_
                refine oNil ?_
                refine ⟨i + 1, ⟨by omega, by omega, ?_⟩, by show l.length - (i + 1) < l.length - i; omega, weak_sub ⟨rfl, gInt rfl (by simp), trivial⟩ .nil⟩
                rw [all_take ha, hv, actOk, decide_eq_true (by omega), decide_eq_true (by omega)]
                rw [List.take_of_length_le (by omega)] at hu
                rw [hu]
                rfl
      · skip
        refine aExit rfl ?_
        refine aSeq ?_
        refine aReg ?_
        refine sp pM ?_
        refine sp (by first | exact pLm sl_22 | exact pLs sl_22 | exact pLv sl_22) ?_
        refine sp pB ?_
        refine sp pMa ?_
        refine oNil ?_
        refine aRet ?_
        refine ⟨_, [], _, rfl, .nil, ?_, rfl⟩
        show AV.v (.bool (decide ((l.length : Int) ≤ 40))) = _
        by_cases h40 : l.length ≤ 40
        · rw [List.take_of_length_le (by omega)] at hv
          rw [lightB, hv, decide_eq_true h40, decide_eq_true (by omega)]
          rfl
        · rw [lightB, decide_eq_false h40, decide_eq_false (by omega)]
          rfl
    · skip
      refine gf ?_
      refine gf ?_
      refine sp pK ?_
      refine oNil ?_
      refine aCondF rfl ?_
      refine aExit rfl ?_
      refine aSeq ?_
      refine aReg ?_
      refine sp pM ?_
      refine sp (by first | exact pLm sl_22 | exact pLs sl_22 | exact pLv sl_22) ?_
      refine sp pB ?_
      refine sp pMa ?_
      refine oNil ?_
      refine aRet ?_
      refine ⟨_, [], _, rfl, .nil, ?_, rfl⟩
      show AV.v (.bool (decide ((l.length : Int) ≤ 40))) = _
      by_cases h40 : l.length ≤ 40
      · rw [List.take_of_length_le (by omega)] at hv
        rw [lightB, hv, decide_eq_true h40, decide_eq_true (by omega)]
        rfl
      · rw [lightB, decide_eq_false h40, decide_eq_false (by omega)]
        rfl
end A
end Go.Proofs.Ytnabkchagjjjnaa
set_option linter.unusedVariables false
set_option linter.unusedSimpArgs false
namespace Go.Proofs.Ytnabkchagjjjnaa
namespace A
theorem fd_38_0 : fieldOf Try.prog 38 0 = some (0, 1, false) := by kernel_rfl
theorem fd_38_1 : fieldOf Try.prog 38 1 = some (1, 1, false) := by kernel_rfl
theorem fd_38_3 : fieldOf Try.prog 38 3 = some (3, 1, false) := by kernel_rfl
theorem act1_0 {w : DW} {a : DAct} (h : a.d = 0) : w.act1 a = w.write a.n (doB a) := by rw [DW.act1, if_pos h]
theorem act1_1 {w : DW} {a : DAct} (h : a.d = 1) : w.act1 a = w.flush := by rw [DW.act1, if_neg (by omega), if_pos h]
theorem act1_2 {w : DW} {a : DAct} (h : a.d = 2) : w.act1 a = (w.arm a.n, 0) := by rw [DW.act1, if_neg (by omega), if_neg (by omega), if_pos h]
theorem act1_3 {w : DW} {a : DAct} (h : a.d = 3) : w.act1 a = (w.crash a.tears, 0) := by rw [DW.act1, if_neg (by omega), if_neg (by omega), if_neg (by omega), if_pos h]
theorem act1_n {w : DW} {a : DAct} (h0 : a.d ≠ 0) (h1 : a.d ≠ 1) (h2 : a.d ≠ 2) (h3 : a.d ≠ 3) : w.act1 a = (w, 0) := by rw [DW.act1, if_neg h0, if_neg h1, if_neg h2, if_neg h3]
theorem actOk_b {a : DAct} (h : actOk a = true) : a.b.length ≤ 600 ∧ a.tears.length ≤ 40 ∧ ∀ t ∈ a.tears, t.b.length ≤ 600 := by
  simp only [actOk, Bool.and_eq_true, decide_eq_true_eq, List.all_eq_true] at h
  exact ⟨h.1, h.2.1, h.2.2⟩
theorem doB_len {a : DAct} (h : a.b.length ≤ 600) : (doB a).length ≤ 600 := by
  unfold doB
  split
  · exact h
  · rw [fill_len]; omega
/- waymarklaw03.Do -/
def law03_Do_r7_T : Bool × List (List Nat × List Nat) := (true, [([], []), ([], []), ([], []), ([2], [2]), ([], []), ([], []), ([4, 5], [4, 5]), ([1, 3, 6, 6], [1, 3, 6]), ([], []), ([7, 8], [7, 8]), ([0, 7, 0], [0]), ([9, 10, 0, 1, 2, 3, 4, 5, 6, 7, 8, 9, 10], [9])])
def law03_Do_r7_B : List Nat := [0, 0, 0, 4, 0, 0, 48, 126, 0, 510, 255, 2047]
theorem law03_Do_r7_t : Go.Proofs.YtnabkchagjjjnaaW.PrintLast.rtab .any (Go.Proofs.YtnabkchagjjjnaaW.PrintLast.opsOf Try.f10 7) = law03_Do_r7_T := by kernel_rfl
theorem law03_Do_r7_b : Go.Proofs.YtnabkchagjjjnaaW.PrintLast.waitsOk law03_Do_r7_T.2 law03_Do_r7_B = true := by kernel_rfl
def law03_Do_r10_T : Bool × List (List Nat × List Nat) := (true, [([], []), ([], []), ([1], [1]), ([], []), ([2, 3], [2, 3]), ([0, 2, 0], [0]), ([4, 5, 0, 1, 2, 3, 4, 5], [4])])
def law03_Do_r10_B : List Nat := [0, 0, 2, 0, 14, 7, 63]
theorem law03_Do_r10_t : Go.Proofs.YtnabkchagjjjnaaW.PrintLast.rtab .any (Go.Proofs.YtnabkchagjjjnaaW.PrintLast.opsOf Try.f10 10) = law03_Do_r10_T := by kernel_rfl
theorem law03_Do_r10_b : Go.Proofs.YtnabkchagjjjnaaW.PrintLast.waitsOk law03_Do_r10_T.2 law03_Do_r10_B = true := by kernel_rfl
set_option maxRecDepth 100000 in
set_option maxHeartbeats 2000000 in
theorem law03_Do (db bs bw n : Nat) (S W : List (Int × BS)) (v w : DW) (r : Rel n S W v) (f : Fit w) (a : DAct) (hok : actOk a = true) (hn : a.n ≤ 9223372036854775807) : Triple Try.prog 10 [.v (.pointer (some ⟨db, 0, none⟩)), .agg (dwC w), AV.agg (dactC a)] [.box db [.int n, .v (.map (some bs)), .v (.map (some bw)), .int v.armed, .v (.bool v.dead)], .map bs (kvA S), .map bw (kvA W)] (fun q h' => q = .tup [.agg (dwC (w.act1 a).1), .v (.bool ((v.act1 a).2 == (w.act1 a).2))] ∧ ∃ S' W', Rel n S' W' (v.act1 a).1 ∧ h' = [.box db [.int n, .v (.map (some bs)), .v (.map (some bw)), .int (v.act1 a).1.armed, .v (.bool (v.act1 a).1.dead)], .map bs (kvA S'), .map bw (kvA W')]) := by
  obtain ⟨hb1, hb2, hb3⟩ := actOk_b hok
  have hdl := doB_len hb1
  refine triple_ofR Try.func10 rfl (by kernel_rfl) rfl (by simp) ?_
  refine aSeq ?_
  refine aReg ?_
  refine sq ?_
  refine qBox rfl rfl (by decide) rfl rfl (fun b4 => ?_)
  refine sq ?_
  refine qBox rfl rfl (by decide) rfl rfl (fun b5 => ?_)
  refine sq ?_
  refine qAlloc rfl rfl (by decide) ze_31 rfl (fun b6 => ?_)
  refine sp pMa ?_
  refine oNil ?_
  refine aSeq ?_
  refine aSeq ?_
  refine aReg ?_
  refine sp (pFb fd_38_0) ?_
  refine sr (rB1 ty_3) ?_
  refine oNil ?_
  refine aBlock ?_
  refine aSeq ?_
  refine aReg ?_
  refine sp pB ?_
  refine sp pMa ?_
  refine oNil ?_
  refine aCondEq rfl (fun c15 => ?_) (fun c15 => ?_)
  · skip
    refine aSeq ?_
    refine aReg ?_
    refine sp (pFb fd_38_2) ?_
    refine sr (rB1 ty_35) ?_
    refine sp pMa ?_
    refine oNil ?_
    refine aCutI (α := Unit) (fun _ => True) (fun _ => ([(0, .v (.pointer (some ⟨db, 0, none⟩))), (4, .v (.pointer (some ⟨b4, 0, none⟩))), (5, .v (.pointer (some ⟨b5, 0, none⟩))), (6, .v (.pointer (some ⟨b6, 0, none⟩))), (8, .sl 1 ((doB a).map by1))], .box b4 (dwC w) :: .box b5 (dactC a) :: .box b6 [.v (.slice none 0 0), .v (.slice none 0 0), .int 0, .v (.bool false)] :: [.box db [.int n, .v (.map (some bs)), .v (.map (some bw)), .int v.armed, .v (.bool v.dead)], .map bs (kvA S), .map bw (kvA W)])) ?_ ?_
    · skip
      refine aSeq ?_
      refine aReg ?_
      refine sp (pFb fd_38_3) ?_
      refine sr (rB1 ty_4) ?_
      refine sp pNo ?_
      refine oNil ?_
      refine aCondNot rfl (fun c21 => ?_) (fun c21 => ?_)
      · skip
        refine aReg ?_
        refine sp (pFb fd_38_2) ?_
        refine sr (rB1 ty_35) ?_
        refine sa ?_
        refine aCall rfl rfl (by decide) rfl rfl .nil (law03_Fill a.b (by omega)) ?_
        rintro _ _ ⟨g24, c24, rfl, rfl⟩
        refine oWeak (weak_settle (k := 24) rfl .hd (by rw [List.length_map, fill_len])) ?_
        refine sp pMa ?_
        refine oNil ?_
        first
          | (rw [show doB a = fill a.b by rw [doB, if_neg (by simpa using c21)]]
             exact ⟨(), trivial, weak_sub ⟨rfl, rfl, rfl, rfl, rfl, trivial⟩ (by repeat constructor)⟩)
          | (rw [show doB a = a.b by rw [doB, if_pos (by simpa using c21)]]
             exact ⟨(), trivial, weak_sub ⟨rfl, rfl, rfl, rfl, rfl, trivial⟩ (by repeat constructor)⟩)
      · skip
        refine aSkip ?_
        first
          | (rw [show doB a = fill a.b by rw [doB, if_neg (by simpa using c21)]]
             exact ⟨(), trivial, weak_sub ⟨rfl, rfl, rfl, rfl, rfl, trivial⟩ (by repeat constructor)⟩)
          | (rw [show doB a = a.b by rw [doB, if_pos (by simpa using c21)]]
             exact ⟨(), trivial, weak_sub ⟨rfl, rfl, rfl, rfl, rfl, trivial⟩ (by repeat constructor)⟩)
    · rintro _ _
      skip
      refine aSeq ?_
      refine aReg ?_
      refine sr (by first | exact rSW ty_31 rfl | exact rSA ty_31 | exact rBWa ty_31 | exact rBW ty_31 | exact rBA ty_31 | exact rArA ty_31 (fun _ => rfl)) ?_
      refine sp (by first | exact pFb fd_38_1 | exact pFs fd_38_1) ?_
      refine sr (by first | exact rS1 ty_3 | exact rB1 ty_3 | exact rAr ty_3 | exact rArL ty_3 | exact rArR2 ty_3) ?_
      refine sp pM ?_
      refine sq ?_
      refine qCall0 rfl rfl (by decide) rfl rfl (ref03_Write w a.n (doB a) f f.a1 (by omega)) ?_
      rintro _ _ ⟨rfl, rfl⟩
      refine sp pM ?_
      refine sp pX ?_
      refine sp pX ?_
      refine sq ?_
      refine qAlloc rfl rfl (by decide) ze_31 rfl (fun b9 => ?_)
      refine sa ?_
      refine oStW rfl rfl rfl rfl (by repeat constructor) ty_31 ?_
      refine sp pMa ?_
      refine oNil ?_
      refine aSeq ?_
      refine aDrawS (h1 := [.box b9 _, .box b5 _]) law03_Do_r7_t law03_Do_r7_b [10] 12 #[false, false, false, false, false, false, false, false, false, false, false, false] (by kernel_rfl) rfl rfl (.cons (by repeat constructor) (.cons (by repeat constructor) .nil)) (fun HT => ?_)
      refine er HT 0 rfl (by first | exact rBWa ty_31 | exact rBW ty_31 | exact rBA ty_31) ?_
      refine ep HT 1 rfl pM ?_
      refine ep HT 2 rfl (by first | exact pFb fd_38_1 | exact pFs fd_38_1) ?_
      refine er HT 3 rfl (by first | exact rS1 ty_3 | exact rB1 ty_3 | exact rAr ty_3 | exact rArL ty_3 | exact rArR2 ty_3) ?_
      refine ep HT 5 rfl pM ?_
      refine ep HT 8 rfl pM ?_
      refine e1 HT 4 rfl ?_
      refine qLit (l := []) rfl rfl (by decide) us_35 ty_5 ze_5 rfl (by decide) (by decide) rfl rfl rfl (fun b37 => ?_)
      refine eOneS (i := 6) #[true, true, true, true, true, true, true, false, true, false, false, false] rfl (HT.one (by kernel_rfl)) (by decide) ?_
      · skip
        refine stA (hx := [.sl (some b37) 0 5 1 []]) (wantN rfl) (fun t ht => by cases ht <;> decide) (.cons (by repeat constructor) .nil) (by repeat constructor) ?_
        refine oApp rfl rfl (by decide) rfl (by repeat constructor) rfl (.inl rfl) el_35 sl_35 by1_len (by simp; omega) (by simp; omega) (fun g39 k39 => ?_)
        refine undel (d := 39) rfl ?_
        dsimp only [List.cons_append, List.nil_append]
        refine eSettle (k := 39) rfl .hd (by simp) ?_
        refine eOneS (i := 7) #[true, true, true, true, true, true, true, true, true, false, false, false] rfl (HT.one (by kernel_rfl)) (by decide) ?_
        · skip
          refine stA (hx := [.box db [.int n, .v (.map (some bs)), .v (.map (some bw)), .int v.armed, .v (.bool v.dead)], .map bs (kvA S), .map bw (kvA W)]) (wantN rfl) (fun t ht => by cases ht <;> decide) (.cons (by repeat constructor) (.cons (by repeat constructor) (.cons (by repeat constructor) .nil))) (by repeat constructor) ?_
          refine aCall rfl rfl (by decide) rfl rfl tk_refl (disk_Write db bs bw n a.n (doB a) S W v r) ?_
          rintro _ _ ⟨rfl, W', r', rfl⟩
          refine undel (d := 40) rfl ?_
          dsimp only [List.cons_append, List.nil_append]
          refine ef HT 9 rfl pB ?_
          refine eLast ?_
          refine f1 HT 10 rfl ?_
          refine oStW rfl rfl rfl rfl (by repeat constructor) ty_31 ?_
          refine fp HT 11 rfl pMa ?_
          refine fE HT ?_
          clear HT
          refine aRet ?_
          rw [act1_0 c15, act1_0 c15]
          refine ⟨[.agg (dwC (w.write a.n (doB a)).1), .v (.bool ((v.write a.n (doB a)).2 == (w.write a.n (doB a)).2))], _, _, .cons (.cellA (cs := dwC (w.write a.n (doB a)).1) rfl (by first | exact .head _ | exact .tail _ (.head _) | exact .tail _ (.tail _ (.head _)) | exact .tail _ (.tail _ (.tail _ (.head _))) | exact .tail _ (.tail _ (.tail _ (.tail _ (.head _)))) | exact .tail _ (.tail _ (.tail _ (.tail _ (.tail _ (.head _))))) | exact .tail _ (.tail _ (.tail _ (.tail _ (.tail _ (.tail _ (.head _)))))) | exact .tail _ (.tail _ (.tail _ (.tail _ (.tail _ (.tail _ (.tail _ (.head _)))))))) ty_31) (.cons (.tmp rfl) .nil), (.cons (by repeat constructor) (.cons (by repeat constructor) (.cons (by repeat constructor) .nil)) : Tk _ [.box db [.int n, .v (.map (some bs)), .v (.map (some bw)), .int (v.write a.n (doB a)).1.armed, .v (.bool (v.write a.n (doB a)).1.dead)], .map bs (kvA S), .map bw (kvA W')] _), rfl, S, W', r', rfl⟩
  · skip
    refine aSeq ?_
    refine aReg ?_
    refine sp pB ?_
    refine sp pMa ?_
    refine oNil ?_
    refine aCondEq rfl (fun c43 => ?_) (fun c43 => ?_)
    · skip
      refine aSeq ?_
      refine aReg ?_
      refine sr (by first | exact rBWa ty_31 | exact rBW ty_31 | exact rBA ty_31) ?_
      refine sq ?_
      refine qCall0 rfl rfl (by decide) rfl rfl (ref03_Flush w f f.a1) ?_
      rintro _ _ ⟨rfl, rfl⟩
      refine sp pM ?_
      refine sp pX ?_
      refine sp pX ?_
      refine sq ?_
      refine qAlloc rfl rfl (by decide) ze_31 rfl (fun b11 => ?_)
      refine sa ?_
      refine oStW rfl rfl rfl rfl (by repeat constructor) ty_31 ?_
      refine sp pMa ?_
      refine oNil ?_
      refine aSeq ?_
      refine aDrawS (h1 := [.box b11 _]) law03_Do_r10_t law03_Do_r10_b [5] 7 #[false, false, false, false, false, false, false] (by kernel_rfl) rfl rfl (.cons (by repeat constructor) .nil) (fun HT => ?_)
      refine er HT 0 rfl (by first | exact rBWa ty_31 | exact rBW ty_31 | exact rBA ty_31) ?_
      refine ep HT 1 rfl pM ?_
      refine ep HT 3 rfl pM ?_
      refine eOneS (i := 2) #[true, true, true, true, false, false, false] rfl (HT.one (by kernel_rfl)) (by decide) ?_
      · skip
        refine stA (hx := [.box db [.int n, .v (.map (some bs)), .v (.map (some bw)), .int v.armed, .v (.bool v.dead)], .map bs (kvA S), .map bw (kvA W)]) (wantN rfl) (fun t ht => by cases ht <;> decide) (.cons (by repeat constructor) (.cons (by repeat constructor) (.cons (by repeat constructor) .nil))) (by repeat constructor) ?_
        refine aCall rfl rfl (by decide) rfl rfl tk_refl (disk_Flush db bs bw n S W v r) ?_
        rintro _ _ ⟨rfl, S', W', r', rfl⟩
        refine undel (d := 52) rfl ?_
        dsimp only [List.cons_append, List.nil_append]
        refine ef HT 4 rfl pB ?_
        refine eLast ?_
        refine f1 HT 5 rfl ?_
        refine oStW rfl rfl rfl rfl (by repeat constructor) ty_31 ?_
        refine fp HT 6 rfl pMa ?_
        refine fE HT ?_
        clear HT
        refine aRet ?_
        rw [act1_1 c43, act1_1 c43]
        refine ⟨[.agg (dwC w.flush.1), .v (.bool (v.flush.2 == w.flush.2))], _, _, .cons (.cellA (cs := dwC w.flush.1) rfl (by first | exact .head _ | exact .tail _ (.head _) | exact .tail _ (.tail _ (.head _)) | exact .tail _ (.tail _ (.tail _ (.head _))) | exact .tail _ (.tail _ (.tail _ (.tail _ (.head _)))) | exact .tail _ (.tail _ (.tail _ (.tail _ (.tail _ (.head _))))) | exact .tail _ (.tail _ (.tail _ (.tail _ (.tail _ (.tail _ (.head _)))))) | exact .tail _ (.tail _ (.tail _ (.tail _ (.tail _ (.tail _ (.tail _ (.head _)))))))) ty_31) (.cons (.tmp rfl) .nil), (.cons (by repeat constructor) (.cons (by repeat constructor) (.cons (by repeat constructor) .nil)) : Tk _ [.box db [.int n, .v (.map (some bs)), .v (.map (some bw)), .int v.flush.1.armed, .v (.bool v.flush.1.dead)], .map bs (kvA S'), .map bw (kvA W')] _), rfl, S', W', r', rfl⟩
    · skip
      refine aSeq ?_
      refine aReg ?_
      refine sp pB ?_
      refine sp pMa ?_
      refine oNil ?_
      refine aCondEq rfl (fun c55 => ?_) (fun c55 => ?_)
      · skip
        refine aSeq ?_
        refine aReg ?_
        refine sp pM ?_
        refine sp (pFb fd_38_1) ?_
        refine sr (rB1 ty_3) ?_
        refine sa ?_
        refine aCall rfl rfl (by decide) rfl rfl (.cons (by repeat constructor) .nil) (disk_Arm _ _ _ _ _ _ _) ?_
        rintro _ _ ⟨rfl, rfl⟩
        refine oNil ?_
        refine aSeq ?_
        refine aReg ?_
        refine sp (pFb fd_38_1) ?_
        refine sr (rB1 ty_3) ?_
        refine sp (pFb fd_31_2) ?_
        refine sa ?_
        refine oStB rfl rfl rfl rfl (by repeat constructor) ty_3 rfl (Nat.le_of_ble_eq_true rfl) rfl ?_
        refine oNil ?_
        refine aSeq ?_
        refine aReg ?_
        refine sp (pFb fd_38_1) ?_
        refine sr (rB1 ty_3) ?_
        refine sp pB ?_
        refine oNil ?_
        refine aCondDec rfl (fun c66 => ?_) (fun c66 => ?_)
        · skip
          refine aReg ?_
          refine sp (pFb fd_31_2) ?_
          refine sa ?_
          refine oStB rfl rfl rfl rfl (by repeat constructor) ty_3 rfl (Nat.le_of_ble_eq_true rfl) rfl ?_
          refine oNil ?_
          refine aSeq ?_
          refine aReg ?_
          refine sr (by first | exact rBWa ty_31 | exact rBW ty_31 | exact rBA ty_31) ?_
          refine sa ?_
          refine oStW rfl rfl rfl rfl (by repeat constructor) ty_31 ?_
          refine sp pMa ?_
          refine oNil ?_
          refine aRet ?_
          first
            | (have hz : w.arm a.n = ⟨w.safe, w.waits, -1, w.dead⟩ := by rw [DW.arm, if_pos (by assumption)]
               rw [act1_2 (by assumption), act1_2 (by assumption), hz]
               refine ⟨[.agg (dwC ⟨w.safe, w.waits, -1, w.dead⟩), .v (.bool true)], _, _, .cons (.cellA (cs := dwC ⟨w.safe, w.waits, -1, w.dead⟩) rfl (by first | exact .head _ | exact .tail _ (.head _) | exact .tail _ (.tail _ (.head _)) | exact .tail _ (.tail _ (.tail _ (.head _))) | exact .tail _ (.tail _ (.tail _ (.tail _ (.head _)))) | exact .tail _ (.tail _ (.tail _ (.tail _ (.tail _ (.head _))))) | exact .tail _ (.tail _ (.tail _ (.tail _ (.tail _ (.tail _ (.head _)))))) | exact .tail _ (.tail _ (.tail _ (.tail _ (.tail _ (.tail _ (.tail _ (.head _)))))))) ty_31) (.cons (.tmp rfl) .nil), (.cons (by repeat constructor) (.cons (by repeat constructor) (.cons (by repeat constructor) .nil)) : Tk _ [.box db [.int n, .v (.map (some bs)), .v (.map (some bw)), .int (v.arm a.n).armed, .v (.bool (v.arm a.n).dead)], .map bs (kvA S), .map bw (kvA W)] _), rfl, S, W, r.arm hn, rfl⟩)
            | (have hz : w.arm a.n = ⟨w.safe, w.waits, a.n, w.dead⟩ := by rw [DW.arm, if_neg (by assumption)]
               rw [act1_2 (by assumption), act1_2 (by assumption), hz]
               refine ⟨[.agg (dwC ⟨w.safe, w.waits, a.n, w.dead⟩), .v (.bool true)], _, _, .cons (.cellA (cs := dwC ⟨w.safe, w.waits, a.n, w.dead⟩) rfl (by first | exact .head _ | exact .tail _ (.head _) | exact .tail _ (.tail _ (.head _)) | exact .tail _ (.tail _ (.tail _ (.head _))) | exact .tail _ (.tail _ (.tail _ (.tail _ (.head _)))) | exact .tail _ (.tail _ (.tail _ (.tail _ (.tail _ (.head _))))) | exact .tail _ (.tail _ (.tail _ (.tail _ (.tail _ (.tail _ (.head _)))))) | exact .tail _ (.tail _ (.tail _ (.tail _ (.tail _ (.tail _ (.tail _ (.head _)))))))) ty_31) (.cons (.tmp rfl) .nil), (.cons (by repeat constructor) (.cons (by repeat constructor) (.cons (by repeat constructor) .nil)) : Tk _ [.box db [.int n, .v (.map (some bs)), .v (.map (some bw)), .int (v.arm a.n).armed, .v (.bool (v.arm a.n).dead)], .map bs (kvA S), .map bw (kvA W)] _), rfl, S, W, r.arm hn, rfl⟩)
            | (rw [act1_n (by assumption) (by assumption) (by assumption) (by assumption), act1_n (by assumption) (by assumption) (by assumption) (by assumption)]
               refine ⟨[.agg (dwC w), .v (.bool true)], _, _, .cons (.cellA (cs := dwC w) rfl (by first | exact .head _ | exact .tail _ (.head _) | exact .tail _ (.tail _ (.head _)) | exact .tail _ (.tail _ (.tail _ (.head _))) | exact .tail _ (.tail _ (.tail _ (.tail _ (.head _)))) | exact .tail _ (.tail _ (.tail _ (.tail _ (.tail _ (.head _))))) | exact .tail _ (.tail _ (.tail _ (.tail _ (.tail _ (.tail _ (.head _)))))) | exact .tail _ (.tail _ (.tail _ (.tail _ (.tail _ (.tail _ (.tail _ (.head _)))))))) ty_31) (.cons (.tmp rfl) .nil), (.cons (by repeat constructor) (.cons (by repeat constructor) (.cons (by repeat constructor) .nil)) : Tk _ [.box db [.int n, .v (.map (some bs)), .v (.map (some bw)), .int v.armed, .v (.bool v.dead)], .map bs (kvA S), .map bw (kvA W)] _), rfl, S, W, r, rfl⟩)
        · skip
          refine aSkip ?_
          refine aSeq ?_
          refine aReg ?_
          refine sr (by first | exact rBWa ty_31 | exact rBW ty_31 | exact rBA ty_31) ?_
          refine sa ?_
          refine oStW rfl rfl rfl rfl (by repeat constructor) ty_31 ?_
          refine sp pMa ?_
          refine oNil ?_
          refine aRet ?_
          first
            | (have hz : w.arm a.n = ⟨w.safe, w.waits, -1, w.dead⟩ := by rw [DW.arm, if_pos (by assumption)]
               rw [act1_2 (by assumption), act1_2 (by assumption), hz]
               refine ⟨[.agg (dwC ⟨w.safe, w.waits, -1, w.dead⟩), .v (.bool true)], _, _, .cons (.cellA (cs := dwC ⟨w.safe, w.waits, -1, w.dead⟩) rfl (by first | exact .head _ | exact .tail _ (.head _) | exact .tail _ (.tail _ (.head _)) | exact .tail _ (.tail _ (.tail _ (.head _))) | exact .tail _ (.tail _ (.tail _ (.tail _ (.head _)))) | exact .tail _ (.tail _ (.tail _ (.tail _ (.tail _ (.head _))))) | exact .tail _ (.tail _ (.tail _ (.tail _ (.tail _ (.tail _ (.head _)))))) | exact .tail _ (.tail _ (.tail _ (.tail _ (.tail _ (.tail _ (.tail _ (.head _)))))))) ty_31) (.cons (.tmp rfl) .nil), (.cons (by repeat constructor) (.cons (by repeat constructor) (.cons (by repeat constructor) .nil)) : Tk _ [.box db [.int n, .v (.map (some bs)), .v (.map (some bw)), .int (v.arm a.n).armed, .v (.bool (v.arm a.n).dead)], .map bs (kvA S), .map bw (kvA W)] _), rfl, S, W, r.arm hn, rfl⟩)
            | (have hz : w.arm a.n = ⟨w.safe, w.waits, a.n, w.dead⟩ := by rw [DW.arm, if_neg (by assumption)]
               rw [act1_2 (by assumption), act1_2 (by assumption), hz]
               refine ⟨[.agg (dwC ⟨w.safe, w.waits, a.n, w.dead⟩), .v (.bool true)], _, _, .cons (.cellA (cs := dwC ⟨w.safe, w.waits, a.n, w.dead⟩) rfl (by first | exact .head _ | exact .tail _ (.head _) | exact .tail _ (.tail _ (.head _)) | exact .tail _ (.tail _ (.tail _ (.head _))) | exact .tail _ (.tail _ (.tail _ (.tail _ (.head _)))) | exact .tail _ (.tail _ (.tail _ (.tail _ (.tail _ (.head _))))) | exact .tail _ (.tail _ (.tail _ (.tail _ (.tail _ (.tail _ (.head _)))))) | exact .tail _ (.tail _ (.tail _ (.tail _ (.tail _ (.tail _ (.tail _ (.head _)))))))) ty_31) (.cons (.tmp rfl) .nil), (.cons (by repeat constructor) (.cons (by repeat constructor) (.cons (by repeat constructor) .nil)) : Tk _ [.box db [.int n, .v (.map (some bs)), .v (.map (some bw)), .int (v.arm a.n).armed, .v (.bool (v.arm a.n).dead)], .map bs (kvA S), .map bw (kvA W)] _), rfl, S, W, r.arm hn, rfl⟩)
            | (rw [act1_n (by assumption) (by assumption) (by assumption) (by assumption), act1_n (by assumption) (by assumption) (by assumption) (by assumption)]
               refine ⟨[.agg (dwC w), .v (.bool true)], _, _, .cons (.cellA (cs := dwC w) rfl (by first | exact .head _ | exact .tail _ (.head _) | exact .tail _ (.tail _ (.head _)) | exact .tail _ (.tail _ (.tail _ (.head _))) | exact .tail _ (.tail _ (.tail _ (.tail _ (.head _)))) | exact .tail _ (.tail _ (.tail _ (.tail _ (.tail _ (.head _))))) | exact .tail _ (.tail _ (.tail _ (.tail _ (.tail _ (.tail _ (.head _)))))) | exact .tail _ (.tail _ (.tail _ (.tail _ (.tail _ (.tail _ (.tail _ (.head _)))))))) ty_31) (.cons (.tmp rfl) .nil), (.cons (by repeat constructor) (.cons (by repeat constructor) (.cons (by repeat constructor) .nil)) : Tk _ [.box db [.int n, .v (.map (some bs)), .v (.map (some bw)), .int v.armed, .v (.bool v.dead)], .map bs (kvA S), .map bw (kvA W)] _), rfl, S, W, r, rfl⟩)
      · skip
        refine aSeq ?_
        refine aReg ?_
        refine sp pB ?_
        refine sp pMa ?_
        refine oNil ?_
        refine aCondEq rfl (fun c68 => ?_) (fun c68 => ?_)
        · skip
          refine aSeq ?_
          refine aReg ?_
          refine sp pM ?_
          refine sp (pFb fd_38_4) ?_
          refine sr (rB1 ty_36) ?_
          refine sa ?_
          refine aCall rfl rfl (by decide) rfl rfl (.cons (by repeat constructor) (.cons (by repeat constructor) (.cons (by repeat constructor) .nil))) (disk_Crash db bs bw n S W v r a.tears) ?_
          rintro _ _ ⟨rfl, S', r', rfl⟩
          refine oNil ?_
          refine aSeq ?_
          refine aReg ?_
          refine sr (by first | exact rBWa ty_31 | exact rBW ty_31 | exact rBA ty_31) ?_
          refine sp (pFb fd_38_4) ?_
          refine sr (rB1 ty_36) ?_
          refine sq ?_
          refine qCall0 rfl rfl (by decide) rfl rfl (ref03_Crash w f a.tears (by omega) (fun t ht => by have := hb3 t ht; omega)) ?_
          rintro _ _ ⟨rfl, rfl⟩
          refine sa ?_
          refine oStW rfl rfl rfl rfl (by repeat constructor) ty_31 ?_
          refine sp pMa ?_
          refine oNil ?_
          refine aRet ?_
          rw [act1_3 c68, act1_3 c68]
          refine ⟨[.agg (dwC (w.crash a.tears)), .v (.bool true)], _, _, .cons (.cellA (cs := dwC (w.crash a.tears)) rfl (by first | exact .head _ | exact .tail _ (.head _) | exact .tail _ (.tail _ (.head _)) | exact .tail _ (.tail _ (.tail _ (.head _))) | exact .tail _ (.tail _ (.tail _ (.tail _ (.head _)))) | exact .tail _ (.tail _ (.tail _ (.tail _ (.tail _ (.head _))))) | exact .tail _ (.tail _ (.tail _ (.tail _ (.tail _ (.tail _ (.head _)))))) | exact .tail _ (.tail _ (.tail _ (.tail _ (.tail _ (.tail _ (.tail _ (.head _)))))))) ty_31) (.cons (.tmp rfl) .nil), (.cons (by repeat constructor) (.cons (by repeat constructor) (.cons (by repeat constructor) .nil)) : Tk _ [.box db [.int n, .v (.map (some bs)), .v (.map (some bw)), .int (v.crash a.tears).armed, .v (.bool (v.crash a.tears).dead)], .map bs (kvA S'), .map bw (kvA [])] _), rfl, S', [], r', rfl⟩
        · skip
          refine aSkip ?_
          refine aSeq ?_
          refine aReg ?_
          refine sr (by first | exact rBWa ty_31 | exact rBW ty_31 | exact rBA ty_31) ?_
          refine sa ?_
          refine oStW rfl rfl rfl rfl (by repeat constructor) ty_31 ?_
          refine sp pMa ?_
          refine oNil ?_
          refine aRet ?_
          first
            | (have hz : w.arm a.n = ⟨w.safe, w.waits, -1, w.dead⟩ := by rw [DW.arm, if_pos (by assumption)]
               rw [act1_2 (by assumption), act1_2 (by assumption), hz]
               refine ⟨[.agg (dwC ⟨w.safe, w.waits, -1, w.dead⟩), .v (.bool true)], _, _, .cons (.cellA (cs := dwC ⟨w.safe, w.waits, -1, w.dead⟩) rfl (by first | exact .head _ | exact .tail _ (.head _) | exact .tail _ (.tail _ (.head _)) | exact .tail _ (.tail _ (.tail _ (.head _))) | exact .tail _ (.tail _ (.tail _ (.tail _ (.head _)))) | exact .tail _ (.tail _ (.tail _ (.tail _ (.tail _ (.head _))))) | exact .tail _ (.tail _ (.tail _ (.tail _ (.tail _ (.tail _ (.head _)))))) | exact .tail _ (.tail _ (.tail _ (.tail _ (.tail _ (.tail _ (.tail _ (.head _)))))))) ty_31) (.cons (.tmp rfl) .nil), (.cons (by repeat constructor) (.cons (by repeat constructor) (.cons (by repeat constructor) .nil)) : Tk _ [.box db [.int n, .v (.map (some bs)), .v (.map (some bw)), .int (v.arm a.n).armed, .v (.bool (v.arm a.n).dead)], .map bs (kvA S), .map bw (kvA W)] _), rfl, S, W, r.arm hn, rfl⟩)
            | (have hz : w.arm a.n = ⟨w.safe, w.waits, a.n, w.dead⟩ := by rw [DW.arm, if_neg (by assumption)]
               rw [act1_2 (by assumption), act1_2 (by assumption), hz]
               refine ⟨[.agg (dwC ⟨w.safe, w.waits, a.n, w.dead⟩), .v (.bool true)], _, _, .cons (.cellA (cs := dwC ⟨w.safe, w.waits, a.n, w.dead⟩) rfl (by first | exact .head _ | exact .tail _ (.head _) | exact .tail _ (.tail _ (.head _)) | exact .tail _ (.tail _ (.tail _ (.head _))) | exact .tail _ (.tail _ (.tail _ (.tail _ (.head _)))) | exact .tail _ (.tail _ (.tail _ (.tail _ (.tail _ (.head _))))) | exact .tail _ (.tail _ (.tail _ (.tail _ (.tail _ (.tail _ (.head _)))))) | exact .tail _ (.tail _ (.tail _ (.tail _ (.tail _ (.tail _ (.tail _ (.head _)))))))) ty_31) (.cons (.tmp rfl) .nil), (.cons (by repeat constructor) (.cons (by repeat constructor) (.cons (by repeat constructor) .nil)) : Tk _ [.box db [.int n, .v (.map (some bs)), .v (.map (some bw)), .int (v.arm a.n).armed, .v (.bool (v.arm a.n).dead)], .map bs (kvA S), .map bw (kvA W)] _), rfl, S, W, r.arm hn, rfl⟩)
            | (rw [act1_n (by assumption) (by assumption) (by assumption) (by assumption), act1_n (by assumption) (by assumption) (by assumption) (by assumption)]
               refine ⟨[.agg (dwC w), .v (.bool true)], _, _, .cons (.cellA (cs := dwC w) rfl (by first | exact .head _ | exact .tail _ (.head _) | exact .tail _ (.tail _ (.head _)) | exact .tail _ (.tail _ (.tail _ (.head _))) | exact .tail _ (.tail _ (.tail _ (.tail _ (.head _)))) | exact .tail _ (.tail _ (.tail _ (.tail _ (.tail _ (.head _))))) | exact .tail _ (.tail _ (.tail _ (.tail _ (.tail _ (.tail _ (.head _)))))) | exact .tail _ (.tail _ (.tail _ (.tail _ (.tail _ (.tail _ (.tail _ (.head _)))))))) ty_31) (.cons (.tmp rfl) .nil), (.cons (by repeat constructor) (.cons (by repeat constructor) (.cons (by repeat constructor) .nil)) : Tk _ [.box db [.int n, .v (.map (some bs)), .v (.map (some bw)), .int v.armed, .v (.bool v.dead)], .map bs (kvA S), .map bw (kvA W)] _), rfl, S, W, r, rfl⟩)
end A
end Go.Proofs.Ytnabkchagjjjnaa
set_option linter.unusedVariables false
set_option linter.unusedSimpArgs false
namespace Go.Proofs.Ytnabkchagjjjnaa
namespace A
theorem bo_4 : isBoolT Try.prog 4 = true := by kernel_rfl
theorem st_42 : structPlaces Try.prog 42 = some [(0, 1), (1, 1), (2, 1), (3, 1), (4, 1)] := by kernel_rfl
theorem ze_42 : zeroOf Try.prog 42 = some (.agg #[.int .i64 0, .map none, .map none, .int .i64 0, .bool false]) := by kernel_rfl
/- disk.Disk).off -/
set_option maxRecDepth 100000 in
set_option maxHeartbeats 400000 in
theorem disk_off_s (n a : Int) (x y : AV) (d : Bool) : Triple Try.prog 39 [.sp [.int n, x, y, .int a, .v (.bool d)]] [] (fun r h' => r = .v (.bool (n == 0 || d)) ∧ h' = []) := by
  refine triple_of Try.func39 rfl (by kernel_rfl) rfl (by simp) ?_
  refine aSeq ?_
  refine aReg ?_
  refine sp pMa ?_
  refine oNil ?_
  refine aSeq ?_
  refine aReg ?_
  refine sp pM ?_
  refine sp (by first | exact pPtrNil rfl (.inl rfl) rfl pt_25 rfl (rfl : _ = false) | exact pSpNil rfl (.inl rfl) rfl pt_25 (rfl : _ = false)) ?_
  refine sp pM ?_
  refine gp pM ?_
  refine gp pNs ?_
  refine gp (pFs fd_42_0) ?_
  refine gr (rS1 ty_3) ?_
  refine gp pB ?_
  refine sp pK ?_
  refine sp pM ?_
  refine oSplitEq 12 rfl (fun c12 => ?_) (fun c12 => ?_)
  · skip
    refine gf ?_
    refine gf ?_
    refine gf ?_
    refine gf ?_
    refine sp pK ?_
    refine sp pMa ?_
    refine oNil ?_
    refine aRet ?_
    refine ⟨_, [], [], rfl, .nil, ?_, rfl⟩
    simp_all [retOf]
  · skip
    refine gp pM ?_
    refine gp pNs ?_
    refine gp (pFs fd_42_4) ?_
    refine gr (rS1 ty_4) ?_
    refine sp pK ?_
    refine sp pMa ?_
    refine oNil ?_
    refine aRet ?_
    refine ⟨_, [], [], rfl, .nil, ?_, rfl⟩
    simp_all [retOf]
/- disk.Disk).Size -/
set_option maxRecDepth 100000 in
set_option maxHeartbeats 400000 in
theorem disk_Size_s (n a : Int) (x y : AV) (d : Bool) : Triple Try.prog 19 [.sp [.int n, x, y, .int a, .v (.bool d)]] [] (fun r h' => r = .int n ∧ h' = []) := by
  refine triple_of Try.func19 rfl (by kernel_rfl) rfl (by simp) ?_
  refine aSeq ?_
  refine aReg ?_
  refine sp pMa ?_
  refine oNil ?_
  refine aSeq ?_
  refine aSeq ?_
  refine aReg ?_
  refine sp pM ?_
  refine sp (by first | exact pPtrNil rfl (.inl rfl) rfl pt_25 rfl (rfl : _ = false) | exact pSpNil rfl (.inl rfl) rfl pt_25 (rfl : _ = false)) ?_
  refine oNil ?_
  refine aCondF rfl ?_
  refine aSkip ?_
  refine aSeq ?_
  refine aReg ?_
  refine sp pM ?_
  refine sp pNs ?_
  refine sp (pFs fd_42_0) ?_
  refine sr (rS1 ty_3) ?_
  refine sp pMa ?_
  refine oNil ?_
  refine aRet ?_
  exact ⟨_, [], [], rfl, .nil, rfl, rfl⟩
/- disk.Disk).Dead -/
set_option maxRecDepth 100000 in
set_option maxHeartbeats 400000 in
theorem disk_Dead_s (n a : Int) (x y : AV) (d : Bool) : Triple Try.prog 15 [.sp [.int n, x, y, .int a, .v (.bool d)]] [] (fun r h' => r = .v (.bool (n == 0 || d)) ∧ h' = []) := by
  refine triple_of Try.func15 rfl (by kernel_rfl) rfl (by simp) ?_
  refine aSeq ?_
  refine aReg ?_
  refine sp pMa ?_
  refine oNil ?_
  refine aSeq ?_
  refine aReg ?_
  refine sp pM ?_
  refine sq ?_
  refine qCall0 rfl rfl (by decide) rfl rfl (disk_off_s _ _ _ _ _) ?_
  rintro _ _ ⟨rfl, rfl⟩
  refine sp pMa ?_
  refine oNil ?_
  refine aRet ?_
  exact ⟨_, [], [], rfl, .nil, rfl, rfl⟩
/- disk.New -/
set_option maxRecDepth 100000 in
set_option maxHeartbeats 400000 in
theorem disk_New0 (n : Int) : Triple Try.prog 8 [.int n] [] (fun q h' => (¬ (1 ≤ n ∧ n ≤ 1024) ∧ q = .tup [.v (.pointer none), .int 1] ∧ h' = []) ∨ ((1 ≤ n ∧ n ≤ 1024) ∧ ∃ db bs bw, q = .tup [.v (.pointer (some ⟨db, 0, none⟩)), .int 0] ∧ h' = [.box db [.int n, .v (.map (some bs)), .v (.map (some bw)), .int (-1), .v (.bool false)], .map bs [], .map bw []])) := by
  refine triple_of Try.func8 rfl (by kernel_rfl) rfl (by simp) ?_
  refine aSeq ?_
  refine aReg ?_
  refine sp pMa ?_
  refine sp pMa ?_
  refine oNil ?_
  refine aSeq ?_
  refine aSeq ?_
  refine aReg ?_
  refine sp pM ?_
  refine sp pB ?_
  refine sp pM ?_
  refine oSplitDec 6 rfl (fun c6 => ?_) (fun c6 => ?_)
  · skip
    refine gf ?_
    refine gf ?_
    refine sp pK ?_
    refine oNil ?_
    refine aCondT rfl ?_
    refine aSeq ?_
    refine aReg ?_
    refine sp pMa ?_
    refine sp pMa ?_
    refine oNil ?_
    refine aRet ?_
    exact ⟨_, [], _, rfl, .nil, .inl ⟨by omega, rfl, rfl⟩⟩
  · skip
    refine gp pM ?_
    refine gp pB ?_
    refine sp pK ?_
    refine oNil ?_
    refine aCondDec rfl (fun c9 => ?_) (fun c9 => ?_)
    · skip
      refine aSeq ?_
      refine aReg ?_
      refine sp pMa ?_
      refine sp pMa ?_
      refine oNil ?_
      refine aRet ?_
      exact ⟨_, [], _, rfl, .nil, .inl ⟨by omega, rfl, rfl⟩⟩
    · skip
      refine aSkip ?_
      refine aSeq ?_
      refine aReg ?_
      refine sp pM ?_
      refine sq ?_
      refine qMakeMap rfl rfl (by decide) (fun b11 => ?_)
      refine sq ?_
      refine qMakeMap rfl rfl (by decide) (fun b12 => ?_)
      refine sp (pBuild rfl st_42 ze_42 rfl rfl rfl rfl) ?_
      refine sq ?_
      refine qBox rfl rfl (by decide) rfl rfl (fun b14 => ?_)
      refine sp pMa ?_
      refine sp pMa ?_
      refine oNil ?_
      refine aRet ?_
      exact ⟨_, [_, _, _], [], rfl, .cons .hd (.cons (.tl .hd) (.cons .hd .nil)), .inr ⟨by omega, b14, b11, b12, rfl, rfl⟩⟩
theorem disk_New (n : Nat) (h1 : 1 ≤ n) (h2 : n ≤ 1024) : Triple Try.prog 8 [.int n] [] (fun q h' => ∃ db bs bw, q = .tup [.v (.pointer (some ⟨db, 0, none⟩)), .int 0] ∧ h' = [.box db [.int n, .v (.map (some bs)), .v (.map (some bw)), .int (DW.new n).armed, .v (.bool (DW.new n).dead)], .map bs (kvA []), .map bw (kvA [])]) :=
  (disk_New0 n).mono fun q h' hq => by
    rcases hq with ⟨h, _⟩ | ⟨_, h⟩
    · omega
    · exact h
/- waymarklaw03.Like -/
def law03_Like_r1_T : Bool × List (List Nat × List Nat) := (true, [([], []), ([0], [0]), ([1], [1]), ([2], [2]), ([3, 2, 2], [2, 3]), ([2], [2]), ([5, 2], [2, 5]), ([4, 6, 2], [2, 4, 6]), ([2, 7], [2, 7]), ([8, 4], [8]), ([9], [9]), ([10, 9, 9], [9, 10]), ([9], [9]), ([12, 9], [9, 12]), ([13, 9], [9, 13]), ([11, 14, 9], [9, 11, 14]), ([9, 15], [9, 15])])
def law03_Like_r1_B : List Nat := [0, 1, 3, 7, 15, 7, 39, 127, 255, 511, 1023, 2047, 1023, 5119, 13311, 32767, 65535]
theorem law03_Like_r1_t : Go.Proofs.YtnabkchagjjjnaaW.PrintLast.rtab .any (Go.Proofs.YtnabkchagjjjnaaW.PrintLast.opsOf Try.f21 1) = law03_Like_r1_T := by kernel_rfl
theorem law03_Like_r1_b : Go.Proofs.YtnabkchagjjjnaaW.PrintLast.waitsOk law03_Like_r1_T.2 law03_Like_r1_B = true := by kernel_rfl
def law03_Like_r3_T : Bool × List (List Nat × List Nat) := (true, [([], []), ([0], [0]), ([], []), ([2, 1], [2]), ([1, 3, 0, 1], [1]), ([3, 4, 0, 1, 2, 3, 4], [3])])
def law03_Like_r3_B : List Nat := [0, 1, 0, 7, 15, 31]
theorem law03_Like_r3_t : Go.Proofs.YtnabkchagjjjnaaW.PrintLast.rtab .any (Go.Proofs.YtnabkchagjjjnaaW.PrintLast.opsOf Try.f21 3) = law03_Like_r3_T := by kernel_rfl
theorem law03_Like_r3_b : Go.Proofs.YtnabkchagjjjnaaW.PrintLast.waitsOk law03_Like_r3_T.2 law03_Like_r3_B = true := by kernel_rfl
def law03_Like_r9_T : Bool × List (List Nat × List Nat) := (true, [([], []), ([], []), ([0, 1], [0, 1]), ([2], [2]), ([], []), ([], []), ([4, 5], [4, 5]), ([6], [6]), ([3, 7], [3, 7])])
def law03_Like_r9_B : List Nat := [0, 0, 3, 7, 0, 0, 48, 112, 255]
theorem law03_Like_r9_t : Go.Proofs.YtnabkchagjjjnaaW.PrintLast.rtab .any (Go.Proofs.YtnabkchagjjjnaaW.PrintLast.opsOf Try.f21 9) = law03_Like_r9_T := by kernel_rfl
theorem law03_Like_r9_b : Go.Proofs.YtnabkchagjjjnaaW.PrintLast.waitsOk law03_Like_r9_T.2 law03_Like_r9_B = true := by kernel_rfl
set_option maxRecDepth 100000 in
set_option maxHeartbeats 2000000 in
theorem law03_Like (db bs bw n : Nat) (S W : List (Int × BS)) (w : DW) (r : Rel n S W w) : Triple Try.prog 21 [.v (.pointer (some ⟨db, 0, none⟩)), .agg (dwC w)] [.box db [.int n, .v (.map (some bs)), .v (.map (some bw)), .int w.armed, .v (.bool w.dead)], .map bs (kvA S), .map bw (kvA W)] (fun q h' => q = .v (.bool true) ∧ h' = [.box db [.int n, .v (.map (some bs)), .v (.map (some bw)), .int w.armed, .v (.bool w.dead)], .map bs (kvA S), .map bw (kvA W)]) := by
  have f := r.fit
  have hsn := r.sn
  have hn1 := r.n1
  have hn2 := r.n2
  have hwl := r.wl
  refine triple_of Try.func21 rfl (by kernel_rfl) rfl (by simp) ?_
  refine aSeq ?_
  refine aReg ?_
  refine sq ?_
  refine qBox rfl rfl (by decide) rfl rfl (fun b3 => ?_)
  refine sp pMa ?_
  refine oNil ?_
  refine aSeq ?_
  refine aSeq ?_
  have hdd : (if (BinOp.neq = BinOp.eql) then (((n : Int) == 0 || w.dead) == w.dead) else !(((n : Int) == 0 || w.dead) == w.dead)) = false := by rw [show ((n : Int) == 0) = false by simp; omega, if_neg (by decide)]; simp
  have hsz : (.bool ((n : Int) != (w.safe.length : Int)) : Value) = .bool false := by rw [hsn]; simp
  refine aDrawT law03_Like_r1_t law03_Like_r1_b [] 17 #[false, false, false, false, false, false, false, false, false, false, false, false, false, false, false, false, false] (by kernel_rfl) rfl rfl (fun HT => ?_)
  refine dp HT 0 rfl pM ?_
  refine dp HT 1 rfl (by first | exact pPtrNil rfl (.inl rfl) rfl pt_25 rfl (rfl : _ = false) | exact pSpNil rfl (.inl rfl) rfl pt_25 (rfl : _ = false)) ?_
  refine dp HT 2 rfl pM ?_
  refine dpG HT 3 rfl pM ?_
  refine dpG HT 5 rfl (pFb fd_31_3) ?_
  refine drG HT 6 rfl (rB1 ty_4) ?_
  refine dGo ?_
  refine e1G HT 4 rfl ?_
  refine qCallV rfl rfl (by decide) rfl rfl (.cons (.sp (by simp)) .nil) (disk_Dead_s n w.armed (.v (.map (some bs))) (.v (.map (some bw))) w.dead) ?_
  refine efG HT 7 rfl (pEqB rfl (.inr rfl) rfl rfl bo_4 hdd) ?_
  refine ef HT 8 rfl pK ?_
  refine ef HT 9 rfl pM ?_
  refine epG HT 10 rfl pM ?_
  refine epG HT 12 rfl (pFb fd_31_0) ?_
  refine erG HT 13 rfl (rB1 ty_29) ?_
  refine epG HT 14 rfl (by first | exact pLm sl_29 | exact pLs sl_29 | exact pLv sl_29) ?_
  refine e1G HT 11 rfl ?_
  refine qCallV rfl rfl (by decide) rfl rfl (.cons (.sp (by simp)) .nil) (disk_Size_s n w.armed (.v (.map (some bs))) (.v (.map (some bw))) w.dead) ?_
  refine efG HT 15 rfl (pBin rfl rfl rfl rfl hsz) ?_
  refine ef HT 16 rfl pK ?_
  refine eE HT ?_
  clear HT
  refine aCondF rfl ?_
  refine aSkip ?_
  refine aSeq ?_
  refine aDrawS (h1 := [.box b3 _]) law03_Like_r3_t law03_Like_r3_b [3] 6 #[false, false, false, false, false, false] (by kernel_rfl) rfl rfl (.cons .hd .nil) (fun HT => ?_)
  refine ep HT 0 rfl pM ?_
  refine er HT 2 rfl (by first | exact rBWa ty_31 | exact rBW ty_31 | exact rBA ty_31) ?_
  refine eOneS (i := 1) #[true, true, true, false, false, false] rfl (HT.one (by kernel_rfl)) (by decide) ?_
  · skip
    refine stA (hx := [.box db [.int n, .v (.map (some bs)), .v (.map (some bw)), .int w.armed, .v (.bool w.dead)], .map bs (kvA S), .map bw (kvA W)]) (wantN rfl) (fun t ht => by cases ht <;> decide) (.cons (by repeat constructor) (.cons (by repeat constructor) (.cons (by repeat constructor) .nil))) (by repeat constructor) ?_
    refine aCall rfl rfl (by decide) rfl rfl tk_refl (disk_Waits db bs bw n S W w r) ?_
    rintro _ _ ⟨g29, c29, rfl, rfl⟩
    refine undel (d := 29) rfl ?_
    dsimp only [List.cons_append, List.nil_append]
    refine eSettle (k := 29) rfl .hd (natsA_len _).symm ?_
    refine eLast ?_
    refine f1 HT 3 rfl ?_
    refine aCall rfl rfl (by decide) rfl rfl .nil (ref03_Waiting w f) ?_
    rintro _ _ ⟨g31, c31, rfl, rfl⟩
    refine fWeak (weak_settle (k := 31) rfl .hd (natsA_len _).symm) ?_
    refine fp HT 4 rfl pMa ?_
    refine fp HT 5 rfl pMa ?_
    refine fE HT ?_
    clear HT
    refine aSeq ?_
    refine aSeq ?_
    refine aReg ?_
    refine sp pM ?_
    refine sp (pLenS' (pLenS rfl rfl sl_51) (natsA_len _)) ?_
    refine sp pM ?_
    refine sp (pLenS' (pLenS rfl rfl sl_51) (natsA_len _)) ?_
    refine sp (pBin rfl rfl rfl rfl (by simp : _ = Value.bool false)) ?_
    refine oNil ?_
    refine aCondF rfl ?_
    refine aSkip ?_
    refine aSeq ?_
    refine aSeq ?_
    refine aReg ?_
    refine sp pMa ?_
    refine oNil ?_
    refine aBlock ?_
    refine aLoopI (α := Nat) (fun i => i ≤ w.waiting.length) (fun i => ([(0, .v (.pointer (some ⟨db, 0, none⟩))), (3, .v (.pointer (some ⟨b3, 0, none⟩))), (5, .sl 1 (natsA w.waiting)), (6, .sl 1 (natsA w.waiting)), (7, .int i)], .box b3 (dwC w) :: [.box db [.int n, .v (.map (some bs)), .v (.map (some bw)), .int w.armed, .v (.bool w.dead)], .map bs (kvA S), .map bw (kvA W)])) (fun i => w.waiting.length - i) 0 ?_ ?_ ?_
    · skip
      omega
    · skip
      exact weak_sub ⟨rfl, rfl, rfl, rfl, rfl, trivial⟩ (.cons (by repeat constructor) (.cons (by repeat constructor) (.cons (by repeat constructor) (.cons (by repeat constructor) .nil))))
    · rintro i hi
      skip
      refine aSeq ?_
      refine aSeq ?_
      refine aReg ?_
      refine sp pM ?_
      refine sp pM ?_
      refine sp (pLenS' (pLenS rfl rfl sl_51) (natsA_len _)) ?_
      refine sp pB ?_
      refine oNil ?_
      refine aCondDec rfl (fun c40 => ?_) (fun c40 => ?_)
      · skip
        refine aSkip ?_
        refine aSeq ?_
        refine aBlock ?_
        refine aSeq ?_
        obtain ⟨q, hq⟩ : ∃ q, w.waiting[i]? = some q := ⟨_, List.getElem?_eq_getElem (by omega)⟩
        refine aDrawT law03_Like_r9_t law03_Like_r9_b [] 9 #[false, false, false, false, false, false, false, false, false] (by kernel_rfl) rfl rfl (fun HT => ?_)
        refine dp HT 0 rfl pM ?_
        refine dp HT 1 rfl pM ?_
        refine dp HT 2 rfl (pIdxS rfl rfl rfl es_51 (by omega) (waitA_get hq)) ?_
        refine dr HT 3 rfl (by first | exact rS1 ty_3 | exact rB1 ty_3 | exact rAr ty_3 | exact rArL ty_3 | exact rArR2 ty_3) ?_
        refine dp HT 4 rfl pM ?_
        refine dp HT 5 rfl pM ?_
        refine dp HT 6 rfl (pIdxS rfl rfl rfl es_51 (by omega) (waitA_get hq)) ?_
        refine dr HT 7 rfl (by first | exact rS1 ty_3 | exact rB1 ty_3 | exact rAr ty_3 | exact rArL ty_3 | exact rArR2 ty_3) ?_
        refine dp HT 8 rfl (pBin rfl rfl rfl rfl (by simp : _ = Value.bool false)) ?_
        refine dE HT ?_
        clear HT
        refine aCondF rfl ?_
        refine aSkip ?_
        refine aReg ?_
        refine sp pM ?_
        refine sp pAd ?_
        refine sp pMa ?_
        refine oNil ?_
        exact ⟨i + 1, by show i + 1 ≤ _; omega, by show w.waiting.length - (i + 1) < w.waiting.length - i; omega, weak_sub ⟨rfl, rfl, rfl, rfl, gInt rfl (by simp), trivial⟩ tk_refl⟩
      · skip
        refine aExit rfl ?_
        refine aSeq ?_
        refine aSeq ?_
        refine aReg ?_
        refine sp pMa ?_
        refine oNil ?_
        refine aBlock ?_
        refine aLoopI (α := Nat) (fun i => i ≤ w.safe.length) (fun i => ([(0, .v (.pointer (some ⟨db, 0, none⟩))), (3, .v (.pointer (some ⟨b3, 0, none⟩))), (5, .sl 1 (natsA w.waiting)), (6, .sl 1 (natsA w.waiting)), (8, .int i)], .box b3 (dwC w) :: [.box db [.int n, .v (.map (some bs)), .v (.map (some bw)), .int w.armed, .v (.bool w.dead)], .map bs (kvA S), .map bw (kvA W)])) (fun i => w.safe.length - i) 0 ?_ ?_ ?_
        · skip
          omega
        · skip
          exact weak_sub ⟨rfl, rfl, rfl, rfl, rfl, trivial⟩ tk_refl
        · rintro i hi
          skip
          refine aSeq ?_
          refine aSeq ?_
          refine aReg ?_
          refine sp pM ?_
          refine sp (by first | exact pFb fd_31_0 | exact pFs fd_31_0) ?_
          refine sr (by first | exact rS1 ty_29 | exact rB1 ty_29 | exact rAr ty_29 | exact rArL ty_29 | exact rArR2 ty_29) ?_
          refine sp (by first | exact pLm sl_29 | exact pLs sl_29 | exact pLv sl_29) ?_
          refine sp pB ?_
          refine oNil ?_
          refine aCondDec rfl (fun c56 => ?_) (fun c56 => ?_)
          · skip
            refine aSkip ?_
            refine aSeq ?_
            refine aBlock ?_
            refine aSeq ?_
            refine aReg ?_
            refine sp pM ?_
            refine sp pM ?_
            refine sa ?_
            refine aCall rfl rfl (by decide) rfl rfl (.cons (by repeat constructor) (.cons (by repeat constructor) (.cons (by repeat constructor) .nil))) (disk_Read db bs bw n i S W w r) ?_
            rintro _ _ ⟨g, c, rfl, rfl⟩
            refine sp pM ?_
            refine sp pX ?_
            refine sp pX ?_
            refine sp pMa ?_
            refine sp pMa ?_
            refine oNil ?_
            refine aSeq ?_
            have hr1 : w.dead = true → w.read i = ([], 7) := fun h => read_dead h
            have hr2 : w.dead = false → w.read i = (w.get i, 0) := fun h => by rw [read_ok h (by omega) (by omega), Int.toNat_natCast]
            refine aReg ?_
            refine sp (by first | exact pFb fd_31_3 | exact pFs fd_31_3) ?_
            refine sr (by first | exact rS1 ty_4 | exact rB1 ty_4 | exact rAr ty_4 | exact rArL ty_4 | exact rArR2 ty_4) ?_
            refine sp pM ?_
            refine oSplit 67 rfl (fun c67 => ?_) (fun c67 => ?_)
            · skip
              refine gp pM ?_
              refine gp pB ?_
              refine gp pM ?_
              refine oSplitNe 70 rfl (fun c70 => ?_) (fun c70 => ?_)
              · skip
                refine gf ?_
                refine gf ?_
                refine gf ?_
                refine gp pK ?_
                refine sp pK ?_
                refine sp pM ?_
                refine gf ?_
                refine gf ?_
                refine gf ?_
                refine gf ?_
                refine gf ?_
                refine gf ?_
                refine gf ?_
                refine gf ?_
                refine gf ?_
                refine gf ?_
                refine gf ?_
                refine gf ?_
                refine gf ?_
                refine gf ?_
                refine gf ?_
                refine sp pK ?_
                refine oNil ?_
                refine aCondT rfl ?_
                refine aSeq ?_
                refine aReg ?_
                refine sp pMa ?_
                refine oNil ?_
                refine aRet ?_
                exfalso
                cases hd : w.dead
                · have := hr2 hd
                  simp_all
                · have := hr1 hd
                  simp_all
              · skip
                refine gp pM ?_
                refine gp (pLenV rfl rfl sl_35) ?_
                refine gp pB ?_
                refine gp pK ?_
                refine sp pK ?_
                refine sp pM ?_
                refine oSplitNe 76 rfl (fun c76 => ?_) (fun c76 => ?_)
                · skip
                  refine gf ?_
                  refine gf ?_
                  refine gf ?_
                  refine gf ?_
                  refine gf ?_
                  refine gf ?_
                  refine gf ?_
                  refine gf ?_
                  refine gf ?_
                  refine gf ?_
                  refine gf ?_
                  refine gf ?_
                  refine gf ?_
                  refine gf ?_
                  refine gf ?_
                  refine sp pK ?_
                  refine oNil ?_
                  refine aCondT rfl ?_
                  refine aSeq ?_
                  refine aReg ?_
                  refine sp pMa ?_
                  refine oNil ?_
                  refine aRet ?_
                  exfalso
                  cases hd : w.dead
                  · have := hr2 hd
                    simp_all
                  · have := hr1 hd
                    simp_all
                · skip
                  refine gp (by first | exact pFb fd_31_3 | exact pFs fd_31_3) ?_
                  refine gr (by first | exact rS1 ty_4 | exact rB1 ty_4 | exact rAr ty_4 | exact rArL ty_4 | exact rArR2 ty_4) ?_
                  refine gp pNo ?_
                  refine gp pM ?_
                  refine oSplitNot 80 rfl (fun c80 => ?_) (fun c80 => ?_)
                  · skip
                    refine gp pM ?_
                    refine gp pB ?_
                    refine gp pM ?_
                    refine oSplitNe 83 rfl (fun c83 => ?_) (fun c83 => ?_)
                    · skip
                      refine gf ?_
                      refine gf ?_
                      refine gf ?_
                      refine gf ?_
                      refine gf ?_
                      refine gf ?_
                      refine gp pK ?_
                      refine gp pK ?_
                      refine sp pK ?_
                      refine oNil ?_
                      refine aCondT rfl ?_
                      refine aSeq ?_
                      refine aReg ?_
                      refine sp pMa ?_
                      refine oNil ?_
                      refine aRet ?_
                      exfalso
                      cases hd : w.dead
                      · have := hr2 hd
                        simp_all
                      · have := hr1 hd
                        simp_all
                    · skip
                      refine gp pM ?_
                      refine gr (by first | exact rSW ty_31 rfl | exact rSA ty_31 | exact rBWa ty_31 | exact rBW ty_31 | exact rBA ty_31 | exact rArA ty_31 (fun _ => rfl)) ?_
                      refine gp pM ?_
                      refine ga ?_
                      refine (qCall0 rfl rfl (by decide) rfl rfl (ref03_Get w i f (by omega)) ?_).op
                      rintro _ _ ⟨rfl, rfl⟩
                      refine ga ?_
                      refine (qCallV rfl rfl (by decide) rfl rfl (.cons (.sl List.mem_cons_self (by simp)) (.cons (.same _) .nil)) (ref01_Same (w.read i).1 (w.get i) (by have := r.read_len i; omega) (by have := r.g512 (i := i) (by omega); omega)) ?_).op
                      refine gp pNo ?_
                      refine gp pK ?_
                      refine gp pK ?_
                      refine sp pK ?_
                      refine oNil ?_
                      refine aCondNot rfl (fun c92 => ?_) (fun c92 => ?_)
                      · skip
                        refine aSeq ?_
                        refine aReg ?_
                        refine sp pMa ?_
                        refine oNil ?_
                        refine aRet ?_
                        exfalso
                        cases hd : w.dead
                        · have := hr2 hd
                          simp_all
                        · have := hr1 hd
                          simp_all
                      · skip
                        refine aSkip ?_
                        refine aReg ?_
                        refine sp pM ?_
                        refine sp pAd ?_
                        refine sp pMa ?_
                        refine oNil ?_
                        exact ⟨i + 1, by show i + 1 ≤ _; omega, by show w.safe.length - (i + 1) < w.safe.length - i; omega, weak_sub ⟨rfl, rfl, rfl, rfl, gInt rfl (by simp), trivial⟩ (.cons (by repeat constructor) (.cons (by repeat constructor) (.cons (by repeat constructor) (.cons (by repeat constructor) .nil))))⟩
                  · skip
                    refine gf ?_
                    refine gf ?_
                    refine gf ?_
                    refine gf ?_
                    refine gf ?_
                    refine gf ?_
                    refine gf ?_
                    refine gf ?_
                    refine gf ?_
                    refine gf ?_
                    refine gp pK ?_
                    refine sp pK ?_
                    refine oNil ?_
                    refine aCondF rfl ?_
                    refine aSkip ?_
                    refine aReg ?_
                    refine sp pM ?_
                    refine sp pAd ?_
                    refine sp pMa ?_
                    refine oNil ?_
                    exact ⟨i + 1, by show i + 1 ≤ _; omega, by show w.safe.length - (i + 1) < w.safe.length - i; omega, weak_sub ⟨rfl, rfl, rfl, rfl, gInt rfl (by simp), trivial⟩ (.cons (by repeat constructor) (.cons (by repeat constructor) (.cons (by repeat constructor) (.cons (by repeat constructor) .nil))))⟩
            · skip
              refine gf ?_
              refine gf ?_
              refine gf ?_
              refine gf ?_
              refine gf ?_
              refine gf ?_
              refine gf ?_
              refine sp pK ?_
              refine sp pM ?_
              refine gp (by first | exact pFb fd_31_3 | exact pFs fd_31_3) ?_
              refine gr (by first | exact rS1 ty_4 | exact rB1 ty_4 | exact rAr ty_4 | exact rArL ty_4 | exact rArR2 ty_4) ?_
              refine gp pNo ?_
              refine gp pM ?_
              refine oSplitNot 80 rfl (fun c80 => ?_) (fun c80 => ?_)
              · skip
                refine gp pM ?_
                refine gp pB ?_
                refine gp pM ?_
                refine oSplitNe 83 rfl (fun c83 => ?_) (fun c83 => ?_)
                · skip
                  refine gf ?_
                  refine gf ?_
                  refine gf ?_
                  refine gf ?_
                  refine gf ?_
                  refine gf ?_
                  refine gp pK ?_
                  refine gp pK ?_
                  refine sp pK ?_
                  refine oNil ?_
                  refine aCondT rfl ?_
                  refine aSeq ?_
                  refine aReg ?_
                  refine sp pMa ?_
                  refine oNil ?_
                  refine aRet ?_
                  exfalso
                  cases hd : w.dead
                  · have := hr2 hd
                    simp_all
                  · have := hr1 hd
                    simp_all
                · skip
                  refine gp pM ?_
                  refine gr (by first | exact rSW ty_31 rfl | exact rSA ty_31 | exact rBWa ty_31 | exact rBW ty_31 | exact rBA ty_31 | exact rArA ty_31 (fun _ => rfl)) ?_
                  refine gp pM ?_
                  refine ga ?_
                  refine (qCall0 rfl rfl (by decide) rfl rfl (ref03_Get w i f (by omega)) ?_).op
                  rintro _ _ ⟨rfl, rfl⟩
                  refine ga ?_
                  refine (qCallV rfl rfl (by decide) rfl rfl (.cons (.sl List.mem_cons_self (by simp)) (.cons (.same _) .nil)) (ref01_Same (w.read i).1 (w.get i) (by have := r.read_len i; omega) (by have := r.g512 (i := i) (by omega); omega)) ?_).op
                  refine gp pNo ?_
                  refine gp pK ?_
                  refine gp pK ?_
                  refine sp pK ?_
                  refine oNil ?_
                  refine aCondNot rfl (fun c92 => ?_) (fun c92 => ?_)
                  · skip
                    refine aSeq ?_
                    refine aReg ?_
                    refine sp pMa ?_
                    refine oNil ?_
                    refine aRet ?_
                    exfalso
                    cases hd : w.dead
                    · have := hr2 hd
                      simp_all
                    · have := hr1 hd
                      simp_all
                  · skip
                    refine aSkip ?_
                    refine aReg ?_
                    refine sp pM ?_
                    refine sp pAd ?_
                    refine sp pMa ?_
                    refine oNil ?_
                    exact ⟨i + 1, by show i + 1 ≤ _; omega, by show w.safe.length - (i + 1) < w.safe.length - i; omega, weak_sub ⟨rfl, rfl, rfl, rfl, gInt rfl (by simp), trivial⟩ (.cons (by repeat constructor) (.cons (by repeat constructor) (.cons (by repeat constructor) (.cons (by repeat constructor) .nil))))⟩
              · skip
                refine gf ?_
                refine gf ?_
                refine gf ?_
                refine gf ?_
                refine gf ?_
                refine gf ?_
                refine gf ?_
                refine gf ?_
                refine gf ?_
                refine gf ?_
                refine gp pK ?_
                refine sp pK ?_
                refine oNil ?_
                refine aCondF rfl ?_
                refine aSkip ?_
                refine aReg ?_
                refine sp pM ?_
                refine sp pAd ?_
                refine sp pMa ?_
                refine oNil ?_
                exact ⟨i + 1, by show i + 1 ≤ _; omega, by show w.safe.length - (i + 1) < w.safe.length - i; omega, weak_sub ⟨rfl, rfl, rfl, rfl, gInt rfl (by simp), trivial⟩ (.cons (by repeat constructor) (.cons (by repeat constructor) (.cons (by repeat constructor) (.cons (by repeat constructor) .nil))))⟩
          · skip
            refine aExit rfl ?_
            refine aSeq ?_
            refine aReg ?_
            refine sp pMa ?_
            refine oNil ?_
            refine aRet ?_
            exact ⟨_, [_, _, _], [_], rfl, .cons (.tl .hd) (.cons (.tl .hd) (.cons (.tl .hd) .nil)), rfl, rfl⟩
end A
end Go.Proofs.Ytnabkchagjjjnaa
set_option linter.unusedVariables false
set_option linter.unusedSimpArgs false
namespace Go.Proofs.Ytnabkchagjjjnaa
namespace A
def wA : DW := ⟨[zeros, zeros], [[], fill [7]], -1, false⟩
theorem awk1 : (DW.new 2).write 1 (fill [7]) = (wA, 0) := by
  rw [write_yes rfl (by decide) (by decide) (fill_len _) (by decide)]
  rfl
theorem awk2 : wA.waiting = [1] := by
  have h : (fill [7]).length = 512 := fill_len _
  have h0 : wA.waits.getD 0 [] = [] := rfl
  have h1 : wA.waits.getD 1 [] = fill [7] := rfl
  show (List.range 2).filter _ = _
  rw [show List.range 2 = [0, 1] from rfl, List.filter_cons_of_neg (by rw [h0]; decide), List.filter_cons_of_pos (by rw [h1, h]; decide)]
  rfl
def wB : DW := ⟨[zeros, zeros], [[], []], -1, false⟩
theorem awk3 : wA.crash [] = wB := by
  unfold DW.crash
  rw [List.zip_nil_right]
  rfl
theorem awk4 : wB.read 1 = (zeros, 0) := by rw [read_ok rfl (by decide) (by decide)]; rfl
theorem zeros_get : (zeros.map by1)[0]? = some (by1 0) := by rw [zeros_map, List.getElem?_replicate, if_pos (by decide)]
/- waymarklaw03.awake -/
set_option maxRecDepth 100000 in
set_option maxHeartbeats 1000000 in
theorem law03_awake  : Triple Try.prog 7 [] [] (fun q h' => q = .v (.bool true) ∧ h' = []) := by
  refine triple_of Try.func7 rfl (by kernel_rfl) rfl (by simp) ?_
  refine aSeq ?_
  refine aReg ?_
  refine sp pMa ?_
  refine oNil ?_
  refine aSeq ?_
  refine aReg ?_
  refine sa ?_
  refine aCall rfl rfl (by decide) rfl rfl .nil (disk_New 2 (by decide) (by decide)) ?_
  rintro _ _ ⟨db, bs, bw, rfl, rfl⟩
  refine sp pM ?_
  refine sp pX ?_
  refine sp pX ?_
  refine sp pMa ?_
  refine sp pMa ?_
  refine oNil ?_
  refine aSeq ?_
  refine aSeq ?_
  refine aReg ?_
  refine sp pM ?_
  refine sp (pBin rfl rfl rfl rfl (rfl : _ = Value.bool false)) ?_
  refine sp pM ?_
  refine gp pM ?_
  refine gp (by first | exact pPtrNil rfl (.inl rfl) rfl pt_25 rfl (rfl : _ = false) | exact pSpNil rfl (.inl rfl) rfl pt_25 (rfl : _ = false)) ?_
  refine sp pK ?_
  refine oNil ?_
  refine aCondF rfl ?_
  refine aSkip ?_
  refine aSeq ?_
  refine aReg ?_
  refine sp pM ?_
  refine sq ?_
  refine qLit (l := [_]) rfl rfl (by decide) us_35 ty_5 ze_5 rfl (by decide) (by decide) rfl rfl rfl (fun b18 => ?_)
  refine oWeak (weak_settle (k := 18) rfl .hd rfl) ?_
  refine sa ?_
  refine aCall rfl rfl (by decide) rfl rfl .nil (law03_Fill [7] (by decide)) ?_
  rintro _ _ ⟨g19, c19, rfl, rfl⟩
  refine oWeak (weak_settle (k := 19) rfl .hd (by rw [List.length_map, fill_len])) ?_
  refine sa ?_
  refine aCall rfl rfl (by decide) rfl rfl (.cons (by repeat constructor) (.cons (by repeat constructor) (.cons (by repeat constructor) .nil))) (disk_Write db bs bw 2 1 (fill [7]) [] [] (DW.new 2) (rel_new (by decide) (by decide))) ?_
  intro q h' hq
  try dsimp only at hq
  rw [awk1] at hq
  obtain ⟨rfl, W1, r1, rfl⟩ := hq
  refine sp pMa ?_
  refine oNil ?_
  refine aSeq ?_
  refine aReg ?_
  refine sp pM ?_
  refine sa ?_
  refine aCall rfl rfl (by decide) rfl rfl (.cons (by repeat constructor) (.cons (by repeat constructor) (.cons (by repeat constructor) .nil))) (disk_Waits db bs bw 2 [] W1 wA r1) ?_
  intro q h' hq
  try dsimp only at hq
  rw [awk2] at hq
  obtain ⟨g22, c22, rfl, rfl⟩ := hq
  refine oWeak (weak_settle (k := 22) rfl .hd rfl) ?_
  refine sp pMa ?_
  refine oNil ?_
  refine aSeq ?_
  refine aReg ?_
  refine sp pM ?_
  refine sa ?_
  refine aCall rfl rfl (by decide) rfl rfl (.cons (by repeat constructor) (.cons (by repeat constructor) (.cons (by repeat constructor) .nil))) ((disk_Crash db bs bw 2 [] W1 wA r1 []).casts (.cons .refl (.cons cast_nil .nil))) ?_
  intro q h' hq
  try dsimp only at hq
  rw [awk3] at hq
  obtain ⟨rfl, S2, r2, rfl⟩ := hq
  refine oNil ?_
  refine aSeq ?_
  refine aReg ?_
  refine sp pM ?_
  refine sa ?_
  refine aCall rfl rfl (by decide) rfl rfl (.cons (by repeat constructor) (.cons (by repeat constructor) (.cons (by repeat constructor) .nil))) (disk_Read db bs bw 2 1 S2 [] wB r2) ?_
  intro q h' hq
  try dsimp only at hq
  rw [awk4] at hq
  obtain ⟨g27, c27, rfl, rfl⟩ := hq
  refine oWeak (weak_deep (k := 27) (b := .tup [.sl 1 (zeros.map by1), .int 0]) rfl (.cons .hd .nil) (.tup (.sl (List.mem_singleton.2 rfl) (List.length_map _).symm Deep.refl (.same (.row .nil))) (.row .nil))) ?_
  refine sp pM ?_
  refine sp pX ?_
  refine sp pX ?_
  refine sp pMa ?_
  refine sp pMa ?_
  refine oNil ?_
  refine aSeq ?_
  refine aReg ?_
  refine sp pM ?_
  refine sp (pBin rfl rfl rfl rfl (rfl : _ = Value.bool true)) ?_
  refine sp pM ?_
  refine gp pM ?_
  refine gp (pLenS' (n := 1) (pLenS rfl rfl sl_51) rfl) ?_
  refine gp (pBin rfl rfl rfl rfl (rfl : _ = Value.bool true)) ?_
  refine sp pK ?_
  refine sp pM ?_
  refine gp pM ?_
  refine gp (pIdxS rfl rfl rfl es_51 (by decide) rfl) ?_
  refine gr (by first | exact rS1 ty_3 | exact rB1 ty_3 | exact rAr ty_3 | exact rArL ty_3 | exact rArR2 ty_3) ?_
  refine gp (pBin rfl rfl rfl rfl (rfl : _ = Value.bool true)) ?_
  refine sp pK ?_
  refine sp pM ?_
  refine gp pM ?_
  refine gp (pBin rfl rfl rfl rfl (rfl : _ = Value.bool true)) ?_
  refine sp pK ?_
  refine sp pM ?_
  refine gp pM ?_
  refine gp (pLenS' (n := 512) (pLenS rfl rfl sl_35) (by rw [List.length_map]; exact zeros_len)) ?_
  refine gp (pBin rfl rfl rfl rfl (rfl : _ = Value.bool true)) ?_
  refine sp pK ?_
  refine sp pM ?_
  refine gp pM ?_
  refine gp (pIdxS rfl rfl rfl es_35 (by decide) zeros_get) ?_
  refine gr (by first | exact rS1 ty_5 | exact rB1 ty_5 | exact rAr ty_5 | exact rArL ty_5 | exact rArR2 ty_5) ?_
  refine gp (pBin rfl rfl rfl rfl (rfl : _ = Value.bool true)) ?_
  refine sp pK ?_
  refine sp pM ?_
  refine gp pM ?_
  refine ga ?_
  refine aCall rfl rfl (by decide) rfl rfl (.cons (by repeat constructor) .nil) (disk_Size _ _ _ _ _ _) ?_
  rintro _ _ ⟨rfl, rfl⟩
  refine gp (pBin rfl rfl rfl rfl (rfl : _ = Value.bool true)) ?_
  refine sp pK ?_
  refine sp pMa ?_
  refine oNil ?_
  refine aRet ?_
  exact ⟨_, [], _, rfl, .nil, rfl, rfl⟩
end A
end Go.Proofs.Ytnabkchagjjjnaa
