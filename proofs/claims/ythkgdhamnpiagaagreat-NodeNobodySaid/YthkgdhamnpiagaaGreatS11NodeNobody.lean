/- Texts that NodeNobody's proof rests on, part 12. -/
import Derived.KernelRfl
import Derived.Test.YthkgdhamnpiagaaGreatProg
import Derived.Test.YthkgdhamnpiagaaGreatS10NodeNobody
set_option linter.unusedVariables false
set_option linter.unusedSimpArgs false
namespace Go.Proofs.YthkgdhamnpiagaaGreat
namespace A
theorem el_138 : elemOf Tryz.prog 138 = some (3, 1, 8) := by kernel_rfl
theorem sl_138 : isSl Tryz.prog 138 = true := by kernel_rfl
theorem ty_3 : tyOf Tryz.prog 3 = some (1, false) := by kernel_rfl
theorem ty_96 : tyOf Tryz.prog 96 = some (1, false) := by kernel_rfl
theorem um_96 : Tryz.prog.underlying 96 = some (.map 3 50) := by kernel_rfl
theorem us_138 : Tryz.prog.underlying 138 = some (.slice 3) := by kernel_rfl
theorem ze_3 : zeroOf Tryz.prog 3 = some (.int .i64 0) := by kernel_rfl
end A
end Go.Proofs.YthkgdhamnpiagaaGreat
namespace Go.Proofs.YthkgdhamnpiagaaGreat
namespace A
abbrev BS := List Nat
def by1 (n : Nat) : List AV := [.v (.int .u8 n)]
def zeros : BS := List.replicate 512 0
def bsA (b : BS) : AV := .sl 1 (b.map by1)
structure DW where
 safe : List BS
 waits : List BS
 armed : Int
 dead : Bool
structure DTear where
 kind : Int
 b : BS
structure DAct where
 d : Int
 n : Int
 b : BS
 short : Bool
 tears : List DTear
def DW.new (n : Nat) : DW := ⟨List.replicate n zeros, List.replicate n [], -1, false⟩
def DW.get (w : DW) (i : Nat) : BS := if 0 < (w.waits.getD i []).length then w.waits.getD i [] else w.safe.getD i []
def DW.act (w : DW) : DW × Bool := ({ w with armed := if 0 < w.armed ∧ w.dead = false then w.armed - 1 else w.armed, dead := w.dead || w.armed == 0 }, !(w.dead || w.armed == 0))
def DW.write (w : DW) (i : Int) (b : BS) : DW × Int :=
 if w.dead then (w, 7) else if i < 0 ∨ (w.safe.length : Int) ≤ i ∨ b.length ≠ 512 then (w, 1) else if w.act.2 then ({ w.act.1 with waits := w.waits.set i.toNat b }, 0) else (w.act.1, 7)
def DW.flush (w : DW) : DW × Int :=
 if w.act.2 then (⟨(List.range w.safe.length).map w.get, List.replicate w.safe.length [], w.act.1.armed, false⟩, 0) else (w.act.1, 7)
def DW.read (w : DW) (i : Int) : BS × Int := if w.dead then ([], 7) else if i < 0 ∨ (w.safe.length : Int) ≤ i then ([], 1) else (w.get i.toNat, 0)
/-! ### Maps of bytes -/
def bGet : List (Int × BS) → Int → Option BS
 | [], _ => none
 | (k, v) :: t, n => if n = k then some v else bGet t n
def bPut : List (Int × BS) → Int → BS → List (Int × BS)
 | [], n, v => [(n, v)]
 | (k, u) :: t, n, v => if n = k then (n, v) :: t else (k, u) :: bPut t n v
def kvA (S : List (Int × BS)) : List (Int × AV) := S.map fun p => (p.1, bsA p.2)
theorem kvA_get (k : Int) : ∀ S : List (Int × BS), kvGet (kvA S) k = (bGet S k).map bsA
 | [] => rfl
 | (j, v) :: t => by
   show (if k = j then some (bsA v) else kvGet (kvA t) k) = Option.map bsA (if k = j then some v else bGet t k)
   rw [kvA_get k t]
   split <;> rfl
theorem kvA_put (k : Int) (v : BS) : ∀ S : List (Int × BS), kvPut (kvA S) k (bsA v) = kvA (bPut S k v)
 | [] => rfl
 | (j, u) :: t => by
   show (if k = j then (k, bsA v) :: kvA t else (j, bsA u) :: kvPut (kvA t) k (bsA v)) = kvA (if k = j then (k, v) :: t else (j, u) :: bPut t k v)
   rw [kvA_put k v t]
   split <;> rfl
theorem kvA_len (S : List (Int × BS)) : (kvA S).length = S.length := List.length_map _
theorem kvA_at {S : List (Int × BS)} {i : Nat} {kv : Int × AV} (h : (kvA S)[i]? = some kv) : ∃ b, S[i]? = some (kv.1, b) ∧ kv.2 = bsA b := by
 rw [kvA, List.getElem?_map, Option.map_eq_some_iff] at h
 obtain ⟨⟨k, b⟩, h1, rfl⟩ := h
 exact ⟨b, h1, rfl⟩
theorem bGet_put {k n : Int} {v : BS} : ∀ {S : List (Int × BS)}, bGet (bPut S k v) n = if n = k then some v else bGet S n
 | [] => by simp [bPut, bGet]
 | (j, u) :: t => by
   by_cases hk : k = j
   ·simp only [bPut, hk, if_true, bGet]
    split <;> rfl
   ·simp only [bPut, hk, if_false, bGet]
    rw [bGet_put]
    by_cases hn : n = j
    ·rw [if_pos hn, if_pos hn, if_neg (fun e => hk (e.symm.trans hn))]
    ·rw [if_neg hn, if_neg hn]
theorem bGet_mem {n : Int} : ∀ {S : List (Int × BS)}, (bGet S n).isSome = true ↔ n ∈ S.map Prod.fst
 | [] => by simp [bGet]
 | (j, u) :: t => by
   by_cases h : n = j
   ·simp [bGet, h]
   ·simp only [bGet, h, if_false, List.map_cons, List.mem_cons, false_or]
    exact bGet_mem
theorem bPut_keys {k : Int} {v : BS} {n : Int} : ∀ {S : List (Int × BS)}, n ∈ (bPut S k v).map Prod.fst ↔ n = k ∨ n ∈ S.map Prod.fst := fun {S} => by
 rw [← bGet_mem, ← bGet_mem, bGet_put]
 split
 ·simp [*]
 ·simp [*]
theorem bPut_nodup {k : Int} {v : BS} : ∀ {S : List (Int × BS)}, (S.map Prod.fst).Nodup → ((bPut S k v).map Prod.fst).Nodup
 | [], _ => by simp [bPut]
 | (j, u) :: t, h => by
   simp only [List.map_cons, List.nodup_cons] at h
   by_cases hk : k = j
   ·simp only [bPut, hk, if_true, List.map_cons, List.nodup_cons]; exact h
   ·simp only [bPut, hk, if_false, List.map_cons, List.nodup_cons]
    refine ⟨fun hm => ?_, bPut_nodup h.2⟩
    rcases bPut_keys.1 hm with h1 | h1
    ·exact hk h1.symm
    ·exact h.1 h1
theorem bGet_at {S : List (Int × BS)} (hn : (S.map Prod.fst).Nodup) : ∀ {i : Nat} {k : Int} {b : BS}, S[i]? = some (k, b) → bGet S k = some b := by
 induction S with
 | nil => intro i k b h; simp at h
 | cons p t ih =>
   obtain ⟨j, u⟩ := p
   intro i k b h
   simp only [List.map_cons, List.nodup_cons] at hn
   cases i with
   | zero => simp at h; simp [bGet, h.1, h.2]
   | succ i =>
     simp only [List.getElem?_cons_succ] at h
     have hm : k ∈ t.map Prod.fst := List.mem_map.2 ⟨(k, b), List.mem_of_getElem? h, rfl⟩
     have hk : ¬ k = j := fun e => hn.1 (e ▸ hm)
     simp only [bGet, hk, if_false]
     exact ih hn.2 h
/-! ### A disk's maps, and the document's disk -/
structure Rel (n : Nat) (S W : List (Int × BS)) (w : DW) : Prop where
 n1 : 1 ≤ n
 n2 : n ≤ 1024
 sn : w.safe.length = n
 wn : w.waits.length = n
 sk : (S.map Prod.fst).Nodup
 wk : (W.map Prod.fst).Nodup
 sr : ∀ k b, bGet S k = some b → 0 ≤ k ∧ k < n ∧ b.length = 512
 wr : ∀ k b, bGet W k = some b → 0 ≤ k ∧ k < n ∧ b.length = 512
 sg : ∀ i : Nat, i < n → w.safe[i]? = some ((bGet S i).getD zeros)
 wg : ∀ i : Nat, i < n → w.waits[i]? = some ((bGet W i).getD [])
 ar : w.armed ≤ 9223372036854775807
theorem zeros_len : zeros.length = 512 := List.length_replicate
theorem Rel.s512 {n : Nat} {S W : List (Int × BS)} {w : DW} (r : Rel n S W w) (k : Int) : ((bGet S k).getD zeros).length = 512 := by
 cases h : bGet S k with
 | none => exact zeros_len
 | some b => exact (r.sr k b h).2.2
theorem Rel.getD_s {n : Nat} {S W : List (Int × BS)} {w : DW} (r : Rel n S W w) {i : Nat} (hi : i < n) : w.safe.getD i [] = (bGet S i).getD zeros := by simp [List.getD, r.sg i hi]
theorem Rel.getD_w {n : Nat} {S W : List (Int × BS)} {w : DW} (r : Rel n S W w) {i : Nat} (hi : i < n) : w.waits.getD i [] = (bGet W i).getD [] := by simp [List.getD, r.wg i hi]
theorem Rel.get {n : Nat} {S W : List (Int × BS)} {w : DW} (r : Rel n S W w) {i : Nat} (hi : i < n) : w.get i = ((bGet W i).or (bGet S i)).getD zeros := by
 unfold DW.get
 rw [r.getD_w hi, r.getD_s hi]
 cases h : bGet W i with
 | none => simp
 | some b =>
   have := (r.wr i b h).2.2
   simp [this]
theorem rel_new {n : Nat} (h1 : 1 ≤ n) (h2 : n ≤ 1024) : Rel n [] [] (DW.new n) where
 n1 := h1
 n2 := h2
 sn := by simp [DW.new]
 wn := by simp [DW.new]
 sk := by simp
 wk := by simp
 sr := fun k b h => by simp [bGet] at h
 wr := fun k b h => by simp [bGet] at h
 sg := fun i hi => by simp [DW.new, bGet, hi]
 wg := fun i hi => by simp [DW.new, bGet, hi]
 ar := by simp [DW.new]
theorem Rel.put {n : Nat} {S W : List (Int × BS)} {w : DW} (r : Rel n S W w) {i : Int} {b : BS} (h0 : 0 ≤ i) (hi : i < n) (hb : b.length = 512) : Rel n S (bPut W i b) { w with waits := w.waits.set i.toNat b } :=
 { r with
   wn := by show (w.waits.set _ _).length = n; rw [List.length_set]; exact r.wn
   wk := bPut_nodup r.wk
   wr := fun k c h => by
     rw [bGet_put] at h
     split at h
     ·rename_i hk; subst hk; cases h; exact ⟨h0, hi, hb⟩
     ·exact r.wr k c h
   wg := fun k hk => by
     show (w.waits.set i.toNat b)[k]? = _
     rw [bGet_put]
     by_cases hki : (k : Int) = i
     ·rw [if_pos hki, show i.toNat = k by omega, List.getElem?_set_self (by rw [r.wn]; exact hk)]
      rfl
     ·rw [if_neg hki, List.getElem?_set_ne (by omega)]
      exact r.wg k hk }
theorem Rel.flushed {n : Nat} {S W S' : List (Int × BS)} {w : DW} (r : Rel n S W w) (hk : (S'.map Prod.fst).Nodup) (hg : ∀ k, bGet S' k = (bGet W k).or (bGet S k)) (a : Int) (ha : a ≤ 9223372036854775807) : Rel n S' [] ⟨(List.range w.safe.length).map w.get, List.replicate w.safe.length [], a, false⟩ :=
 { r with
   sn := by simp [r.sn]
   wn := by simp [r.sn]
   sk := hk
   wk := by simp
   sr := fun k b h => by
     rw [hg] at h
     cases hw : bGet W k with
     | some c => rw [hw] at h; cases h; exact r.wr k b hw
     | none => rw [hw] at h; exact r.sr k b h
   wr := fun k b h => by simp [bGet] at h
   sg := fun i hi => by
     simp only [List.getElem?_map, r.sn, List.getElem?_range hi, Option.map_some]
     rw [r.get hi, hg]
   wg := fun i hi => by simp [r.sn, hi, bGet]
   ar := ha }
end A
end Go.Proofs.YthkgdhamnpiagaaGreat
namespace Go.Proofs.YthkgdhamnpiagaaGreat
namespace A
theorem el_50 : elemOf Tryz.prog 50 = some (5, 1, 1) := by kernel_rfl
theorem fd_98_0 : fieldOf Tryz.prog 98 0 = some (0, 1, false) := by kernel_rfl
theorem fd_98_1 : fieldOf Tryz.prog 98 1 = some (1, 1, false) := by kernel_rfl
theorem fd_98_3 : fieldOf Tryz.prog 98 3 = some (3, 1, false) := by kernel_rfl
theorem fd_98_4 : fieldOf Tryz.prog 98 4 = some (4, 1, false) := by kernel_rfl
theorem mo_96 : mapOf Tryz.prog 96 = some (3, 50) := by kernel_rfl
theorem pt_25 : isPtrT Tryz.prog 25 = true := by kernel_rfl
theorem sl_50 : isSl Tryz.prog 50 = true := by kernel_rfl
theorem ty_4 : tyOf Tryz.prog 4 = some (1, false) := by kernel_rfl
theorem ty_5 : tyOf Tryz.prog 5 = some (1, false) := by kernel_rfl
theorem us_50 : Tryz.prog.underlying 50 = some (.slice 5) := by kernel_rfl
theorem ze_5 : zeroOf Tryz.prog 5 = some (.int .u8 0) := by kernel_rfl
theorem ze_50 : zeroOf Tryz.prog 50 = some (.slice none 0 0) := by kernel_rfl
/- disk.Disk).off -/
set_option maxRecDepth 100000 in
set_option maxHeartbeats 400000 in
theorem disk_off (db : Nat) (n a : Int) (x y : AV) (d : Bool) : Triple Tryz.prog 45 [.v (.pointer (some ⟨db, 0, none⟩))] [.box db [.int n, x, y, .int a, .v (.bool d)]] (fun r h' => r = .v (.bool (n == 0 || d)) ∧ h' = [.box db [.int n, x, y, .int a, .v (.bool d)]]) := by
 refine triple_of Tryz.func45 rfl (by kernel_rfl) rfl (by simp) ?_
 refine aSeq ?_
 refine aReg ?_
 refine sp pMa ?_
 refine oNil ?_
 refine aSeq ?_
 refine aReg ?_
 refine sp pM ?_
 refine sp (by first | exact pPtrNil rfl (.inl rfl) rfl pt_25 rfl (rfl : _ = false) | exact pSpNil rfl (.inl rfl) rfl pt_25 (rfl : _ = false)) ?_
 refine sp pM ?_
 refine gp pM ?_
 refine gp pNv ?_
 refine gp (pFb fd_98_0) ?_
 refine gr (rB1 ty_3) ?_
 refine gp pB ?_
 refine sp pK ?_
 refine sp pM ?_
 refine oSplitEq 12 rfl (fun c12 => ?_) (fun c12 => ?_)
 ·skip
  refine gf ?_
  refine gf ?_
  refine gf ?_
  refine gf ?_
  refine sp pK ?_
  refine sp pMa ?_
  refine oNil ?_
  refine aRet ?_
  refine ⟨_, [_], [], rfl, .cons .hd .nil, ?_, rfl⟩
  simp_all [retOf]
 ·skip
  refine gp pM ?_
  refine gp pNv ?_
  refine gp (pFb fd_98_4) ?_
  refine gr (rB1 ty_4) ?_
  refine sp pK ?_
  refine sp pMa ?_
  refine oNil ?_
  refine aRet ?_
  refine ⟨_, [_], [], rfl, .cons .hd .nil, ?_, rfl⟩
  simp_all [retOf]
/- disk.Disk).Size -/
set_option maxRecDepth 100000 in
set_option maxHeartbeats 400000 in
theorem disk_Size (db : Nat) (n a : Int) (x y : AV) (d : Bool) : Triple Tryz.prog 153 [.v (.pointer (some ⟨db, 0, none⟩))] [.box db [.int n, x, y, .int a, .v (.bool d)]] (fun r h' => r = .int n ∧ h' = [.box db [.int n, x, y, .int a, .v (.bool d)]]) := by
 refine triple_of Tryz.func153 rfl (by kernel_rfl) rfl (by simp) ?_
 refine aSeq ?_
 refine aReg ?_
 refine sp pMa ?_
 refine oNil ?_
 refine aSeq ?_
 refine aSeq ?_
 refine aReg ?_
 refine sp pM ?_
 refine sp (by first | exact pPtrNil rfl (.inl rfl) rfl pt_25 rfl (rfl : _ = false) | exact pSpNil rfl (.inl rfl) rfl pt_25 (rfl : _ = false)) ?_
 refine oNil ?_
 refine aCondF rfl ?_
 refine aSkip ?_
 refine aSeq ?_
 refine aReg ?_
 refine sp pM ?_
 refine sp pNv ?_
 refine sp (pFb fd_98_0) ?_
 refine sr (rB1 ty_3) ?_
 refine sp pMa ?_
 refine oNil ?_
 refine aRet ?_
 exact ⟨_, [_], [], rfl, .cons .hd .nil, rfl, rfl⟩
/- disk.Disk).act -/
set_option maxRecDepth 100000 in
set_option maxHeartbeats 400000 in
theorem disk_act (db : Nat) (n a : Int) (x y : AV) (d : Bool) (ha : a ≤ 9223372036854775807) : Triple Tryz.prog 325 [.v (.pointer (some ⟨db, 0, none⟩))] [.box db [.int n, x, y, .int a, .v (.bool d)]] (fun r h' => r = .int (if a = 0 then 7 else 0) ∧ h' = [.box db [.int n, x, y, .int (if 0 < a then a - 1 else a), .v (.bool (if a = 0 then true else d))]]) := by
 refine triple_of Tryz.func325 rfl (by kernel_rfl) rfl (by simp) ?_
 refine aSeq ?_
 refine aReg ?_
 refine sp pMa ?_
 refine oNil ?_
 refine aSeq ?_
 refine aBlock ?_
 refine aSeq ?_
 refine aReg ?_
 refine sp pM ?_
 refine sp pNv ?_
 refine sp (pFb fd_98_3) ?_
 refine sr (rB1 ty_3) ?_
 refine sp pB ?_
 refine sp pMa ?_
 refine oNil ?_
 refine aCondEq rfl (fun c3 => ?_) (fun c3 => ?_)
 ·skip
  refine aSeq ?_
  refine aReg ?_
  refine sp pM ?_
  refine sp pNv ?_
  refine sp (pFb fd_98_4) ?_
  refine sa ?_
  refine oStB rfl rfl rfl rfl (by repeat constructor) ty_4 rfl (Nat.le_of_ble_eq_true rfl) rfl ?_
  refine oNil ?_
  refine aSeq ?_
  refine aReg ?_
  refine sp pMa ?_
  refine oNil ?_
  refine aRet ?_
  refine ⟨_, [_], [], rfl, .cons .hd .nil, ?_, ?_⟩
  ·simp_all [retOf] <;> omega
  ·simp_all [setCells, putAll, avCells] <;> omega
 ·skip
  refine aSeq ?_
  refine aReg ?_
  refine sp pM ?_
  refine sp pNv ?_
  refine sp (pFb fd_98_3) ?_
  refine sr (rB1 ty_3) ?_
  refine sp pB ?_
  refine sp pMa ?_
  refine oNil ?_
  refine aCondDec rfl (fun c12 => ?_) (fun c12 => ?_)
  ·skip
   refine aReg ?_
   refine sp pM ?_
   refine sp pNv ?_
   refine sp (pFb fd_98_3) ?_
   refine sr (rB1 ty_3) ?_
   refine sp pSu ?_
   refine sp pNv ?_
   refine sp (pFb fd_98_3) ?_
   refine sa ?_
   refine oStB rfl rfl rfl rfl (by repeat constructor) ty_3 rfl (Nat.le_of_ble_eq_true rfl) rfl ?_
   refine oNil ?_
   refine aSeq ?_
   refine aReg ?_
   refine sp pMa ?_
   refine oNil ?_
   refine aRet ?_
   refine ⟨_, [_], [], rfl, .cons .hd .nil, ?_, ?_⟩
   ·simp_all [retOf] <;> omega
   ·simp_all [setCells, putAll, avCells] <;> omega
  ·skip
   refine aSkip ?_
   refine aSeq ?_
   refine aReg ?_
   refine sp pMa ?_
   refine oNil ?_
   refine aRet ?_
   refine ⟨_, [_], [], rfl, .cons .hd .nil, ?_, ?_⟩
   ·simp_all [retOf] <;> omega
   ·simp_all [setCells, putAll, avCells] <;> omega
/- slices.Clone[[]byte,byte] -/
set_option maxRecDepth 100000 in
set_option maxHeartbeats 400000 in
theorem clone_bytes (es : List (List AV)) (hne : es ≠ []) (hz : ∀ z ∈ es, z.length = 1) (hl : es.length ≤ 1000000) : Triple Tryz.prog 109 [.sl 1 es] [] (fun r h' => ∃ g c, r = .v (slV g es.length c) ∧ h' = [.sl g c 5 1 es]) := by
 refine triple_of Tryz.func109 rfl (by kernel_rfl) rfl (by simp) ?_
 refine aSeq ?_
 refine aReg ?_
 refine sp pMa ?_
 refine oNil ?_
 refine aSeq ?_
 refine aSeq ?_
 refine aReg ?_
 refine sp pM ?_
 refine sp (pSlNe rfl (.inl rfl) rfl sl_50 hne (rfl : _ = false)) ?_
 refine oNil ?_
 refine aCondF rfl ?_
 refine aSkip ?_
 refine aSeq ?_
 refine aReg ?_
 refine sq ?_
 refine qLit (l := []) rfl rfl (by decide) us_50 ty_5 ze_5 rfl (by decide) (by decide) rfl rfl rfl (fun b5 => ?_)
 refine sp pM ?_
 refine sa ?_
 refine oApp rfl rfl (by decide) rfl (by repeat constructor) rfl (.inl rfl) el_50 sl_50 hz (by first | (simp; done) | (simp; omega)) (by first | (simp; done) | (simp; omega)) (fun g7 k7 => ?_)
 refine sp pMa ?_
 refine oNil ?_
 refine aRet ?_
 refine ⟨_, [_], [], rfl, .cons .hd .nil, g7, k7, ?_, rfl⟩
 simp [retOf]
theorem by1_len {b : BS} : ∀ z ∈ b.map by1, z.length = 1 := by
 intro z hz
 obtain ⟨n, _, rfl⟩ := List.mem_map.1 hz
 rfl
theorem by1_ne {b : BS} (h : b.length = 512) : b.map by1 ≠ [] := fun e => by have := congrArg List.length e; simp [h] at this
theorem cast_look (S : List (Int × BS)) (k : Int) : Cast (.tup [(kvGet (kvA S) k).getD (.v (.slice none 0 0)), .bool (kvGet (kvA S) k).isSome]) (.tup [bsA ((bGet S k).getD []), .v (.bool (bGet S k).isSome)]) := by
 rw [kvA_get]
 intro F w x hx
 cases h : bGet S k with
 | some b => rw [h] at hx; exact hx
 | none =>
   rw [h] at hx
   cases hx with
   | tup _ xs hl hR =>
     refine .tup _ xs hl (fun j av y hj hy => ?_)
     match j with
     | 0 =>
       simp at hj
       subst hj
       exact cast_nil F w y (hR 0 _ y rfl hy)
     | 1 =>
       simp at hj
       subst hj
       exact hR 1 _ y rfl hy
     | j + 2 => simp at hj
theorem rep_zeros : ∀ (F : Nat → Prop) (w : World) (j : Nat) (av : AV) (x : Value), (by1 0)[j]? = some av → (Value.int .u8 0).cells[j]? = some x → Rep F w av x := by
 intro F w j av x hj hx
 match j with
 | 0 => simp [by1] at hj; simp [Value.cells] at hx; subst hj; subst hx; exact .v _
 | j + 1 => simp [by1] at hj
theorem zeros_map : zeros.map by1 = List.replicate 512 (by1 0) := List.map_replicate
/- disk.Disk).firm -/
set_option maxRecDepth 100000 in
set_option maxHeartbeats 400000 in
theorem disk_firm (db bs : Nat) (i n a : Int) (y : AV) (d : Bool) (S : List (Int × BS)) (hS : ∀ b, bGet S i = some b → b.length = 512) : Triple Tryz.prog 64 [.v (.pointer (some ⟨db, 0, none⟩)), .int i] [.box db [.int n, .v (.map (some bs)), y, .int a, .v (.bool d)], .map bs (kvA S)] (fun r h' => ∃ g c, r = .v (slV g 512 c) ∧ h' = .sl g c 5 1 (((bGet S i).getD zeros).map by1) :: [.box db [.int n, .v (.map (some bs)), y, .int a, .v (.bool d)], .map bs (kvA S)]) := by
 refine triple_of Tryz.func64 rfl (by kernel_rfl) rfl (by simp) ?_
 refine aSeq ?_
 refine aReg ?_
 refine sp pMa ?_
 refine oNil ?_
 refine aSeq ?_
 refine aSeq ?_
 refine aReg ?_
 refine sp pM ?_
 refine sp pNv ?_
 refine sp (pFb fd_98_1) ?_
 refine sr (rB1 ty_96) ?_
 refine sp pM ?_
 refine sr (rCast (rLookOk rfl rfl rfl (by repeat constructor) mo_96 ze_50 rfl) (cast_look S i)) ?_
 refine sp pM ?_
 refine sp pX ?_
 refine sp pX ?_
 refine sp pMa ?_
 refine sp pMa ?_
 refine oNil ?_
 refine aSeq ?_
 refine aReg ?_
 refine sp pM ?_
 refine oNil ?_
 refine aCond rfl (fun c16 => ?_) (fun c16 => ?_)
 ·skip
  refine aSeq ?_
  obtain ⟨b, hb⟩ := Option.isSome_iff_exists.1 c16
  have hbl := hS b hb
  have hbg : (bGet S i).getD [] = b := by rw [hb]; rfl
  have hbz : (bGet S i).getD zeros = b := by rw [hb]; rfl
  rw [hbg, hbz]
  refine aReg ?_
  refine sp pM ?_
  refine sa ?_
  refine aCall rfl rfl (by decide) rfl rfl .nil (clone_bytes (b.map by1) (by1_ne hbl) by1_len (by rw [List.length_map]; omega)) ?_
  rintro _ _ ⟨g, c, rfl, rfl⟩
  refine sp pMa ?_
  refine oNil ?_
  refine aRet ?_
  refine ⟨_, _ :: [_, _], [], rfl, tk_refl, g, c, ?_, rfl⟩
  show AV.v (slV g _ c) = _
  rw [List.length_map, hbl]
 ·skip
  refine aSkip ?_
  refine aSeq ?_
  have hbz : (bGet S i).getD zeros = zeros := by
    cases h : bGet S i with
    | none => rfl
    | some b => rw [h] at c16; cases c16
  rw [hbz]
  refine aReg ?_
  refine sq ?_
  refine qMake (n := 512) (zs := by1 0) rfl rfl (by decide) rfl rfl rfl rfl el_50 ze_5 rfl rfl rep_zeros (by decide) (by decide) (fun b19 => ?_)
  refine sp pMa ?_
  refine oNil ?_
  refine aRet ?_
  refine ⟨_, _ :: [_, _], [], rfl, tk_refl, some b19, 512, rfl, ?_⟩
  rw [zeros_map]
end A
end Go.Proofs.YthkgdhamnpiagaaGreat
namespace Go.Proofs.YthkgdhamnpiagaaGreat
namespace A
theorem fd_98_2 : fieldOf Tryz.prog 98 2 = some (2, 1, false) := by kernel_rfl
theorem read_dead {w : DW} {i : Int} (h : w.dead = true) : w.read i = ([], 7) := by simp [DW.read, h]
theorem read_arg {w : DW} {i : Int} (h : w.dead = false) (hi : i < 0 ∨ (w.safe.length : Int) ≤ i) : w.read i = ([], 1) := by simp [DW.read, h, hi]
theorem read_ok {w : DW} {i : Int} (h : w.dead = false) (h0 : 0 ≤ i) (hi : i < (w.safe.length : Int)) : w.read i = (w.get i.toNat, 0) := by
 rw [DW.read, if_neg (by simp [h]), if_neg (by omega)]
theorem Rel.geti {n : Nat} {S W : List (Int × BS)} {w : DW} (r : Rel n S W w) {i : Int} (h0 : 0 ≤ i) (hi : i < (n : Int)) : w.get i.toNat = ((bGet W i).or (bGet S i)).getD zeros := by
 rw [r.get (by omega), show ((i.toNat : Nat) : Int) = i by omega]
theorem Rel.off {n : Nat} {S W : List (Int × BS)} {w : DW} (r : Rel n S W w) {d : Bool} (h : ((n : Int) == 0 || w.dead) = d) : w.dead = d := by
 have := r.n1
 have h0 : ((n : Int) == 0) = false := by simp; omega
 rwa [h0, Bool.false_or] at h
/- disk.Disk).Read -/
set_option maxRecDepth 100000 in
set_option maxHeartbeats 1000000 in
theorem disk_Read (db bs bw n : Nat) (i : Int) (S W : List (Int × BS)) (w : DW) (r : Rel n S W w) : Triple Tryz.prog 49 [.v (.pointer (some ⟨db, 0, none⟩)), .int i] [.box db [.int n, .v (.map (some bs)), .v (.map (some bw)), .int w.armed, .v (.bool w.dead)], .map bs (kvA S), .map bw (kvA W)] (fun q h' => ∃ g c, q = .tup [.v (slV g (w.read i).1.length c), .int (w.read i).2] ∧ h' = .sl g c 5 1 ((w.read i).1.map by1) :: [.box db [.int n, .v (.map (some bs)), .v (.map (some bw)), .int w.armed, .v (.bool w.dead)], .map bs (kvA S), .map bw (kvA W)]) := by
 refine triple_of Tryz.func49 rfl (by kernel_rfl) rfl (by simp) ?_
 refine aSeq ?_
 refine aReg ?_
 refine sp pMa ?_
 refine sp pMa ?_
 refine oNil ?_
 refine aSeq ?_
 refine aBlock ?_
 refine aSeq ?_
 refine aReg ?_
 refine sp pM ?_
 refine sa ?_
 refine aCall rfl rfl (by decide) rfl rfl (.cons (by repeat constructor) .nil) (disk_off _ _ _ _ _ _) ?_
 rintro _ _ ⟨rfl, rfl⟩
 refine sp pMa ?_
 refine oNil ?_
 refine aCond rfl (fun c8 => ?_) (fun c8 => ?_)
 ·skip
  refine aSeq ?_
  refine aWeak (weak_nil 5 1) ?_
  refine aReg ?_
  refine sp pMa ?_
  refine sp pMa ?_
  refine oNil ?_
  refine aRet ?_
  rw [read_dead (r.off c8)]
  exact ⟨_, _, [], rfl, tk_refl, none, 0, rfl, rfl⟩
 ·skip
  refine aSeq ?_
  refine aReg ?_
  refine sp pM ?_
  refine sp pB ?_
  refine sp pM ?_
  refine oSplitDec 14 rfl (fun c14 => ?_) (fun c14 => ?_)
  ·skip
   refine gf ?_
   refine gf ?_
   refine gf ?_
   refine gf ?_
   refine gf ?_
   refine gf ?_
   refine sp pK ?_
   refine sp pMa ?_
   refine oNil ?_
   refine aCondT rfl ?_
   refine aSeq ?_
   refine aWeak (weak_nil 5 1) ?_
   refine aReg ?_
   refine sp pMa ?_
   refine sp pMa ?_
   refine oNil ?_
   refine aRet ?_
   rw [read_arg (r.off (by simpa using c8)) (by rw [r.sn]; first | exact .inl (by assumption) | exact .inr (by omega))]
   exact ⟨_, _, [], rfl, tk_refl, none, 0, rfl, rfl⟩
  ·skip
   refine gp pM ?_
   refine gp pM ?_
   refine gp pNv ?_
   refine gp (pFb fd_98_0) ?_
   refine gr (rB1 ty_3) ?_
   refine gp pB ?_
   refine sp pK ?_
   refine sp pMa ?_
   refine oNil ?_
   refine aCondDec rfl (fun c11 => ?_) (fun c11 => ?_)
   ·skip
    refine aSeq ?_
    refine aWeak (weak_nil 5 1) ?_
    refine aReg ?_
    refine sp pMa ?_
    refine sp pMa ?_
    refine oNil ?_
    refine aRet ?_
    rw [read_arg (r.off (by simpa using c8)) (by rw [r.sn]; first | exact .inl (by assumption) | exact .inr (by omega))]
    exact ⟨_, _, [], rfl, tk_refl, none, 0, rfl, rfl⟩
   ·skip
    refine aSkip ?_
    refine aSeq ?_
    refine aSeq ?_
    refine aReg ?_
    refine sp pM ?_
    refine sp pNv ?_
    refine sp (pFb fd_98_2) ?_
    refine sr (rB1 ty_96) ?_
    refine sp pM ?_
    refine sr (rCast (rLookOk rfl rfl rfl (by repeat constructor) mo_96 ze_50 rfl) (cast_look W i)) ?_
    refine sp pM ?_
    refine sp pX ?_
    refine sp pX ?_
    refine sp pMa ?_
    refine sp pMa ?_
    refine oNil ?_
    refine aSeq ?_
    refine aReg ?_
    refine sp pM ?_
    refine oNil ?_
    refine aCond rfl (fun c31 => ?_) (fun c31 => ?_)
    ·skip
     refine aSeq ?_
     obtain ⟨b, hb⟩ := Option.isSome_iff_exists.1 c31
     have hbl := (r.wr i b hb).2.2
     have hbg : (bGet W i).getD [] = b := by rw [hb]; rfl
     rw [hbg]
     refine aReg ?_
     refine sp pM ?_
     refine sa ?_
     refine aCall rfl rfl (by decide) rfl rfl .nil (clone_bytes (b.map by1) (by1_ne hbl) by1_len (by rw [List.length_map]; omega)) ?_
     rintro _ _ ⟨g, c, rfl, rfl⟩
     refine sp pMa ?_
     refine sp pMa ?_
     refine oNil ?_
     refine aRet ?_
     have hrd : w.read i = (b, 0) := by
       rw [read_ok (r.off (by simpa using c8)) (by omega) (by rw [r.sn]; omega), r.geti (by omega) (by omega), hb]
       rfl
     rw [hrd]
     refine ⟨_, _ :: [_, _, _], [], rfl, tk_refl, g, c, ?_, rfl⟩
     simp [retOf]
    ·skip
     refine aSkip ?_
     refine aSeq ?_
     refine aReg ?_
     refine sp pM ?_
     refine sp pM ?_
     refine sa ?_
     refine aCall rfl rfl (by decide) rfl rfl (.cons (by repeat constructor) (.cons (by repeat constructor) .nil)) (disk_firm _ _ i _ _ _ _ S (fun b hb => (r.sr i b hb).2.2)) ?_
     rintro _ _ ⟨g, c, rfl, rfl⟩
     refine sp pMa ?_
     refine sp pMa ?_
     refine oNil ?_
     refine aRet ?_
     have hrd : w.read i = ((bGet S i).getD zeros, 0) := by
       rw [read_ok (r.off (by simpa using c8)) (by omega) (by rw [r.sn]; omega), r.geti (by omega) (by omega)]
       cases h : bGet W i with
       | none => rfl
       | some b => rw [h] at c31; simp at c31
     rw [hrd]
     refine ⟨_, _ :: [_, _, _], [], rfl, tk_refl, g, c, ?_, rfl⟩
     simp [retOf, r.s512]
end A
end Go.Proofs.YthkgdhamnpiagaaGreat
namespace Go.Proofs.YthkgdhamnpiagaaGreat
namespace A
theorem write_dead {w : DW} {i : Int} {b : BS} (h : w.dead = true) : w.write i b = (w, 7) := by simp [DW.write, h]
theorem write_arg {w : DW} {i : Int} {b : BS} (h : w.dead = false) (hi : i < 0 ∨ (w.safe.length : Int) ≤ i ∨ b.length ≠ 512) : w.write i b = (w, 1) := by
 rw [DW.write, if_neg (by simp [h]), if_pos hi]
theorem write_no {w : DW} {i : Int} {b : BS} (h : w.dead = false) (h0 : 0 ≤ i) (hi : i < (w.safe.length : Int)) (hb : b.length = 512) (ha : w.armed = 0) : w.write i b = (⟨w.safe, w.waits, w.armed, true⟩, 7) := by
 rw [DW.write, if_neg (by simp [h]), if_neg (by omega), if_neg (by simp [DW.act, ha])]
 simp [DW.act, ha]
theorem write_yes {w : DW} {i : Int} {b : BS} (h : w.dead = false) (h0 : 0 ≤ i) (hi : i < (w.safe.length : Int)) (hb : b.length = 512) (ha : w.armed ≠ 0) : w.write i b = (⟨w.safe, w.waits.set i.toNat b, if 0 < w.armed then w.armed - 1 else w.armed, false⟩, 0) := by
 rw [DW.write, if_neg (by simp [h]), if_neg (by omega), if_pos (by simp [DW.act, ha, h])]
 simp [DW.act, ha, h]
theorem Rel.putA {n : Nat} {S W : List (Int × BS)} {w : DW} (r : Rel n S W w) {i : Int} {b : BS} (h0 : 0 ≤ i) (hi : i < n) (hb : b.length = 512) : Rel n S (bPut W i b) ⟨w.safe, w.waits.set i.toNat b, if 0 < w.armed then w.armed - 1 else w.armed, false⟩ := by
 have := r.ar
 exact { r.put h0 hi hb with ar := by show (if 0 < w.armed then w.armed - 1 else w.armed) ≤ 9223372036854775807; split <;> omega }
theorem flush_no {w : DW} (h : w.dead = true ∨ w.armed = 0) : w.flush = (⟨w.safe, w.waits, w.act.1.armed, true⟩, 7) := by
 have hb : (w.dead || w.armed == 0) = true := by rcases h with h | h <;> simp [h]
 rw [DW.flush, if_neg (by simp only [DW.act, hb]; decide)]
 simp only [DW.act, hb]
theorem flush_yes {w : DW} (h : w.dead = false) (ha : w.armed ≠ 0) : w.flush = (⟨(List.range w.safe.length).map w.get, List.replicate w.safe.length [], if 0 < w.armed then w.armed - 1 else w.armed, false⟩, 0) := by
 have hb : (w.dead || w.armed == 0) = false := by simp [h, ha]
 rw [DW.flush, if_pos (by simp only [DW.act, hb]; decide)]
 simp [DW.act, h]
theorem act_arm0 {w : DW} (h : w.dead = true ∨ w.armed = 0) : w.act.1.armed = w.armed := by
 show (if 0 < w.armed ∧ w.dead = false then w.armed - 1 else w.armed) = w.armed
 rw [if_neg]
 rcases h with h | h
 ·simp [h]
 ·omega
/- disk.Disk).Write -/
def disk_Write_r8_T : Bool × List (List Nat × List Nat) := (true, [([], []), ([0], [0]), ([1], [1]), ([2], [2]), ([], []), ([], []), ([5], [5]), ([3, 4, 6, 6, 0, 1, 2, 3, 4, 5, 6], [3, 4, 6])])
def disk_Write_r8_B : List Nat := [0, 1, 3, 7, 0, 0, 32, 127]
theorem disk_Write_r8_t : Go.Proofs.YthkgdhamnpiagaaGreatW.PrintLast.rtab .any (Go.Proofs.YthkgdhamnpiagaaGreatW.PrintLast.opsOf Tryz.f269 8) = disk_Write_r8_T := by kernel_rfl
theorem disk_Write_r8_b : Go.Proofs.YthkgdhamnpiagaaGreatW.PrintLast.waitsOk disk_Write_r8_T.2 disk_Write_r8_B = true := by kernel_rfl
set_option maxRecDepth 100000 in
set_option maxHeartbeats 1000000 in
theorem disk_Write (db bs bw n : Nat) (i : Int) (b : BS) (S W : List (Int × BS)) (w : DW) (r : Rel n S W w) : Triple Tryz.prog 269 [.v (.pointer (some ⟨db, 0, none⟩)), .int i, .sl 1 (b.map by1)] [.box db [.int n, .v (.map (some bs)), .v (.map (some bw)), .int w.armed, .v (.bool w.dead)], .map bs (kvA S), .map bw (kvA W)] (fun q h' => q = .int (w.write i b).2 ∧ ∃ W', Rel n S W' (w.write i b).1 ∧ h' = [.box db [.int n, .v (.map (some bs)), .v (.map (some bw)), .int (w.write i b).1.armed, .v (.bool (w.write i b).1.dead)], .map bs (kvA S), .map bw (kvA W')]) := by
 refine triple_of Tryz.func269 rfl (by kernel_rfl) rfl (by simp) ?_
 refine aSeq ?_
 refine aReg ?_
 refine sp pMa ?_
 refine oNil ?_
 refine aSeq ?_
 refine aBlock ?_
 refine aSeq ?_
 refine aReg ?_
 refine sp pM ?_
 refine sa ?_
 refine aCall rfl rfl (by decide) rfl rfl (.cons (by repeat constructor) .nil) (disk_off _ _ _ _ _ _) ?_
 rintro _ _ ⟨rfl, rfl⟩
 refine sp pMa ?_
 refine oNil ?_
 refine aCond rfl (fun c8 => ?_) (fun c8 => ?_)
 ·skip
  refine aSeq ?_
  refine aReg ?_
  refine sp pMa ?_
  refine oNil ?_
  refine aRet ?_
  rw [write_dead (r.off c8)]
  exact ⟨_, [_, _, _], [], rfl, tk_refl, rfl, W, r, rfl⟩
 ·skip
  refine aSeq ?_
  refine aReg ?_
  refine sp pM ?_
  refine sp pB ?_
  refine sp pM ?_
  refine oSplitDec 14 rfl (fun c14 => ?_) (fun c14 => ?_)
  ·skip
   refine gf ?_
   refine gf ?_
   refine gf ?_
   refine gf ?_
   refine gf ?_
   refine gf ?_
   refine sp pK ?_
   refine sp pM ?_
   refine gf ?_
   refine gf ?_
   refine gf ?_
   refine sp pK ?_
   refine sp pMa ?_
   refine oNil ?_
   refine aCondT rfl ?_
   refine aSeq ?_
   refine aReg ?_
   refine sp pMa ?_
   refine oNil ?_
   refine aRet ?_
   rw [write_arg (r.off (d := false) (by simpa using c8)) (by rw [r.sn]; first | exact .inl (by assumption) | exact .inr (.inl (by omega)) | exact .inr (.inr (by omega)))]
   exact ⟨_, [_, _, _], [], rfl, tk_refl, rfl, W, r, rfl⟩
  ·skip
   refine gp pM ?_
   refine gp pM ?_
   refine gp pNv ?_
   refine gp (pFb fd_98_0) ?_
   refine gr (rB1 ty_3) ?_
   refine gp pB ?_
   refine sp pK ?_
   refine sp pM ?_
   refine oSplitDec 22 rfl (fun c22 => ?_) (fun c22 => ?_)
   ·skip
    refine gf ?_
    refine gf ?_
    refine gf ?_
    refine sp pK ?_
    refine sp pMa ?_
    refine oNil ?_
    refine aCondT rfl ?_
    refine aSeq ?_
    refine aReg ?_
    refine sp pMa ?_
    refine oNil ?_
    refine aRet ?_
    rw [write_arg (r.off (d := false) (by simpa using c8)) (by rw [r.sn]; first | exact .inl (by assumption) | exact .inr (.inl (by omega)) | exact .inr (.inr (by omega)))]
    exact ⟨_, [_, _, _], [], rfl, tk_refl, rfl, W, r, rfl⟩
   ·skip
    refine gp pM ?_
    refine gp (by first | exact pLm sl_50 | exact pLs sl_50) ?_
    refine gp pB ?_
    refine sp pK ?_
    refine sp pMa ?_
    refine oNil ?_
    refine aCondNe rfl (fun c11 => ?_) (fun c11 => ?_)
    ·skip
     refine aSeq ?_
     refine aReg ?_
     refine sp pMa ?_
     refine oNil ?_
     refine aRet ?_
     rw [write_arg (r.off (d := false) (by simpa using c8)) (by rw [r.sn]; first | exact .inl (by assumption) | exact .inr (.inl (by omega)) | exact .inr (.inr (by omega)))]
     exact ⟨_, [_, _, _], [], rfl, tk_refl, rfl, W, r, rfl⟩
    ·skip
     refine aSkip ?_
     refine aSeq ?_
     refine aSeq ?_
     have hbl : b.length = 512 := by omega
     have hd := r.off (d := false) (by simpa using c8)
     refine aReg ?_
     refine sp pM ?_
     refine sa ?_
     refine aCall rfl rfl (by decide) rfl rfl (.cons (by repeat constructor) .nil) (disk_act _ _ _ _ _ _ r.ar) ?_
     rintro _ _ ⟨rfl, rfl⟩
     refine sp pMa ?_
     refine oNil ?_
     refine aSeq ?_
     refine aReg ?_
     refine sp pM ?_
     refine sp pB ?_
     refine oNil ?_
     refine aCondNe rfl (fun c30 => ?_) (fun c30 => ?_)
     ·skip
      refine aSeq ?_
      refine aReg ?_
      refine sp pM ?_
      refine sp pMa ?_
      refine oNil ?_
      refine aRet ?_
      have ha : w.armed = 0 := by rcases Int.lt_trichotomy w.armed 0 with h | h | h <;> simp_all <;> omega
      rw [write_no hd (by omega) (by rw [r.sn]; omega) hbl ha]
      refine ⟨_, [_, _, _], [], rfl, tk_refl, ?_, W, { r with }, ?_⟩
      ·simp [retOf, ha]
      ·simp [ha]
     ·skip
      refine aSkip ?_
      refine aSeq ?_
      refine aDrawT disk_Write_r8_t disk_Write_r8_b [7] 8 #[false, false, false, false, false, false, false, false] (by kernel_rfl) rfl rfl (fun HT => ?_)
      refine dp HT 0 rfl pM ?_
      refine dp HT 1 rfl pNv ?_
      refine dp HT 2 rfl (pFb fd_98_2) ?_
      refine dr HT 3 rfl (rB1 ty_96) ?_
      refine dp HT 4 rfl pM ?_
      refine dp HT 5 rfl pM ?_
      refine dGo ?_
      refine e1 HT 6 rfl ?_
      refine qCall0 rfl rfl (by decide) rfl rfl (clone_bytes (b.map by1) (by1_ne hbl) by1_len (by rw [List.length_map]; omega)) ?_
      rintro _ _ ⟨g, c, rfl, rfl⟩
      first | refine fWeak (weak_settle (k := 38) rfl .hd (by simp)) ?_ | skip
      refine eLast ?_
      first | refine fWeak (weak_settle (k := 38) rfl .hd (by simp)) ?_ | skip
      refine f1 HT 7 rfl ?_
      refine oMapSet rfl rfl rfl rfl rfl (by repeat constructor) mo_96 ?_
      refine fE HT ?_
      clear HT
      refine aSeq ?_
      refine aReg ?_
      refine sp pMa ?_
      refine oNil ?_
      refine aRet ?_
      have ha : w.armed ≠ 0 := fun h => by simp [h] at c30
      rw [write_yes hd (by omega) (by rw [r.sn]; omega) hbl ha]
      refine ⟨_, [_, _, _], [], rfl, .cons (.tl .hd) (.cons (.tl .hd) (.cons .hd .nil)), rfl, bPut W i b, r.putA (by omega) (by omega) hbl, ?_⟩
      dsimp only
      rw [← kvA_put, hd, if_neg ha]
      rfl
def keyW (W : List (Int × BS)) (i : Nat) : Int := (W.getD i (0, [])).1
theorem keyW_get {W : List (Int × BS)} {i : Nat} {k : Int} {b : BS} (h : W[i]? = some (k, b)) : keyW W i = k := by simp [keyW, List.getD, h]
theorem copy_step {S W T : List (Int × BS)} {idx : List Nat} {i : Nat} {k : Int} {b : BS} (wk : (W.map Prod.fst).Nodup) (h : W[i]? = some (k, b)) (hT : ∀ q, bGet T q = if q ∈ idx.map (keyW W) then bGet W q else bGet S q) (q : Int) :
   bGet (bPut T k b) q = if q ∈ (idx ++ [i]).map (keyW W) then bGet W q else bGet S q := by
 rw [bGet_put, hT, List.map_append, List.map_singleton, keyW_get h]
 by_cases hq : q = k
 ·subst hq
  rw [if_pos rfl, if_pos (by simp), bGet_at wk h]
 ·rw [if_neg hq]
  have : (q ∈ idx.map (keyW W) ++ [k]) ↔ q ∈ idx.map (keyW W) := by simp [hq]
  simp only [this]
theorem copy_end {S W T : List (Int × BS)} {idx : List Nat} (hix : Idx W.length idx) (hall : ∀ i, i < W.length → i ∈ idx) (hT : ∀ q, bGet T q = if q ∈ idx.map (keyW W) then bGet W q else bGet S q) (q : Int) : bGet T q = (bGet W q).or (bGet S q) := by
 rw [hT]
 cases h : bGet W q with
 | some b =>
   have hm := bGet_mem.1 (by rw [h]; rfl : (bGet W q).isSome = true)
   obtain ⟨i, hi⟩ := List.mem_iff_getElem?.1 hm
   rw [List.getElem?_map, Option.map_eq_some_iff] at hi
   obtain ⟨⟨k, c⟩, h1, h2⟩ := hi
   have hkq : k = q := h2
   subst hkq
   rw [if_pos]
   ·rfl
   ·exact List.mem_map.2 ⟨i, hall i (List.getElem?_eq_some_iff.1 h1).1, keyW_get h1⟩
 | none =>
   split
   ·rename_i hm
    obtain ⟨i, hi, hk⟩ := List.mem_map.1 hm
    have hil := hix.2 i hi
    have : q ∈ W.map Prod.fst := List.mem_map.2 ⟨W[i], List.getElem_mem hil, by rw [← hk]; simp [keyW, List.getD, hil]⟩
    rw [← bGet_mem, h] at this
    cases this
   ·simp
/- maps.Copy[map[int][]byte,map[int][]byte,int,[]byte] -/
set_option maxRecDepth 100000 in
set_option maxHeartbeats 400000 in
theorem maps_Copy (bs bw : Nat) (S W : List (Int × BS)) (sk : (S.map Prod.fst).Nodup) (wk : (W.map Prod.fst).Nodup) : Triple Tryz.prog 326 [.v (.map (some bs)), .v (.map (some bw))] [.map bs (kvA S), .map bw (kvA W)] (fun q h' => q = .tup [] ∧ ∃ T, h' = [.map bs (kvA T), .map bw (kvA W)] ∧ (T.map Prod.fst).Nodup ∧ ∀ k, bGet T k = (bGet W k).or (bGet S k)) := by
 refine triple_of Tryz.func326 rfl (by kernel_rfl) rfl (by simp) ?_
 refine aSeq ?_
 refine aReg ?_
 refine sp pM ?_
 refine sa ?_
 refine oRange rfl rfl (by decide) rfl (by repeat constructor) um_96 (fun r7 => ?_)
 refine oNil ?_
 refine aBlock ?_
 refine aLoopI (α := List Nat × List (Int × BS)) (fun (idx, T) => Idx W.length idx ∧ (T.map Prod.fst).Nodup ∧ ∀ q, bGet T q = if q ∈ idx.map (keyW W) then bGet W q else bGet S q) (fun (idx, T) => ([(0, .v (.map (some bs))), (7, .v (.pointer (some ⟨r7, 0, none⟩)))], [.mapIt bw r7 (kvA W) idx, .map bs (kvA T)])) (fun (idx, T) => W.length - idx.length) ([], S) ?_ ?_ ?_
 ·skip
  exact ⟨Idx.nil, sk, fun q => by simp⟩
 ·skip
  exact weak_sub ⟨rfl, rfl, trivial⟩ (.cons .hd (.cons .hd .nil))
 ·rintro ⟨idx, T⟩ ⟨hix, hTn, hT⟩
  skip
  refine aSeq ?_
  refine aReg ?_
  refine sa ?_
  refine oNextR rfl rfl (by decide) rfl (by repeat constructor) (fun t8 ks8 ix8 hn8 => ?_)
  refine sp pX ?_
  refine oNil ?_
  refine aSeq ?_
  refine aCond rfl (fun c9 => ?_) (fun c9 => ?_)
  ·skip
   refine aSkip ?_
   refine aBlock ?_
   refine aSeq ?_
   refine aReg ?_
   obtain ⟨i, ⟨k, v⟩, hkv, hni, rfl, rfl⟩ := hn8.yes c9
   obtain ⟨b, hkb, hvb⟩ := kvA_at hkv
   replace hvb : v = bsA b := hvb
   subst hvb
   refine sr (rEntry rfl rfl (by repeat constructor) hkv) ?_
   refine sp pX ?_
   refine sp pX ?_
   refine sp pMa ?_
   refine sp pMa ?_
   refine oNil ?_
   refine aReg ?_
   refine sp pM ?_
   refine sp pM ?_
   refine sp pM ?_
   refine sa ?_
   refine oMapSet rfl rfl rfl rfl rfl (by repeat constructor) mo_96 ?_
   refine oNil ?_
   have hil := (List.getElem?_eq_some_iff.1 hkb).1
   have hlt := hix.lt hil hni
   refine ⟨(idx ++ [i], bPut T k b), ⟨hix.add hil hni, bPut_nodup hTn, copy_step wk hkb hT⟩, by show W.length - (idx ++ [i]).length < W.length - idx.length; simp only [List.length_append, List.length_cons, List.length_nil]; omega, ?_⟩
   dsimp only
   rw [← kvA_put]
   exact weak_sub ⟨rfl, rfl, trivial⟩ (.cons (.tl .hd) (.cons .hd .nil))
  ·skip
   obtain ⟨rfl, rfl, hall⟩ := hn8.no c9
   refine aWeak (weak_unmap .hd) ?_
   refine aExit rfl ?_
   exact ⟨_, [_, _], [], rfl, .cons (.tl .hd) (.cons .hd .nil), rfl, T, rfl, hTn, copy_end hix (fun i hi => hall i (by rw [kvA_len]; exact hi)) hT⟩
/- disk.Disk).Flush -/
def disk_Flush_r6_T : Bool × List (List Nat × List Nat) := (true, [([], []), ([0], [0]), ([1], [1]), ([2], [2]), ([], []), ([4], [4]), ([5], [5]), ([6], [6]), ([3, 7], [3, 7])])
def disk_Flush_r6_B : List Nat := [0, 1, 3, 7, 0, 16, 48, 112, 255]
theorem disk_Flush_r6_t : Go.Proofs.YthkgdhamnpiagaaGreatW.PrintLast.rtab .any (Go.Proofs.YthkgdhamnpiagaaGreatW.PrintLast.opsOf Tryz.f270 6) = disk_Flush_r6_T := by kernel_rfl
theorem disk_Flush_r6_b : Go.Proofs.YthkgdhamnpiagaaGreatW.PrintLast.waitsOk disk_Flush_r6_T.2 disk_Flush_r6_B = true := by kernel_rfl
set_option maxRecDepth 100000 in
set_option maxHeartbeats 1000000 in
theorem disk_Flush (db bs bw n : Nat) (S W : List (Int × BS)) (w : DW) (r : Rel n S W w) : Triple Tryz.prog 270 [.v (.pointer (some ⟨db, 0, none⟩))] [.box db [.int n, .v (.map (some bs)), .v (.map (some bw)), .int w.armed, .v (.bool w.dead)], .map bs (kvA S), .map bw (kvA W)] (fun q h' => q = .int w.flush.2 ∧ ∃ S' W', Rel n S' W' w.flush.1 ∧ h' = [.box db [.int n, .v (.map (some bs)), .v (.map (some bw)), .int w.flush.1.armed, .v (.bool w.flush.1.dead)], .map bs (kvA S'), .map bw (kvA W')]) := by
 refine triple_of Tryz.func270 rfl (by kernel_rfl) rfl (by simp) ?_
 refine aSeq ?_
 refine aReg ?_
 refine sp pMa ?_
 refine oNil ?_
 refine aSeq ?_
 refine aSeq ?_
 refine aReg ?_
 refine sp pM ?_
 refine sa ?_
 refine aCall rfl rfl (by decide) rfl rfl (.cons (by repeat constructor) .nil) (disk_off _ _ _ _ _ _) ?_
 rintro _ _ ⟨rfl, rfl⟩
 refine oNil ?_
 refine aCond rfl (fun c5 => ?_) (fun c5 => ?_)
 ·skip
  refine aSeq ?_
  refine aReg ?_
  refine sp pMa ?_
  refine oNil ?_
  refine aRet ?_
  have hd := r.off c5
  rw [flush_no (.inl hd), act_arm0 (.inl hd)]
  exact ⟨_, [_, _, _], [], rfl, tk_refl, rfl, S, W, { r with }, by rw [hd]⟩
 ·skip
  refine aSkip ?_
  refine aSeq ?_
  refine aSeq ?_
  have hd := r.off (d := false) (by simpa using c5)
  refine aReg ?_
  refine sp pM ?_
  refine sa ?_
  refine aCall rfl rfl (by decide) rfl rfl (.cons (by repeat constructor) .nil) (disk_act _ _ _ _ _ _ r.ar) ?_
  rintro _ _ ⟨rfl, rfl⟩
  refine sp pMa ?_
  refine oNil ?_
  refine aSeq ?_
  refine aReg ?_
  refine sp pM ?_
  refine sp pB ?_
  refine oNil ?_
  refine aCondNe rfl (fun c9 => ?_) (fun c9 => ?_)
  ·skip
   refine aSeq ?_
   refine aReg ?_
   refine sp pM ?_
   refine sp pMa ?_
   refine oNil ?_
   refine aRet ?_
   have ha : w.armed = 0 := by rcases Int.lt_trichotomy w.armed 0 with h | h | h <;> simp_all <;> omega
   rw [flush_no (.inr ha), act_arm0 (.inr ha)]
   refine ⟨_, [_, _, _], [], rfl, tk_refl, ?_, S, W, { r with }, ?_⟩
   ·simp [retOf, ha]
   ·simp [ha]
  ·skip
   refine aSkip ?_
   refine aSeq ?_
   refine aDrawT disk_Flush_r6_t disk_Flush_r6_b [8] 9 #[false, false, false, false, false, false, false, false, false] (by kernel_rfl) rfl rfl (fun HT => ?_)
   refine dp HT 0 rfl pM ?_
   refine dp HT 1 rfl pNv ?_
   refine dp HT 2 rfl (pFb fd_98_1) ?_
   refine dr HT 3 rfl (rB1 ty_96) ?_
   refine dp HT 4 rfl pM ?_
   refine dp HT 5 rfl pNv ?_
   refine dp HT 6 rfl (pFb fd_98_2) ?_
   refine dr HT 7 rfl (rB1 ty_96) ?_
   refine dGo ?_
   refine eLast ?_
   refine f1 HT 8 rfl ?_
   refine aCall rfl rfl (by decide) rfl rfl (.cons (by repeat constructor) (.cons (by repeat constructor) .nil)) (maps_Copy bs bw S W r.sk r.wk) ?_
   rintro _ _ ⟨rfl, T, rfl, hTn, hT⟩
   refine fE HT ?_
   clear HT
   refine aSeq ?_
   refine aReg ?_
   refine sp pM ?_
   refine sp pNv ?_
   refine sp (pFb fd_98_2) ?_
   refine sr (rB1 ty_96) ?_
   refine sa ?_
   refine oClearM rfl rfl rfl (by repeat constructor) mo_96 ?_
   refine oNil ?_
   refine aSeq ?_
   refine aReg ?_
   refine sp pMa ?_
   refine oNil ?_
   refine aRet ?_
   have ha : w.armed ≠ 0 := fun h => by simp [h] at c9
   have har := r.ar
   rw [flush_yes hd ha]
   refine ⟨_, [_, _, _], [], rfl, .cons (.tl (.tl .hd)) (.cons (.tl .hd) (.cons .hd .nil)), rfl, T, [], r.flushed hTn hT _ (by split <;> omega), ?_⟩
   dsimp only
   rw [hd, if_neg ha]
   rfl
end A
end Go.Proofs.YthkgdhamnpiagaaGreat
namespace Go.Proofs.YthkgdhamnpiagaaGreat
namespace A
theorem es_138 : elemSize Tryz.prog 138 = some 1 := by kernel_rfl
theorem ty_50 : tyOf Tryz.prog 50 = some (1, false) := by kernel_rfl
end A
end Go.Proofs.YthkgdhamnpiagaaGreat
namespace Go.Proofs.YthkgdhamnpiagaaGreat
namespace A
/-! ### Numbers as bytes -/
def BOk (b : BS) : Prop := ∀ x ∈ b, x < 256
def be : Nat → Nat → BS
 | 0, _ => []
 | w + 1, n => be w (n / 256) ++ [n % 256]
theorem be_len : ∀ (w n : Nat), (be w n).length = w
 | 0, _ => rfl
 | w + 1, n => by rw [be, List.length_append, be_len w]; rfl
theorem be_ok : ∀ (w n : Nat), BOk (be w n)
 | 0, _ => fun x hx => by simp [be] at hx
 | w + 1, n => fun x hx => by
   rw [be] at hx
   rcases List.mem_append.1 hx with hx | hx
   ·exact be_ok w _ x hx
   ·rw [List.mem_singleton.1 hx]; exact Nat.mod_lt _ (by decide)
theorem be_get : ∀ {w n k : Nat}, k < w → (be w n)[k]? = some (n / 256 ^ (w - 1 - k) % 256)
 | 0, _, _, h => by omega
 | w + 1, n, k, h => by
   rw [be]
   by_cases e : k < w
   ·rw [List.getElem?_append_left (by rw [be_len]; exact e), be_get e, Nat.div_div_eq_div_mul]
    congr 3
    rw [show w + 1 - 1 - k = (w - 1 - k) + 1 by omega, Nat.pow_succ, Nat.mul_comm]
   ·obtain rfl : k = w := by omega
    rw [List.getElem?_append_right (by rw [be_len]; exact Nat.le_refl _), be_len, Nat.sub_self, show k + 1 - 1 - k = 0 by omega]
    simp
def ofBe (b : BS) : Nat := b.foldl (fun n c => n * 256 + c) 0
theorem ofBe_snoc (b : BS) (c : Nat) : ofBe (b ++ [c]) = ofBe b * 256 + c := by
 unfold ofBe
 rw [List.foldl_append]
 rfl
theorem ofBe_lt : ∀ (w : Nat) {b : BS}, BOk b → b.length = w → ofBe b < 256 ^ w
 | 0, b, _, h => by
   have : b = [] := List.eq_nil_of_length_eq_zero h
   subst this
   decide
 | w + 1, b, hb, h => by
   have hne : b ≠ [] := fun e => by subst e; simp at h
   have hs := List.dropLast_concat_getLast hne
   have h1 := ofBe_lt w (b := b.dropLast) (fun x hx => hb x (List.dropLast_subset b hx)) (by simp [h])
   have h2 := hb _ (List.getLast_mem hne)
   rw [← hs, ofBe_snoc, Nat.pow_succ]
   omega
/-! ### A reader -/
structure RS where
 b : BS
 w : Bool
def RS.num (k : Nat) (s : RS) : Nat × RS := if s.w then (0, s) else if s.b.length < k then (0, ⟨s.b, true⟩) else (ofBe (s.b.take k), ⟨s.b.drop k, false⟩)
def RS.text (s : RS) : BS × RS :=
 if s.w then ([], s) else
 let n := s.num 2
 if n.2.w then ([], ⟨s.b, true⟩) else if n.2.b.length < n.1 then ([], ⟨s.b, true⟩) else (n.2.b.take n.1, ⟨n.2.b.drop n.1, false⟩)
theorem RS.num_len (k : Nat) (s : RS) : (s.num k).2.b.length ≤ s.b.length := by
 unfold RS.num
 split
 ·exact Nat.le_refl _
 ·split
  ·exact Nat.le_refl _
  ·simp only [List.length_drop]; omega
theorem RS.num_ok (k : Nat) {s : RS} (h : BOk s.b) : BOk (s.num k).2.b := by
 unfold RS.num
 split
 ·exact h
 ·split
  ·exact h
  ·exact fun x hx => h x (List.mem_of_mem_drop hx)
theorem RS.num_lt (k : Nat) {s : RS} (h : BOk s.b) : (s.num k).1 < 256 ^ k := by
 unfold RS.num
 split
 ·exact Nat.pow_pos (by decide)
 ·split
  ·exact Nat.pow_pos (by decide)
  ·exact ofBe_lt k (fun x hx => h x (List.mem_of_mem_take hx)) (by rw [List.length_take]; omega)
/-! ### The check -/
def crcBit (r : Nat) : Nat := (r / 2) ^^^ (3988292384 * (r % 2))
def crc8 : Nat → Nat → Nat
 | 0, r => r
 | k + 1, r => crc8 k (crcBit r)
def crcByte (r c : Nat) : Nat := crc8 8 (r ^^^ c)
def crcMore (r : Nat) (b : BS) : Nat := b.foldl crcByte r
def crcOf (b : BS) : Nat := 4294967295 - crcMore 4294967295 b
theorem crcBit_lt {r : Nat} (h : r < 4294967296) : crcBit r < 4294967296 := by
 unfold crcBit
 exact Nat.xor_lt_two_pow (n := 32) (by omega) (by omega)
theorem crc8_lt : ∀ (k : Nat) {r : Nat}, r < 4294967296 → crc8 k r < 4294967296
 | 0, _, h => h
 | k + 1, _, h => crc8_lt k (crcBit_lt h)
theorem crcByte_lt {r c : Nat} (h : r < 4294967296) (hc : c < 256) : crcByte r c < 4294967296 := crc8_lt 8 (Nat.xor_lt_two_pow (n := 32) h (by omega))
theorem crcMore_lt : ∀ (b : BS) {r : Nat}, BOk b → r < 4294967296 → crcMore r b < 4294967296
 | [], _, _, h => h
 | c :: b, r, hb, h => crcMore_lt b (r := crcByte r c) (fun x hx => hb x (by simp [hx])) (crcByte_lt h (hb c (by simp)))
theorem crcOf_lt (b : BS) : crcOf b < 4294967296 := by unfold crcOf; omega
def sealB (b : BS) : BS := b ++ be 4 (crcOf b)
def openB (b : BS) : Option BS := if b.length < 4 then none else if be 4 (crcOf (b.take (b.length - 4))) = b.drop (b.length - 4) then some (b.take (b.length - 4)) else none
theorem seal_len (b : BS) : (sealB b).length = b.length + 4 := by rw [sealB, List.length_append, be_len]
theorem seal_ok {b : BS} (h : BOk b) : BOk (sealB b) := fun x hx => (List.mem_append.1 hx).elim (h x) (be_ok 4 _ x)
end A
end Go.Proofs.YthkgdhamnpiagaaGreat
namespace Go.Proofs.YthkgdhamnpiagaaGreat
namespace A
/-! ### Pages -/
structure Pg where
 kind : Int
 gen : Int
 mark : Int
 index : Int
 part : Int
 parts : Int
 b : BS
 deriving DecidableEq, Inhabited
def pgC (p : Pg) : List AV := [.int p.kind, .int p.gen, .int p.mark, .int p.index, .int p.part, .int p.parts, bsA p.b]
def mmark : Int := 2147483648
def inr (n lo hi : Int) : Bool := decide (lo ≤ n) && decide (n ≤ hi)
def mayPg (p : Pg) : Bool := inr p.kind 1 9 && (inr p.gen 0 2147483648 && (inr p.mark 0 2147483648 && (inr p.index 0 2147483648 && (inr p.parts 1 16 && (inr p.part 0 (p.parts - 1) && decide (p.b.length ≤ 488))))))
structure PgOk (p : Pg) : Prop where
 kind : 1 ≤ p.kind ∧ p.kind ≤ 9
 gen : 0 ≤ p.gen ∧ p.gen ≤ 2147483648
 mark : 0 ≤ p.mark ∧ p.mark ≤ 2147483648
 index : 0 ≤ p.index ∧ p.index ≤ 2147483648
 parts : 1 ≤ p.parts ∧ p.parts ≤ 16
 part : 0 ≤ p.part ∧ p.part ≤ p.parts - 1
 len : p.b.length ≤ 488
theorem mayPg_iff {p : Pg} : mayPg p = true ↔ PgOk p := by
 unfold mayPg inr
 simp only [Bool.and_eq_true, decide_eq_true_eq]
 constructor
 ·rintro ⟨h1, h2, h3, h4, h5, h6, h7⟩; exact ⟨h1, h2, h3, h4, h5, h6, h7⟩
 ·rintro ⟨h1, h2, h3, h4, h5, h6, h7⟩; exact ⟨h1, h2, h3, h4, h5, h6, h7⟩
def magicB : BS := [87, 65, 89]
def preP (p : Pg) : BS := magicB ++ be 1 p.kind.toNat ++ be 4 p.gen.toNat ++ be 4 p.mark.toNat ++ be 4 p.index.toNat ++ be 1 p.part.toNat ++ be 1 p.parts.toNat ++ be 2 p.b.length ++ p.b
theorem preP_len (p : Pg) : (preP p).length = 20 + p.b.length := by
 unfold preP magicB
 simp only [List.length_append, be_len, List.length_cons, List.length_nil]
def padB (b : BS) : BS := b ++ List.replicate (508 - b.length) 0
def putPg (p : Pg) : BS := sealB (padB (preP p))
theorem putPg_len {p : Pg} (h : p.b.length ≤ 488) : (putPg p).length = 512 := by
 unfold putPg padB
 rw [seal_len, List.length_append, preP_len, List.length_replicate]
 omega
theorem putPg_ok {p : Pg} (h : BOk p.b) : BOk (putPg p) := by
 refine seal_ok ?_
 unfold padB preP magicB
 intro x hx
 simp only [List.mem_append, List.mem_replicate, List.mem_cons, List.not_mem_nil, or_false] at hx
 rcases hx with ((((((((hx | hx) | hx) | hx) | hx) | hx) | hx) | hx) | hx) | hx
 ·omega
 all_goals first
   | exact be_ok _ _ x hx
   | exact h x hx
   | omega
def rdPg (s : RS) : Pg × RS :=
 let k := s.num 1
 let g := k.2.num 4
 let m := g.2.num 4
 let i := m.2.num 4
 let a := i.2.num 1
 let n := a.2.num 1
 let t := n.2.text
 (⟨k.1, g.1, m.1, i.1, a.1, n.1, t.1⟩, t.2)
def getPg (s : BS) : Option Pg :=
 match openB s with
 | none => none
 | some b => if b.length ≠ 508 ∨ b.take 3 ≠ magicB then none else
   let r := rdPg ⟨b.drop 3, false⟩
   if r.2.w || !mayPg r.1 || (b.drop (508 - r.2.b.length)).any (· != 0) then none else some r.1
theorem getPg_some {s : BS} {p : Pg} (h : getPg s = some p) : PgOk p ∧ s.length = 512 := by
 unfold getPg at h
 split at h
 ·cases h
 ·rename_i b hb
  split at h
  ·cases h
  ·rename_i hn
   simp only at h
   split at h
   ·cases h
   ·rename_i hc
    simp only [Bool.or_eq_true, Bool.not_eq_true', not_or, Bool.not_eq_false] at hc
    cases h
    refine ⟨mayPg_iff.1 hc.1.2, ?_⟩
    have h1 : b.length = 508 := by omega
    unfold openB at hb
    split at hb
    ·cases hb
    ·split at hb
     ·cases hb
      rw [List.length_take] at h1
      omega
     ·cases hb
def blankB (s : BS) : Bool := decide (s.length = 512) && !s.any (· != 0)
theorem getPg_zeros : getPg zeros = none := by decide +kernel
theorem blank_zeros : blankB zeros = true := by decide +kernel
/-! ### Records -/
def partsN (n : Int) : Int := if n < 0 ∨ 7808 < n then 0 else max 1 ((n + 487).tdiv 488)
def partPg (p : Pg) (b : BS) (k : Int) (i : Nat) : Pg := { p with index := if 0 ≤ p.index ∧ p.index ≤ 2147483648 then p.index + i else p.index, part := i, parts := k, b := (b.drop (488 * i)).take 488 }
def splitL (p : Pg) (b : BS) : List Pg := (List.range (partsN b.length).toNat).map (partPg p b (partsN b.length))
def splitE (p : Pg) (b : BS) : Int := if partsN b.length = 0 then 5 else if (splitL p b).all mayPg then 0 else 1
def followB (f p : Pg) (i : Nat) : Bool := mayPg p && (p.kind == f.kind && (p.gen == f.gen && (p.mark == f.mark && (p.index - i == f.index && (p.part == i && (p.parts == f.parts && ((i : Int) == f.parts - 1 || p.b.length == 488)))))))
def concB (l : List Pg) : BS := l.flatMap (·.b)
def folAll (f : Pg) : Nat → List Pg → Bool
 | _, [] => true
 | i, p :: t => followB f p i && folAll f (i + 1) t
def joinR (l : List Pg) : Option (BS × Nat) :=
 match l with
 | [] => none
 | f :: t => if !mayPg f || decide ((f :: t).length < f.parts) then none else
   if folAll f 0 ((f :: t).take f.parts.toNat) && partsN (concB ((f :: t).take f.parts.toNat)).length == f.parts then some (concB ((f :: t).take f.parts.toNat), f.parts.toNat) else none
/-! ### Slots -/
def pagesL : List BS → List Pg
 | [] => []
 | s :: t => match getPg s with
   | none => []
   | some p => p :: pagesL t
structure Bs where
 gen : Int
 b : BS
def bsC (x : Bs) : List AV := [.int x.gen, bsA x.b]
def loadL (l : List BS) : Option Bs :=
 match pagesL l with
 | [] => none
 | f :: t => match joinR (f :: t) with
   | none => none
   | some q => if f.kind ≠ 1 ∨ f.index ≠ 0 then none else some ⟨f.gen, q.1⟩
def betterL (a b : List BS) : Option Bs :=
 match loadL a, loadL b with
 | x, none => x
 | none, some y => some y
 | some x, some y => if x.gen < y.gen then some y else some x
def markL (l : List BS) : Int := l.foldl (fun m s => match getPg s with | none => m | some p => max m p.mark) 0
def baseP (gen mark : Int) : Pg := ⟨1, gen, mark, 0, 0, 0, []⟩
def sectE (x : Bs) (mark most : Int) : Int := if most < partsN x.b.length then 5 else splitE (baseP x.gen mark) x.b
def sectL (x : Bs) (mark : Int) : List BS := (splitL (baseP x.gen mark) x.b).map putPg
/-! ### Plots -/
structure Plt where
 slot : Int
 fr : Int
 log : Int
 deriving DecidableEq
def pltC (p : Plt) : List AV := [.int p.slot, .int p.fr, .int p.log]
def plotM (n : Int) : Plt := ⟨min (n.tdiv 4) 16, 2 * min (n.tdiv 4) 16, n - 2 * min (n.tdiv 4) 16⟩
def plotE (n : Int) : Int := if n < 6 ∨ 1024 < n then 1 else 0
end A
end Go.Proofs.YthkgdhamnpiagaaGreat
namespace Go.Proofs.YthkgdhamnpiagaaGreat
namespace A
structure WS where
 p : Plt
 gen : Int
 mark : Int
 next : Int
 broken : Bool
def writeAll (D : DW) (fr : Int) : List BS → DW × Int
 | [] => D.flush
 | b :: t => if (D.write fr b).2 = 0 then writeAll (D.write fr b).1 (fr + 1) t else D.write fr b
def secL (D : DW) (n : Nat) : List BS := (List.range n).map D.get
def tailL (gen : Int) : Nat → List BS → List Pg
 | _, [] => []
 | i, s :: t => match getPg s with
   | none => []
   | some x => if x.kind = 2 ∧ x.gen = gen ∧ x.index = i then x :: tailL gen (i + 1) t else []
def recsG : Nat → List Pg → List BS × Nat
 | 0, _ => ([], 0)
 | k + 1, l => match joinR l with
   | none => ([], 0)
   | some q => (q.1 :: (recsG k (l.drop q.2)).1, q.2 + (recsG k (l.drop q.2)).2)
def slotFr (p : Plt) (gen : Int) : Int := gen.tmod 2 * p.slot
def partL (p : Plt) (l : List BS) (gen : Int) : List BS := (l.take (slotFr p gen + p.slot).toNat).drop (slotFr p gen).toNat
def freshB (p : Plt) (l : List BS) : Bool := (l.take (slotFr p 1).toNat ++ l.drop (slotFr p 1 + p.slot).toNat).all blankB
/-- Writes a base. -/
def WS.turn (W : WS) (D : DW) (b : BS) : WS × DW × Int :=
 if W.broken then (W, D, 6) else
 if partsN b.length = 0 ∨ W.p.slot < partsN b.length then (W, D, 5) else
 if W.gen = mmark then (W, D, 4) else
 if sectE ⟨W.gen + 1, b⟩ W.mark W.p.slot ≠ 0 then (W, D, sectE ⟨W.gen + 1, b⟩ W.mark W.p.slot) else
 let r := writeAll D (slotFr W.p (W.gen + 1)) (sectL ⟨W.gen + 1, b⟩ W.mark)
 if r.2 = 0 then ({ W with gen := W.gen + 1, next := 0 }, r.1, 0) else ({ W with broken := true }, r.1, r.2)
def logP (W : WS) : Pg := ⟨2, W.gen, W.mark, W.next, 0, 0, []⟩
/-- Writes a record. -/
def WS.commit (W : WS) (D : DW) (b : BS) : WS × DW × Int :=
 if W.broken then (W, D, 6) else
 if splitE (logP W) b ≠ 0 then (W, D, splitE (logP W) b) else
 if W.p.log - W.next < (splitL (logP W) b).length then (W, D, 4) else
 let r := writeAll D (W.p.fr + W.next) ((splitL (logP W) b).map putPg)
 if r.2 = 0 then ({ W with next := W.next + (splitL (logP W) b).length }, r.1, 0) else ({ W with broken := true }, r.1, r.2)
structure Opn where
 w : WS
 d : DW
 b : BS
 recs : List BS
 e : Int
def wal0 : WS := ⟨⟨0, 0, 0⟩, 0, 0, 0, false⟩
def walOpen (D : DW) (n : Nat) : Opn :=
 if plotE n ≠ 0 then ⟨wal0, D, [], [], 1⟩ else
 if D.dead then ⟨wal0, D, [], [], 7⟩ else
 let l := secL D n
 let w : WS := ⟨plotM n, 0, markL l + 1, 0, false⟩
 if mmark < w.mark then ⟨wal0, D, [], [], 4⟩ else
 match betterL (partL w.p l 0) (partL w.p l 1) with
 | none => if freshB w.p l then
     let r := w.turn D []
     if r.2.2 = 0 then ⟨r.1, r.2.1, [], [], 0⟩ else ⟨wal0, r.2.1, [], [], r.2.2⟩
   else ⟨wal0, D, [], [], 8⟩
 | some x => let q := recsG (n + 1) (tailL x.gen 0 (l.drop w.p.fr.toNat))
   ⟨{ w with gen := x.gen, next := q.2 }, D, x.b, q.1, 0⟩
end A
end Go.Proofs.YthkgdhamnpiagaaGreat
