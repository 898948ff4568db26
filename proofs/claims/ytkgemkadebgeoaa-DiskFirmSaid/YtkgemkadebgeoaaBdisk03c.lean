/- What functions of the program compute: disk03c -/
import Derived.Test.YtkgemkadebgeoaaBdisk03b
import Derived.Test.YtkgemkadebgeoaaProg
import Derived.KernelRfl
set_option linter.unusedVariables false
set_option linter.unusedSimpArgs false
namespace Go.Proofs.Ytkgemkadebgeoaa
namespace A

theorem write_dead {w : DW} {i : Int} {b : BS} (h : w.dead = true) : w.write i b = (w, 7) := by simp [DW.write, h]
theorem write_arg {w : DW} {i : Int} {b : BS} (h : w.dead = false) (hi : i < 0 ∨ (w.safe.length : Int) ≤ i ∨ b.length ≠ 512) : w.write i b = (w, 1) := by
  rw [DW.write, if_neg (by simp [h]), if_pos hi]
theorem write_no {w : DW} {i : Int} {b : BS} (h : w.dead = false) (h0 : 0 ≤ i) (hi : i < (w.safe.length : Int)) (hb : b.length = 512) (ha : w.armed = 0) : w.write i b = (⟨w.safe, w.waits, w.armed, true⟩, 7) := by
  rw [DW.write, if_neg (by simp [h]), if_neg (by omega), if_neg (by simp [DW.act, ha])]
  simp [DW.act, ha]
theorem write_yes {w : DW} {i : Int} {b : BS} (h : w.dead = false) (h0 : 0 ≤ i) (hi : i < (w.safe.length : Int)) (hb : b.length = 512) (ha : w.armed ≠ 0) : w.write i b = (⟨w.safe, w.waits.set i.toNat b, if 0 < w.armed then w.armed - 1 else w.armed, false⟩, 0) := by
  rw [DW.write, if_neg (by simp [h]), if_neg (by omega), if_pos (by simp [DW.act, ha, h])]
  simp [DW.act, ha, h]
theorem Rel.putA {n : Nat} {S W : List (Int × BS)} {w : DW} (r : Rel n S W w) {i : Int} {b : BS} (h0 : 0 ≤ i) (hi : i < n) (hb : b.length = 512) : Rel n S (bPut W i b) ⟨w.safe, w.waits.set i.toNat b, if 0 < w.armed then w.armed - 1 else w.armed, false⟩ := by
  have := r.ar
  exact { r.put h0 hi hb with ar := by show (if 0 < w.armed then w.armed - 1 else w.armed) ≤ 9223372036854775807; split <;> omega }
theorem flush_no {w : DW} (h : w.dead = true ∨ w.armed = 0) : w.flush = (⟨w.safe, w.waits, w.act.1.armed, true⟩, 7) := by
  have hb : (w.dead || w.armed == 0) = true := by rcases h with h | h <;> simp [h]
  rw [DW.flush, if_neg (by simp only [DW.act, hb]; decide)]
  simp only [DW.act, hb]
theorem flush_yes {w : DW} (h : w.dead = false) (ha : w.armed ≠ 0) : w.flush = (⟨(List.range w.safe.length).map w.get, List.replicate w.safe.length [], if 0 < w.armed then w.armed - 1 else w.armed, false⟩, 0) := by
  have hb : (w.dead || w.armed == 0) = false := by simp [h, ha]
  rw [DW.flush, if_pos (by simp only [DW.act, hb]; decide)]
  simp [DW.act, h]
theorem act_arm0 {w : DW} (h : w.dead = true ∨ w.armed = 0) : w.act.1.armed = w.armed := by
  show (if 0 < w.armed ∧ w.dead = false then w.armed - 1 else w.armed) = w.armed
  rw [if_neg]
  rcases h with h | h
  · simp [h]
  · omega

/- disk.Disk).Write -/
def disk_Write_r8_T : Bool × List (List Nat × List Nat) := (true, [([], []), ([0], [0]), ([1], [1]), ([2], [2]), ([], []), ([], []), ([5], [5]), ([3, 4, 6, 6, 0, 1, 2, 3, 4, 5, 6], [3, 4, 6])])
def disk_Write_r8_B : List Nat := [0, 1, 3, 7, 0, 0, 32, 127]
theorem disk_Write_r8_t : Go.Proofs.YtkgemkadebgeoaaW.PrintLast.rtab .any (Go.Proofs.YtkgemkadebgeoaaW.PrintLast.opsOf Try.f47 8) = disk_Write_r8_T := by kernel_rfl
theorem disk_Write_r8_b : Go.Proofs.YtkgemkadebgeoaaW.PrintLast.waitsOk disk_Write_r8_T.2 disk_Write_r8_B = true := by kernel_rfl
set_option maxRecDepth 100000 in
set_option maxHeartbeats 1000000 in
theorem disk_Write (db bs bw n : Nat) (i : Int) (b : BS) (S W : List (Int × BS)) (w : DW) (r : Rel n S W w) : Triple Try.prog 47 [.v (.pointer (some ⟨db, 0, none⟩)), .int i, .sl 1 (b.map by1)] [.box db [.int n, .v (.map (some bs)), .v (.map (some bw)), .int w.armed, .v (.bool w.dead)], .map bs (kvA S), .map bw (kvA W)] (fun q h' => q = .int (w.write i b).2 ∧ ∃ W', Rel n S W' (w.write i b).1 ∧ h' = [.box db [.int n, .v (.map (some bs)), .v (.map (some bw)), .int (w.write i b).1.armed, .v (.bool (w.write i b).1.dead)], .map bs (kvA S), .map bw (kvA W')]) := by
  refine triple_of Try.func47 rfl (by kernel_rfl) rfl (by simp) ?_
  refine aSeq ?_
  refine aReg ?_
  refine sp pMa ?_
  refine oNil ?_
  refine aSeq ?_
  refine aBlock ?_
  refine aSeq ?_
  refine aReg ?_
  refine sp pM ?_
  refine sa ?_
  refine aCall rfl rfl (by decide) rfl rfl (.cons (by repeat constructor) .nil) (disk_off _ _ _ _ _ _) ?_
  rintro _ _ ⟨rfl, rfl⟩
  refine sp pMa ?_
  refine oNil ?_
  refine aCond rfl (fun c8 => ?_) (fun c8 => ?_)
  · skip
    refine aSeq ?_
    refine aReg ?_
    refine sp pMa ?_
    refine oNil ?_
    refine aRet ?_
    rw [write_dead (r.off c8)]
    exact ⟨_, [_, _, _], [], rfl, tk_refl, rfl, W, r, rfl⟩
  · skip
    refine aSeq ?_
    refine aReg ?_
    refine sp pM ?_
    refine sp pB ?_
    refine sp pM ?_
    refine oSplitDec 14 rfl (fun c14 => ?_) (fun c14 => ?_)
    · skip
      refine gf ?_
      refine gf ?_
      refine gf ?_
      refine gf ?_
      refine gf ?_
      refine gf ?_
      refine sp pK ?_
      refine sp pM ?_
      refine gf ?_
      refine gf ?_
      refine gf ?_
      refine sp pK ?_
      refine sp pMa ?_
      refine oNil ?_
      refine aCondT rfl ?_
      refine aSeq ?_
      refine aReg ?_
      refine sp pMa ?_
      refine oNil ?_
      refine aRet ?_
      rw [write_arg (r.off (d := false) (by simpa using c8)) (by rw [r.sn]; first | exact .inl (by assumption) | exact .inr (.inl (by omega)) | exact .inr (.inr (by omega)))]
      exact ⟨_, [_, _, _], [], rfl, tk_refl, rfl, W, r, rfl⟩
    · skip
      refine gp pM ?_
      refine gp pM ?_
      refine gp pNv ?_
      refine gp (pFb fd_109_0) ?_
      refine gr (rB1 ty_3) ?_
      refine gp pB ?_
      refine sp pK ?_
      refine sp pM ?_
      refine oSplitDec 22 rfl (fun c22 => ?_) (fun c22 => ?_)
      · skip
        refine gf ?_
        refine gf ?_
        refine gf ?_
        refine sp pK ?_
        refine sp pMa ?_
        refine oNil ?_
        refine aCondT rfl ?_
        refine aSeq ?_
        refine aReg ?_
        refine sp pMa ?_
        refine oNil ?_
        refine aRet ?_
        rw [write_arg (r.off (d := false) (by simpa using c8)) (by rw [r.sn]; first | exact .inl (by assumption) | exact .inr (.inl (by omega)) | exact .inr (.inr (by omega)))]
        exact ⟨_, [_, _, _], [], rfl, tk_refl, rfl, W, r, rfl⟩
      · skip
        refine gp pM ?_
        refine gp (by first | exact pLm sl_48 | exact pLs sl_48) ?_
        refine gp pB ?_
        refine sp pK ?_
        refine sp pMa ?_
        refine oNil ?_
        refine aCondNe rfl (fun c11 => ?_) (fun c11 => ?_)
        · skip
          refine aSeq ?_
          refine aReg ?_
          refine sp pMa ?_
          refine oNil ?_
          refine aRet ?_
          rw [write_arg (r.off (d := false) (by simpa using c8)) (by rw [r.sn]; first | exact .inl (by assumption) | exact .inr (.inl (by omega)) | exact .inr (.inr (by omega)))]
          exact ⟨_, [_, _, _], [], rfl, tk_refl, rfl, W, r, rfl⟩
        · skip
          refine aSkip ?_
          refine aSeq ?_
          refine aSeq ?_
          have hbl : b.length = 512 := by omega
          have hd := r.off (d := false) (by simpa using c8)
          refine aReg ?_
          refine sp pM ?_
          refine sa ?_
          refine aCall rfl rfl (by decide) rfl rfl (.cons (by repeat constructor) .nil) (disk_act _ _ _ _ _ _ r.ar) ?_
          rintro _ _ ⟨rfl, rfl⟩
          refine sp pMa ?_
          refine oNil ?_
          refine aSeq ?_
          refine aReg ?_
          refine sp pM ?_
          refine sp pB ?_
          refine oNil ?_
          refine aCondNe rfl (fun c30 => ?_) (fun c30 => ?_)
          · skip
            refine aSeq ?_
            refine aReg ?_
            refine sp pM ?_
            refine sp pMa ?_
            refine oNil ?_
            refine aRet ?_
            have ha : w.armed = 0 := by rcases Int.lt_trichotomy w.armed 0 with h | h | h <;> simp_all <;> omega
            rw [write_no hd (by omega) (by rw [r.sn]; omega) hbl ha]
            refine ⟨_, [_, _, _], [], rfl, tk_refl, ?_, W, { r with }, ?_⟩
            · simp [retOf, ha]
            · simp [ha]
          · skip
            refine aSkip ?_
            refine aSeq ?_
            refine aDrawT disk_Write_r8_t disk_Write_r8_b [7] 8 #[false, false, false, false, false, false, false, false] (by kernel_rfl) rfl rfl (fun HT => ?_)
            refine dp HT 0 rfl pM ?_
            refine dp HT 1 rfl pNv ?_
            refine dp HT 2 rfl (pFb fd_109_2) ?_
            refine dr HT 3 rfl (rB1 ty_107) ?_
            refine dp HT 4 rfl pM ?_
            refine dp HT 5 rfl pM ?_
            refine dGo ?_
            refine e1 HT 6 rfl ?_
            refine qCall0 rfl rfl (by decide) rfl rfl (clone_bytes (b.map by1) (by1_ne hbl) by1_len (by rw [List.length_map]; omega)) ?_
            rintro _ _ ⟨g, c, rfl, rfl⟩
            first | refine fWeak (weak_settle (k := 38) rfl .hd (by simp)) ?_ | skip
            refine eLast ?_
            first | refine fWeak (weak_settle (k := 38) rfl .hd (by simp)) ?_ | skip
            refine f1 HT 7 rfl ?_
            refine oMapSet rfl rfl rfl rfl rfl (by repeat constructor) mo_107 ?_
            refine fE HT ?_
            clear HT
            refine aSeq ?_
            refine aReg ?_
            refine sp pMa ?_
            refine oNil ?_
            refine aRet ?_
            have ha : w.armed ≠ 0 := fun h => by simp [h] at c30
            rw [write_yes hd (by omega) (by rw [r.sn]; omega) hbl ha]
            refine ⟨_, [_, _, _], [], rfl, .cons (.tl .hd) (.cons (.tl .hd) (.cons .hd .nil)), rfl, bPut W i b, r.putA (by omega) (by omega) hbl, ?_⟩
            dsimp only
            rw [← kvA_put, hd, if_neg ha]
            rfl

def keyW (W : List (Int × BS)) (i : Nat) : Int := (W.getD i (0, [])).1
theorem keyW_get {W : List (Int × BS)} {i : Nat} {k : Int} {b : BS} (h : W[i]? = some (k, b)) : keyW W i = k := by simp [keyW, List.getD, h]
theorem copy_step {S W T : List (Int × BS)} {idx : List Nat} {i : Nat} {k : Int} {b : BS} (wk : (W.map Prod.fst).Nodup) (h : W[i]? = some (k, b)) (hT : ∀ q, bGet T q = if q ∈ idx.map (keyW W) then bGet W q else bGet S q) (q : Int) :
    bGet (bPut T k b) q = if q ∈ (idx ++ [i]).map (keyW W) then bGet W q else bGet S q := by
  rw [bGet_put, hT, List.map_append, List.map_singleton, keyW_get h]
  by_cases hq : q = k
  · subst hq
    rw [if_pos rfl, if_pos (by simp), bGet_at wk h]
  · rw [if_neg hq]
    have : (q ∈ idx.map (keyW W) ++ [k]) ↔ q ∈ idx.map (keyW W) := by simp [hq]
    simp only [this]
theorem copy_end {S W T : List (Int × BS)} {idx : List Nat} (hix : Idx W.length idx) (hall : ∀ i, i < W.length → i ∈ idx) (hT : ∀ q, bGet T q = if q ∈ idx.map (keyW W) then bGet W q else bGet S q) (q : Int) : bGet T q = (bGet W q).or (bGet S q) := by
  rw [hT]
  cases h : bGet W q with
  | some b =>
    have hm := bGet_mem.1 (by rw [h]; rfl : (bGet W q).isSome = true)
    obtain ⟨i, hi⟩ := List.mem_iff_getElem?.1 hm
    rw [List.getElem?_map, Option.map_eq_some_iff] at hi
    obtain ⟨⟨k, c⟩, h1, h2⟩ := hi
    have hkq : k = q := h2
    subst hkq
    rw [if_pos]
    · rfl
    · exact List.mem_map.2 ⟨i, hall i (List.getElem?_eq_some_iff.1 h1).1, keyW_get h1⟩
  | none =>
    split
    · rename_i hm
      obtain ⟨i, hi, hk⟩ := List.mem_map.1 hm
      have hil := hix.2 i hi
      have : q ∈ W.map Prod.fst := List.mem_map.2 ⟨W[i], List.getElem_mem hil, by rw [← hk]; simp [keyW, List.getD, hil]⟩
      rw [← bGet_mem, h] at this
      cases this
    · simp

/- maps.Copy[map[int][]byte,map[int][]byte,int,[]byte] -/
set_option maxRecDepth 100000 in
set_option maxHeartbeats 400000 in
theorem maps_Copy (bs bw : Nat) (S W : List (Int × BS)) (sk : (S.map Prod.fst).Nodup) (wk : (W.map Prod.fst).Nodup) : Triple Try.prog 93 [.v (.map (some bs)), .v (.map (some bw))] [.map bs (kvA S), .map bw (kvA W)] (fun q h' => q = .tup [] ∧ ∃ T, h' = [.map bs (kvA T), .map bw (kvA W)] ∧ (T.map Prod.fst).Nodup ∧ ∀ k, bGet T k = (bGet W k).or (bGet S k)) := by
  refine triple_of Try.func93 rfl (by kernel_rfl) rfl (by simp) ?_
  refine aSeq ?_
  refine aReg ?_
  refine sp pM ?_
  refine sa ?_
  refine oRange rfl rfl (by decide) rfl (by repeat constructor) um_107 (fun r7 => ?_)
  refine oNil ?_
  refine aBlock ?_
  refine aLoopI (α := List Nat × List (Int × BS)) (fun (idx, T) => Idx W.length idx ∧ (T.map Prod.fst).Nodup ∧ ∀ q, bGet T q = if q ∈ idx.map (keyW W) then bGet W q else bGet S q) (fun (idx, T) => ([(0, .v (.map (some bs))), (7, .v (.pointer (some ⟨r7, 0, none⟩)))], [.mapIt bw r7 (kvA W) idx, .map bs (kvA T)])) (fun (idx, T) => W.length - idx.length) ([], S) ?_ ?_ ?_
  · skip
    exact ⟨Idx.nil, sk, fun q => by simp⟩
  · skip
    exact weak_sub ⟨rfl, rfl, trivial⟩ (.cons .hd (.cons .hd .nil))
  · rintro ⟨idx, T⟩ ⟨hix, hTn, hT⟩
    skip
    refine aSeq ?_
    refine aReg ?_
    refine sa ?_
    refine oNextR rfl rfl (by decide) rfl (by repeat constructor) (fun t8 ks8 ix8 hn8 => ?_)
    refine sp pX ?_
    refine oNil ?_
    refine aSeq ?_
    refine aCond rfl (fun c9 => ?_) (fun c9 => ?_)
    · skip
      refine aSkip ?_
      refine aBlock ?_
      refine aSeq ?_
      refine aReg ?_
      obtain ⟨i, ⟨k, v⟩, hkv, hni, rfl, rfl⟩ := hn8.yes c9
      obtain ⟨b, hkb, hvb⟩ := kvA_at hkv
      replace hvb : v = bsA b := hvb
      subst hvb
      refine sr (rEntry rfl rfl (by repeat constructor) hkv) ?_
      refine sp pX ?_
      refine sp pX ?_
      refine sp pMa ?_
      refine sp pMa ?_
      refine oNil ?_
      refine aReg ?_
      refine sp pM ?_
      refine sp pM ?_
      refine sp pM ?_
      refine sa ?_
      refine oMapSet rfl rfl rfl rfl rfl (by repeat constructor) mo_107 ?_
      refine oNil ?_
      have hil := (List.getElem?_eq_some_iff.1 hkb).1
      have hlt := hix.lt hil hni
      refine ⟨(idx ++ [i], bPut T k b), ⟨hix.add hil hni, bPut_nodup hTn, copy_step wk hkb hT⟩, by show W.length - (idx ++ [i]).length < W.length - idx.length; simp only [List.length_append, List.length_cons, List.length_nil]; omega, ?_⟩
      dsimp only
      rw [← kvA_put]
      exact weak_sub ⟨rfl, rfl, trivial⟩ (.cons (.tl .hd) (.cons .hd .nil))
    · skip
      obtain ⟨rfl, rfl, hall⟩ := hn8.no c9
      refine aWeak (weak_unmap .hd) ?_
      refine aExit rfl ?_
      exact ⟨_, [_, _], [], rfl, .cons (.tl .hd) (.cons .hd .nil), rfl, T, rfl, hTn, copy_end hix (fun i hi => hall i (by rw [kvA_len]; exact hi)) hT⟩

/- disk.Disk).Flush -/
def disk_Flush_r6_T : Bool × List (List Nat × List Nat) := (true, [([], []), ([0], [0]), ([1], [1]), ([2], [2]), ([], []), ([4], [4]), ([5], [5]), ([6], [6]), ([3, 7], [3, 7])])
def disk_Flush_r6_B : List Nat := [0, 1, 3, 7, 0, 16, 48, 112, 255]
theorem disk_Flush_r6_t : Go.Proofs.YtkgemkadebgeoaaW.PrintLast.rtab .any (Go.Proofs.YtkgemkadebgeoaaW.PrintLast.opsOf Try.f49 6) = disk_Flush_r6_T := by kernel_rfl
theorem disk_Flush_r6_b : Go.Proofs.YtkgemkadebgeoaaW.PrintLast.waitsOk disk_Flush_r6_T.2 disk_Flush_r6_B = true := by kernel_rfl
set_option maxRecDepth 100000 in
set_option maxHeartbeats 1000000 in
theorem disk_Flush (db bs bw n : Nat) (S W : List (Int × BS)) (w : DW) (r : Rel n S W w) : Triple Try.prog 49 [.v (.pointer (some ⟨db, 0, none⟩))] [.box db [.int n, .v (.map (some bs)), .v (.map (some bw)), .int w.armed, .v (.bool w.dead)], .map bs (kvA S), .map bw (kvA W)] (fun q h' => q = .int w.flush.2 ∧ ∃ S' W', Rel n S' W' w.flush.1 ∧ h' = [.box db [.int n, .v (.map (some bs)), .v (.map (some bw)), .int w.flush.1.armed, .v (.bool w.flush.1.dead)], .map bs (kvA S'), .map bw (kvA W')]) := by
  refine triple_of Try.func49 rfl (by kernel_rfl) rfl (by simp) ?_
  refine aSeq ?_
  refine aReg ?_
  refine sp pMa ?_
  refine oNil ?_
  refine aSeq ?_
  refine aSeq ?_
  refine aReg ?_
  refine sp pM ?_
  refine sa ?_
  refine aCall rfl rfl (by decide) rfl rfl (.cons (by repeat constructor) .nil) (disk_off _ _ _ _ _ _) ?_
  rintro _ _ ⟨rfl, rfl⟩
  refine oNil ?_
  refine aCond rfl (fun c5 => ?_) (fun c5 => ?_)
  · skip
    refine aSeq ?_
    refine aReg ?_
    refine sp pMa ?_
    refine oNil ?_
    refine aRet ?_
    have hd := r.off c5
    rw [flush_no (.inl hd), act_arm0 (.inl hd)]
    exact ⟨_, [_, _, _], [], rfl, tk_refl, rfl, S, W, { r with }, by rw [hd]⟩
  · skip
    refine aSkip ?_
    refine aSeq ?_
    refine aSeq ?_
    have hd := r.off (d := false) (by simpa using c5)
    refine aReg ?_
    refine sp pM ?_
    refine sa ?_
    refine aCall rfl rfl (by decide) rfl rfl (.cons (by repeat constructor) .nil) (disk_act _ _ _ _ _ _ r.ar) ?_
    rintro _ _ ⟨rfl, rfl⟩
    refine sp pMa ?_
    refine oNil ?_
    refine aSeq ?_
    refine aReg ?_
    refine sp pM ?_
    refine sp pB ?_
    refine oNil ?_
    refine aCondNe rfl (fun c9 => ?_) (fun c9 => ?_)
    · skip
      refine aSeq ?_
      refine aReg ?_
      refine sp pM ?_
      refine sp pMa ?_
      refine oNil ?_
      refine aRet ?_
      have ha : w.armed = 0 := by rcases Int.lt_trichotomy w.armed 0 with h | h | h <;> simp_all <;> omega
      rw [flush_no (.inr ha), act_arm0 (.inr ha)]
      refine ⟨_, [_, _, _], [], rfl, tk_refl, ?_, S, W, { r with }, ?_⟩
      · simp [retOf, ha]
      · simp [ha]
    · skip
      refine aSkip ?_
      refine aSeq ?_
      refine aDrawT disk_Flush_r6_t disk_Flush_r6_b [8] 9 #[false, false, false, false, false, false, false, false, false] (by kernel_rfl) rfl rfl (fun HT => ?_)
      refine dp HT 0 rfl pM ?_
      refine dp HT 1 rfl pNv ?_
      refine dp HT 2 rfl (pFb fd_109_1) ?_
      refine dr HT 3 rfl (rB1 ty_107) ?_
      refine dp HT 4 rfl pM ?_
      refine dp HT 5 rfl pNv ?_
      refine dp HT 6 rfl (pFb fd_109_2) ?_
      refine dr HT 7 rfl (rB1 ty_107) ?_
      refine dGo ?_
      refine eLast ?_
      refine f1 HT 8 rfl ?_
      refine aCall rfl rfl (by decide) rfl rfl (.cons (by repeat constructor) (.cons (by repeat constructor) .nil)) (maps_Copy bs bw S W r.sk r.wk) ?_
      rintro _ _ ⟨rfl, T, rfl, hTn, hT⟩
      refine fE HT ?_
      clear HT
      refine aSeq ?_
      refine aReg ?_
      refine sp pM ?_
      refine sp pNv ?_
      refine sp (pFb fd_109_2) ?_
      refine sr (rB1 ty_107) ?_
      refine sa ?_
      refine oClearM rfl rfl rfl (by repeat constructor) mo_107 ?_
      refine oNil ?_
      refine aSeq ?_
      refine aReg ?_
      refine sp pMa ?_
      refine oNil ?_
      refine aRet ?_
      have ha : w.armed ≠ 0 := fun h => by simp [h] at c9
      have har := r.ar
      rw [flush_yes hd ha]
      refine ⟨_, [_, _, _], [], rfl, .cons (.tl (.tl .hd)) (.cons (.tl .hd) (.cons .hd .nil)), rfl, T, [], r.flushed hTn hT _ (by split <;> omega), ?_⟩
      dsimp only
      rw [hd, if_neg ha]
      rfl

/- disk.Disk).Waits -/
set_option maxRecDepth 100000 in
set_option maxHeartbeats 400000 in
theorem disk_Waits (db bs bw n : Nat) (S W : List (Int × BS)) (w : DW) (r : Rel n S W w) : Triple Try.prog 54 [.v (.pointer (some ⟨db, 0, none⟩))] [.box db [.int n, .v (.map (some bs)), .v (.map (some bw)), .int w.armed, .v (.bool w.dead)], .map bs (kvA S), .map bw (kvA W)] (fun q h' => ∃ g c, q = .v (slV g w.waiting.length c) ∧ h' = .sl g c 3 1 ((w.waiting.map (fun i : Nat => (i : Int))).map intA) :: [.box db [.int n, .v (.map (some bs)), .v (.map (some bw)), .int w.armed, .v (.bool w.dead)], .map bs (kvA S), .map bw (kvA W)]) := by
  refine triple_of Try.func54 rfl (by kernel_rfl) rfl (by simp) ?_
  refine aSeq ?_
  refine aReg ?_
  refine sp pMa ?_
  refine oNil ?_
  refine aSeq ?_
  refine aSeq ?_
  refine aReg ?_
  refine sp pM ?_
  refine sp (by first | exact pPtrNil rfl (.inl rfl) rfl pt_78 rfl (rfl : _ = false) | exact pSpNil rfl (.inl rfl) rfl pt_78 (rfl : _ = false)) ?_
  refine oNil ?_
  refine aCondF rfl ?_
  refine aSkip ?_
  refine aSeq ?_
  refine aReg ?_
  refine sp pM ?_
  refine sp pNv ?_
  refine sp (pFb fd_109_2) ?_
  refine sr (rB1 ty_107) ?_
  refine sa ?_
  refine aCall rfl rfl (by decide) rfl rfl .nil (keys_mib bw) ?_
  rintro _ _ ⟨pb, rfl, rfl⟩
  refine sa ?_
  refine aCall rfl rfl (by decide) rfl rfl (.cons .hd (.cons (.tl (.tl .hd)) .nil)) (sorted_int _ _ (kvA W) _ (keys1_mib_iter bw pb (kvA W)) (by have := r.wlen; have := r.n2; rw [kvA_len]; omega)) ?_
  rintro _ _ ⟨g, c, rfl, rfl⟩
  rw [kvA_keys, r.waiting]
  refine sp pMa ?_
  refine oNil ?_
  refine aRet ?_
  refine ⟨_, _ :: [_, _, _], [_], rfl, .cons .hd (.cons (.tl (.tl .hd)) (.cons (.tl (.tl .hd)) (.cons (.tl .hd) .nil))), g, c, ?_, rfl⟩
  simp [retOf]

end A
end Go.Proofs.Ytkgemkadebgeoaa
