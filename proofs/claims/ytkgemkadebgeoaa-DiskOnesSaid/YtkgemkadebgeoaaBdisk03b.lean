/- What functions of the program compute: disk03b -/
import Derived.Test.YtkgemkadebgeoaaBdisk03
import Derived.Test.YtkgemkadebgeoaaProg
import Derived.KernelRfl
set_option linter.unusedVariables false
set_option linter.unusedSimpArgs false
namespace Go.Proofs.Ytkgemkadebgeoaa
namespace A

theorem fd_109_2 : fieldOf Try.prog 109 2 = some (2, 1, false) := by kernel_rfl
theorem read_dead {w : DW} {i : Int} (h : w.dead = true) : w.read i = ([], 7) := by simp [DW.read, h]
theorem read_arg {w : DW} {i : Int} (h : w.dead = false) (hi : i < 0 ∨ (w.safe.length : Int) ≤ i) : w.read i = ([], 1) := by simp [DW.read, h, hi]
theorem read_ok {w : DW} {i : Int} (h : w.dead = false) (h0 : 0 ≤ i) (hi : i < (w.safe.length : Int)) : w.read i = (w.get i.toNat, 0) := by
  rw [DW.read, if_neg (by simp [h]), if_neg (by omega)]
theorem Rel.geti {n : Nat} {S W : List (Int × BS)} {w : DW} (r : Rel n S W w) {i : Int} (h0 : 0 ≤ i) (hi : i < (n : Int)) : w.get i.toNat = ((bGet W i).or (bGet S i)).getD zeros := by
  rw [r.get (by omega), show ((i.toNat : Nat) : Int) = i by omega]
theorem Rel.read_len {n : Nat} {S W : List (Int × BS)} {w : DW} (r : Rel n S W w) (i : Int) : (w.read i).1.length ≤ 512 := by
  unfold DW.read
  split
  · simp
  · split
    · simp
    · rename_i h
      rw [r.sn] at h
      exact Nat.le_of_eq (r.g512 (by omega))
theorem Rel.off {n : Nat} {S W : List (Int × BS)} {w : DW} (r : Rel n S W w) {d : Bool} (h : ((n : Int) == 0 || w.dead) = d) : w.dead = d := by
  have := r.n1
  have h0 : ((n : Int) == 0) = false := by simp; omega
  rwa [h0, Bool.false_or] at h

/- disk.Disk).Read -/
set_option maxRecDepth 100000 in
set_option maxHeartbeats 1000000 in
theorem disk_Read (db bs bw n : Nat) (i : Int) (S W : List (Int × BS)) (w : DW) (r : Rel n S W w) : Triple Try.prog 50 [.v (.pointer (some ⟨db, 0, none⟩)), .int i] [.box db [.int n, .v (.map (some bs)), .v (.map (some bw)), .int w.armed, .v (.bool w.dead)], .map bs (kvA S), .map bw (kvA W)] (fun q h' => ∃ g c, q = .tup [.v (slV g (w.read i).1.length c), .int (w.read i).2] ∧ h' = .sl g c 5 1 ((w.read i).1.map by1) :: [.box db [.int n, .v (.map (some bs)), .v (.map (some bw)), .int w.armed, .v (.bool w.dead)], .map bs (kvA S), .map bw (kvA W)]) := by
  refine triple_of Try.func50 rfl (by kernel_rfl) rfl (by simp) ?_
  refine aSeq ?_
  refine aReg ?_
  refine sp pMa ?_
  refine sp pMa ?_
  refine oNil ?_
  refine aSeq ?_
  refine aBlock ?_
  refine aSeq ?_
  refine aReg ?_
  refine sp pM ?_
  refine sa ?_
  refine aCall rfl rfl (by decide) rfl rfl (.cons (by repeat constructor) .nil) (disk_off _ _ _ _ _ _) ?_
  rintro _ _ ⟨rfl, rfl⟩
  refine sp pMa ?_
  refine oNil ?_
  refine aCond rfl (fun c8 => ?_) (fun c8 => ?_)
  · skip
    refine aSeq ?_
    refine aWeak (weak_nil 5 1) ?_
    refine aReg ?_
    refine sp pMa ?_
    refine sp pMa ?_
    refine oNil ?_
    refine aRet ?_
    rw [read_dead (r.off c8)]
    exact ⟨_, _, [], rfl, tk_refl, none, 0, rfl, rfl⟩
  · skip
    refine aSeq ?_
    refine aReg ?_
    refine sp pM ?_
    refine sp pB ?_
    refine sp pM ?_
    refine oSplitDec 14 rfl (fun c14 => ?_) (fun c14 => ?_)
    · skip
      refine gf ?_
      refine gf ?_
      refine gf ?_
      refine gf ?_
      refine gf ?_
      refine gf ?_
      refine sp pK ?_
      refine sp pMa ?_
      refine oNil ?_
      refine aCondT rfl ?_
      refine aSeq ?_
      refine aWeak (weak_nil 5 1) ?_
      refine aReg ?_
      refine sp pMa ?_
      refine sp pMa ?_
      refine oNil ?_
      refine aRet ?_
      rw [read_arg (r.off (by simpa using c8)) (by rw [r.sn]; first | exact .inl (by assumption) | exact .inr (by omega))]
      exact ⟨_, _, [], rfl, tk_refl, none, 0, rfl, rfl⟩
    · skip
      refine gp pM ?_
      refine gp pM ?_
      refine gp pNv ?_
      refine gp (pFb fd_109_0) ?_
      refine gr (rB1 ty_3) ?_
      refine gp pB ?_
      refine sp pK ?_
      refine sp pMa ?_
      refine oNil ?_
      refine aCondDec rfl (fun c11 => ?_) (fun c11 => ?_)
      · skip
        refine aSeq ?_
        refine aWeak (weak_nil 5 1) ?_
        refine aReg ?_
        refine sp pMa ?_
        refine sp pMa ?_
        refine oNil ?_
        refine aRet ?_
        rw [read_arg (r.off (by simpa using c8)) (by rw [r.sn]; first | exact .inl (by assumption) | exact .inr (by omega))]
        exact ⟨_, _, [], rfl, tk_refl, none, 0, rfl, rfl⟩
      · skip
        refine aSkip ?_
        refine aSeq ?_
        refine aSeq ?_
        refine aReg ?_
        refine sp pM ?_
        refine sp pNv ?_
        refine sp (pFb fd_109_2) ?_
        refine sr (rB1 ty_107) ?_
        refine sp pM ?_
        refine sr (rCast (rLookOk rfl rfl rfl (by repeat constructor) mo_107 ze_48 rfl) (cast_look W i)) ?_
        refine sp pM ?_
        refine sp pX ?_
        refine sp pX ?_
        refine sp pMa ?_
        refine sp pMa ?_
        refine oNil ?_
        refine aSeq ?_
        refine aReg ?_
        refine sp pM ?_
        refine oNil ?_
        refine aCond rfl (fun c31 => ?_) (fun c31 => ?_)
        · skip
          refine aSeq ?_
          obtain ⟨b, hb⟩ := Option.isSome_iff_exists.1 c31
          have hbl := (r.wr i b hb).2.2
          have hbg : (bGet W i).getD [] = b := by rw [hb]; rfl
          rw [hbg]
          refine aReg ?_
          refine sp pM ?_
          refine sa ?_
          refine aCall rfl rfl (by decide) rfl rfl .nil (clone_bytes (b.map by1) (by1_ne hbl) by1_len (by rw [List.length_map]; omega)) ?_
          rintro _ _ ⟨g, c, rfl, rfl⟩
          refine sp pMa ?_
          refine sp pMa ?_
          refine oNil ?_
          refine aRet ?_
          have hrd : w.read i = (b, 0) := by
            rw [read_ok (r.off (by simpa using c8)) (by omega) (by rw [r.sn]; omega), r.geti (by omega) (by omega), hb]
            rfl
          rw [hrd]
          refine ⟨_, _ :: [_, _, _], [], rfl, tk_refl, g, c, ?_, rfl⟩
          simp [retOf]
        · skip
          refine aSkip ?_
          refine aSeq ?_
          refine aReg ?_
          refine sp pM ?_
          refine sp pM ?_
          refine sa ?_
          refine aCall rfl rfl (by decide) rfl rfl (.cons (by repeat constructor) (.cons (by repeat constructor) .nil)) (disk_firm _ _ i _ _ _ _ S (fun b hb => (r.sr i b hb).2.2)) ?_
          rintro _ _ ⟨g, c, rfl, rfl⟩
          refine sp pMa ?_
          refine sp pMa ?_
          refine oNil ?_
          refine aRet ?_
          have hrd : w.read i = ((bGet S i).getD zeros, 0) := by
            rw [read_ok (r.off (by simpa using c8)) (by omega) (by rw [r.sn]; omega), r.geti (by omega) (by omega)]
            cases h : bGet W i with
            | none => rfl
            | some b => rw [h] at c31; simp at c31
          rw [hrd]
          refine ⟨_, _ :: [_, _, _], [], rfl, tk_refl, g, c, ?_, rfl⟩
          simp [retOf, r.s512]

end A
end Go.Proofs.Ytkgemkadebgeoaa
