/- What functions of the program compute: disk03 -/
import Derived.Test.YtkgemkadebgeoaaBdisk03p
import Derived.Test.YtkgemkadebgeoaaProg
import Derived.KernelRfl
set_option linter.unusedVariables false
set_option linter.unusedSimpArgs false
namespace Go.Proofs.Ytkgemkadebgeoaa
namespace A

theorem el_48 : elemOf Try.prog 48 = some (5, 1, 1) := by kernel_rfl
theorem fd_109_0 : fieldOf Try.prog 109 0 = some (0, 1, false) := by kernel_rfl
theorem fd_109_1 : fieldOf Try.prog 109 1 = some (1, 1, false) := by kernel_rfl
theorem fd_109_3 : fieldOf Try.prog 109 3 = some (3, 1, false) := by kernel_rfl
theorem fd_109_4 : fieldOf Try.prog 109 4 = some (4, 1, false) := by kernel_rfl
theorem mo_107 : mapOf Try.prog 107 = some (3, 48) := by kernel_rfl
theorem pt_78 : isPtrT Try.prog 78 = true := by kernel_rfl
theorem sl_48 : isSl Try.prog 48 = true := by kernel_rfl
theorem ty_4 : tyOf Try.prog 4 = some (1, false) := by kernel_rfl
theorem ty_5 : tyOf Try.prog 5 = some (1, false) := by kernel_rfl
theorem us_48 : Try.prog.underlying 48 = some (.slice 5) := by kernel_rfl
theorem ze_48 : zeroOf Try.prog 48 = some (.slice none 0 0) := by kernel_rfl
theorem ze_5 : zeroOf Try.prog 5 = some (.int .u8 0) := by kernel_rfl
/- disk.Disk).off -/
set_option maxRecDepth 100000 in
set_option maxHeartbeats 400000 in
theorem disk_off (db : Nat) (n a : Int) (x y : AV) (d : Bool) : Triple Try.prog 90 [.v (.pointer (some ⟨db, 0, none⟩))] [.box db [.int n, x, y, .int a, .v (.bool d)]] (fun r h' => r = .v (.bool (n == 0 || d)) ∧ h' = [.box db [.int n, x, y, .int a, .v (.bool d)]]) := by
  refine triple_of Try.func90 rfl (by kernel_rfl) rfl (by simp) ?_
  refine aSeq ?_
  refine aReg ?_
  refine sp pMa ?_
  refine oNil ?_
  refine aSeq ?_
  refine aReg ?_
  refine sp pM ?_
  refine sp (by first | exact pPtrNil rfl (.inl rfl) rfl pt_78 rfl (rfl : _ = false) | exact pSpNil rfl (.inl rfl) rfl pt_78 (rfl : _ = false)) ?_
  refine sp pM ?_
  refine gp pM ?_
  refine gp pNv ?_
  refine gp (pFb fd_109_0) ?_
  refine gr (rB1 ty_3) ?_
  refine gp pB ?_
  refine sp pK ?_
  refine sp pM ?_
  refine oSplitEq 12 rfl (fun c12 => ?_) (fun c12 => ?_)
  · skip
    refine gf ?_
    refine gf ?_
    refine gf ?_
    refine gf ?_
    refine sp pK ?_
    refine sp pMa ?_
    refine oNil ?_
    refine aRet ?_
    refine ⟨_, [_], [], rfl, .cons .hd .nil, ?_, rfl⟩
    simp_all [retOf]
  · skip
    refine gp pM ?_
    refine gp pNv ?_
    refine gp (pFb fd_109_4) ?_
    refine gr (rB1 ty_4) ?_
    refine sp pK ?_
    refine sp pMa ?_
    refine oNil ?_
    refine aRet ?_
    refine ⟨_, [_], [], rfl, .cons .hd .nil, ?_, rfl⟩
    simp_all [retOf]

/- disk.Disk).Size -/
set_option maxRecDepth 100000 in
set_option maxHeartbeats 400000 in
theorem disk_Size (db : Nat) (n a : Int) (x y : AV) (d : Bool) : Triple Try.prog 58 [.v (.pointer (some ⟨db, 0, none⟩))] [.box db [.int n, x, y, .int a, .v (.bool d)]] (fun r h' => r = .int n ∧ h' = [.box db [.int n, x, y, .int a, .v (.bool d)]]) := by
  refine triple_of Try.func58 rfl (by kernel_rfl) rfl (by simp) ?_
  refine aSeq ?_
  refine aReg ?_
  refine sp pMa ?_
  refine oNil ?_
  refine aSeq ?_
  refine aSeq ?_
  refine aReg ?_
  refine sp pM ?_
  refine sp (by first | exact pPtrNil rfl (.inl rfl) rfl pt_78 rfl (rfl : _ = false) | exact pSpNil rfl (.inl rfl) rfl pt_78 (rfl : _ = false)) ?_
  refine oNil ?_
  refine aCondF rfl ?_
  refine aSkip ?_
  refine aSeq ?_
  refine aReg ?_
  refine sp pM ?_
  refine sp pNv ?_
  refine sp (pFb fd_109_0) ?_
  refine sr (rB1 ty_3) ?_
  refine sp pMa ?_
  refine oNil ?_
  refine aRet ?_
  exact ⟨_, [_], [], rfl, .cons .hd .nil, rfl, rfl⟩

/- disk.Disk).Dead -/
set_option maxRecDepth 100000 in
set_option maxHeartbeats 400000 in
theorem disk_Dead (db : Nat) (n a : Int) (x y : AV) (d : Bool) : Triple Try.prog 55 [.v (.pointer (some ⟨db, 0, none⟩))] [.box db [.int n, x, y, .int a, .v (.bool d)]] (fun r h' => r = .v (.bool (n == 0 || d)) ∧ h' = [.box db [.int n, x, y, .int a, .v (.bool d)]]) := by
  refine triple_of Try.func55 rfl (by kernel_rfl) rfl (by simp) ?_
  refine aSeq ?_
  refine aReg ?_
  refine sp pMa ?_
  refine oNil ?_
  refine aSeq ?_
  refine aReg ?_
  refine sp pM ?_
  refine sa ?_
  refine aCall rfl rfl (by decide) rfl rfl (.cons (by repeat constructor) .nil) (disk_off _ _ _ _ _ _) ?_
  rintro _ _ ⟨rfl, rfl⟩
  refine sp pMa ?_
  refine oNil ?_
  refine aRet ?_
  exact ⟨_, [_], [], rfl, .cons .hd .nil, rfl, rfl⟩

/- disk.Disk).act -/
set_option maxRecDepth 100000 in
set_option maxHeartbeats 400000 in
theorem disk_act (db : Nat) (n a : Int) (x y : AV) (d : Bool) (ha : a ≤ 9223372036854775807) : Triple Try.prog 91 [.v (.pointer (some ⟨db, 0, none⟩))] [.box db [.int n, x, y, .int a, .v (.bool d)]] (fun r h' => r = .int (if a = 0 then 7 else 0) ∧ h' = [.box db [.int n, x, y, .int (if 0 < a then a - 1 else a), .v (.bool (if a = 0 then true else d))]]) := by
  refine triple_of Try.func91 rfl (by kernel_rfl) rfl (by simp) ?_
  refine aSeq ?_
  refine aReg ?_
  refine sp pMa ?_
  refine oNil ?_
  refine aSeq ?_
  refine aBlock ?_
  refine aSeq ?_
  refine aReg ?_
  refine sp pM ?_
  refine sp pNv ?_
  refine sp (pFb fd_109_3) ?_
  refine sr (rB1 ty_3) ?_
  refine sp pB ?_
  refine sp pMa ?_
  refine oNil ?_
  refine aCondEq rfl (fun c3 => ?_) (fun c3 => ?_)
  · skip
    refine aSeq ?_
    refine aReg ?_
    refine sp pM ?_
    refine sp pNv ?_
    refine sp (pFb fd_109_4) ?_
    refine sa ?_
    refine oStB rfl rfl rfl rfl (by repeat constructor) ty_4 rfl (Nat.le_of_ble_eq_true rfl) rfl ?_
    refine oNil ?_
    refine aSeq ?_
    refine aReg ?_
    refine sp pMa ?_
    refine oNil ?_
    refine aRet ?_
    refine ⟨_, [_], [], rfl, .cons .hd .nil, ?_, ?_⟩
    · simp_all [retOf] <;> omega
    · simp_all [setCells, putAll, avCells] <;> omega
  · skip
    refine aSeq ?_
    refine aReg ?_
    refine sp pM ?_
    refine sp pNv ?_
    refine sp (pFb fd_109_3) ?_
    refine sr (rB1 ty_3) ?_
    refine sp pB ?_
    refine sp pMa ?_
    refine oNil ?_
    refine aCondDec rfl (fun c12 => ?_) (fun c12 => ?_)
    · skip
      refine aReg ?_
      refine sp pM ?_
      refine sp pNv ?_
      refine sp (pFb fd_109_3) ?_
      refine sr (rB1 ty_3) ?_
      refine sp pSu ?_
      refine sp pNv ?_
      refine sp (pFb fd_109_3) ?_
      refine sa ?_
      refine oStB rfl rfl rfl rfl (by repeat constructor) ty_3 rfl (Nat.le_of_ble_eq_true rfl) rfl ?_
      refine oNil ?_
      refine aSeq ?_
      refine aReg ?_
      refine sp pMa ?_
      refine oNil ?_
      refine aRet ?_
      refine ⟨_, [_], [], rfl, .cons .hd .nil, ?_, ?_⟩
      · simp_all [retOf] <;> omega
      · simp_all [setCells, putAll, avCells] <;> omega
    · skip
      refine aSkip ?_
      refine aSeq ?_
      refine aReg ?_
      refine sp pMa ?_
      refine oNil ?_
      refine aRet ?_
      refine ⟨_, [_], [], rfl, .cons .hd .nil, ?_, ?_⟩
      · simp_all [retOf] <;> omega
      · simp_all [setCells, putAll, avCells] <;> omega

/- disk.Disk).Arm -/
set_option maxRecDepth 100000 in
set_option maxHeartbeats 400000 in
theorem disk_Arm (db : Nat) (n a : Int) (x y : AV) (d : Bool) (k : Int) : Triple Try.prog 57 [.v (.pointer (some ⟨db, 0, none⟩)), .int k] [.box db [.int n, x, y, .int a, .v (.bool d)]] (fun r h' => r = .tup [] ∧ h' = [.box db [.int n, x, y, .int (if k < 0 then -1 else k), .v (.bool d)]]) := by
  refine triple_of Try.func57 rfl (by kernel_rfl) rfl (by simp) ?_
  refine aSeq ?_
  refine aReg ?_
  refine sp pM ?_
  refine sp (by first | exact pPtrNil rfl (.inr rfl) rfl pt_78 rfl (rfl : _ = true) | exact pSpNil rfl (.inr rfl) rfl pt_78 (rfl : _ = true)) ?_
  refine oNil ?_
  refine aCondT rfl ?_
  refine aReg ?_
  refine sp pM ?_
  refine sp pM ?_
  refine sp (pMax2 rfl rfl rfl rfl) ?_
  refine sp pNv ?_
  refine sp (pFb fd_109_3) ?_
  refine sa ?_
  refine oStB rfl rfl rfl rfl (by repeat constructor) ty_3 rfl (Nat.le_of_ble_eq_true rfl) rfl ?_
  refine oNil ?_
  refine ⟨_, [_], [], rfl, .cons .hd .nil, rfl, ?_⟩
  simp only [setCells, putAll, avCells, List.cons.injEq, HA.box.injEq, AV.v.injEq, Value.int.injEq, true_and, and_true]
  split <;> omega

/- slices.Clone[[]byte,byte] -/
set_option maxRecDepth 100000 in
set_option maxHeartbeats 400000 in
theorem clone_bytes (es : List (List AV)) (hne : es ≠ []) (hz : ∀ z ∈ es, z.length = 1) (hl : es.length ≤ 1000000) : Triple Try.prog 92 [.sl 1 es] [] (fun r h' => ∃ g c, r = .v (slV g es.length c) ∧ h' = [.sl g c 5 1 es]) := by
  refine triple_of Try.func92 rfl (by kernel_rfl) rfl (by simp) ?_
  refine aSeq ?_
  refine aReg ?_
  refine sp pMa ?_
  refine oNil ?_
  refine aSeq ?_
  refine aSeq ?_
  refine aReg ?_
  refine sp pM ?_
  refine sp (pSlNe rfl (.inl rfl) rfl sl_48 hne (rfl : _ = false)) ?_
  refine oNil ?_
  refine aCondF rfl ?_
  refine aSkip ?_
  refine aSeq ?_
  refine aReg ?_
  refine sq ?_
  refine qLit (l := []) rfl rfl (by decide) us_48 ty_5 ze_5 rfl (by decide) (by decide) rfl rfl rfl (fun b5 => ?_)
  refine sp pM ?_
  refine sa ?_
  refine oApp rfl rfl (by decide) rfl (by repeat constructor) rfl (.inl rfl) el_48 sl_48 hz (by first | (simp; done) | (simp; omega)) (by first | (simp; done) | (simp; omega)) (fun g7 k7 => ?_)
  refine sp pMa ?_
  refine oNil ?_
  refine aRet ?_
  refine ⟨_, [_], [], rfl, .cons .hd .nil, g7, k7, ?_, rfl⟩
  simp [retOf]

theorem by1_len {b : BS} : ∀ z ∈ b.map by1, z.length = 1 := by
  intro z hz
  obtain ⟨n, _, rfl⟩ := List.mem_map.1 hz
  rfl
theorem by1_ne {b : BS} (h : b.length = 512) : b.map by1 ≠ [] := fun e => by have := congrArg List.length e; simp [h] at this
theorem cast_look (S : List (Int × BS)) (k : Int) : Cast (.tup [(kvGet (kvA S) k).getD (.v (.slice none 0 0)), .bool (kvGet (kvA S) k).isSome]) (.tup [bsA ((bGet S k).getD []), .v (.bool (bGet S k).isSome)]) := by
  rw [kvA_get]
  intro F w x hx
  cases h : bGet S k with
  | some b => rw [h] at hx; exact hx
  | none =>
    rw [h] at hx
    cases hx with
    | tup _ xs hl hR =>
      refine .tup _ xs hl (fun j av y hj hy => ?_)
      match j with
      | 0 =>
        simp at hj
        subst hj
        exact cast_nil F w y (hR 0 _ y rfl hy)
      | 1 =>
        simp at hj
        subst hj
        exact hR 1 _ y rfl hy
      | j + 2 => simp at hj
theorem rep_zeros : ∀ (F : Nat → Prop) (w : World) (j : Nat) (av : AV) (x : Value), (by1 0)[j]? = some av → (Value.int .u8 0).cells[j]? = some x → Rep F w av x := by
  intro F w j av x hj hx
  match j with
  | 0 => simp [by1] at hj; simp [Value.cells] at hx; subst hj; subst hx; exact .v _
  | j + 1 => simp [by1] at hj
theorem zeros_map : zeros.map by1 = List.replicate 512 (by1 0) := List.map_replicate

/- disk.Disk).firm -/
set_option maxRecDepth 100000 in
set_option maxHeartbeats 400000 in
theorem disk_firm (db bs : Nat) (i n a : Int) (y : AV) (d : Bool) (S : List (Int × BS)) (hS : ∀ b, bGet S i = some b → b.length = 512) : Triple Try.prog 89 [.v (.pointer (some ⟨db, 0, none⟩)), .int i] [.box db [.int n, .v (.map (some bs)), y, .int a, .v (.bool d)], .map bs (kvA S)] (fun r h' => ∃ g c, r = .v (slV g 512 c) ∧ h' = .sl g c 5 1 (((bGet S i).getD zeros).map by1) :: [.box db [.int n, .v (.map (some bs)), y, .int a, .v (.bool d)], .map bs (kvA S)]) := by
  refine triple_of Try.func89 rfl (by kernel_rfl) rfl (by simp) ?_
  refine aSeq ?_
  refine aReg ?_
  refine sp pMa ?_
  refine oNil ?_
  refine aSeq ?_
  refine aSeq ?_
  refine aReg ?_
  refine sp pM ?_
  refine sp pNv ?_
  refine sp (pFb fd_109_1) ?_
  refine sr (rB1 ty_107) ?_
  refine sp pM ?_
  refine sr (rCast (rLookOk rfl rfl rfl (by repeat constructor) mo_107 ze_48 rfl) (cast_look S i)) ?_
  refine sp pM ?_
  refine sp pX ?_
  refine sp pX ?_
  refine sp pMa ?_
  refine sp pMa ?_
  refine oNil ?_
  refine aSeq ?_
  refine aReg ?_
  refine sp pM ?_
  refine oNil ?_
  refine aCond rfl (fun c16 => ?_) (fun c16 => ?_)
  · skip
    refine aSeq ?_
    obtain ⟨b, hb⟩ := Option.isSome_iff_exists.1 c16
    have hbl := hS b hb
    have hbg : (bGet S i).getD [] = b := by rw [hb]; rfl
    have hbz : (bGet S i).getD zeros = b := by rw [hb]; rfl
    rw [hbg, hbz]
    refine aReg ?_
    refine sp pM ?_
    refine sa ?_
    refine aCall rfl rfl (by decide) rfl rfl .nil (clone_bytes (b.map by1) (by1_ne hbl) by1_len (by rw [List.length_map]; omega)) ?_
    rintro _ _ ⟨g, c, rfl, rfl⟩
    refine sp pMa ?_
    refine oNil ?_
    refine aRet ?_
    refine ⟨_, _ :: [_, _], [], rfl, tk_refl, g, c, ?_, rfl⟩
    show AV.v (slV g _ c) = _
    rw [List.length_map, hbl]
  · skip
    refine aSkip ?_
    refine aSeq ?_
    have hbz : (bGet S i).getD zeros = zeros := by
      cases h : bGet S i with
      | none => rfl
      | some b => rw [h] at c16; cases c16
    rw [hbz]
    refine aReg ?_
    refine sq ?_
    refine qMake (n := 512) (zs := by1 0) rfl rfl (by decide) rfl rfl rfl rfl el_48 ze_5 rfl rfl rep_zeros (by decide) (by decide) (fun b19 => ?_)
    refine sp pMa ?_
    refine oNil ?_
    refine aRet ?_
    refine ⟨_, _ :: [_, _], [], rfl, tk_refl, some b19, 512, rfl, ?_⟩
    rw [zeros_map]

end A
end Go.Proofs.Ytkgemkadebgeoaa
