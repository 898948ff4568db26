/- What functions of the program compute: ref03c -/
import Derived.Test.YtkgemkadebgeoaaBref03b
import Derived.Test.YtkgemkadebgeoaaProg
import Derived.KernelRfl
set_option linter.unusedVariables false
set_option linter.unusedSimpArgs false
namespace Go.Proofs.Ytkgemkadebgeoaa
namespace A

theorem el_81 : elemOf Try.prog 81 = some (48, 1, 24) := by kernel_rfl
theorem us_81 : Try.prog.underlying 81 = some (.slice 48) := by kernel_rfl
theorem write_act {w : DW} {i : Int} {b : BS} (h : w.dead = false) (h0 : 0 ≤ i) (hi : i < (w.safe.length : Int)) (hb : b.length = 512) : w.write i b = (if w.act.2 then ({ w.act.1 with waits := w.waits.set i.toNat b }, 0) else (w.act.1, 7)) := by
  rw [DW.write, if_neg (by simp [h]), if_neg (by omega)]
theorem rows_set {l : List BS} {i : Nat} {x b : BS} : (l.map rowC).set i (setCells (rowC x) 0 (avCells (.sl 1 (b.map by1)))) = (l.set i b).map rowC := by
  rw [show setCells (rowC x) 0 (avCells (AV.sl 1 (b.map by1))) = rowC b from rfl, List.map_set]
theorem getK_step (w : DW) (i : Nat) : ((List.range i).map w.get).map rowC ++ [rowC (w.get i)] = ((List.range (i + 1)).map w.get).map rowC := by
  rw [List.range_succ]
  simp
theorem rep_nils : ∀ (F : Nat → Prop) (w : World) (j : Nat) (av : AV) (x : Value), (rowC [])[j]? = some av → (Value.slice none 0 0).cells[j]? = some x → Rep F w av x := by
  intro F w j av x hj hx
  match j with
  | 0 => simp [rowC] at hj; simp [Value.cells] at hx; subst hj; subst hx; exact .sl0 _ _ _
  | j + 1 => simp [rowC] at hj
theorem rows_rep (n : Nat) : List.replicate n (rowC []) = (List.replicate n ([] : BS)).map rowC := List.map_replicate.symm
theorem zrow_step (n : Nat) : (List.replicate n zeros).map rowC ++ [rowC zeros] = (List.replicate (n + 1) zeros).map rowC := by
  rw [List.replicate_succ', List.map_append]
  rfl

/- waymarkref03.Write -/
def ref03_Write_r9_T : Bool × List (List Nat × List Nat) := (true, [([], []), ([0], [0]), ([], []), ([], []), ([], []), ([3, 4], [3, 4]), ([1, 2, 0, 1, 2, 3, 4, 5], [1, 2]), ([6, 5, 5, 0, 1, 2, 3, 4, 5], [5, 6])])
def ref03_Write_r9_B : List Nat := [0, 1, 0, 0, 0, 24, 63, 127]
theorem ref03_Write_r9_t : Go.Proofs.YtkgemkadebgeoaaW.PrintLast.rtab .any (Go.Proofs.YtkgemkadebgeoaaW.PrintLast.opsOf Try.f86 9) = ref03_Write_r9_T := by kernel_rfl
theorem ref03_Write_r9_b : Go.Proofs.YtkgemkadebgeoaaW.PrintLast.waitsOk ref03_Write_r9_T.2 ref03_Write_r9_B = true := by kernel_rfl
set_option maxRecDepth 100000 in
set_option maxHeartbeats 1000000 in
theorem ref03_Write (w : DW) (i : Int) (b : BS) (f : Fit w) (ha : w.armed ≤ 9223372036854775807) (hb : b.length ≤ 1000) : Triple Try.prog 86 [.agg (dwC w), .int i, .sl 1 (b.map by1)] [] (fun q h' => q = .tup [.agg (dwC (w.write i b).1), .int (w.write i b).2] ∧ h' = []) := by
  have hwn := f.wn
  have hn2 := f.n2
  have hn1 := f.n1
  refine triple_ofR Try.func86 rfl (by kernel_rfl) rfl (by simp) ?_
  refine aSeq ?_
  refine aReg ?_
  refine sq ?_
  refine qBox rfl rfl (by decide) rfl rfl (fun b3 => ?_)
  refine sq ?_
  refine qAlloc rfl rfl (by decide) ze_83 rfl (fun b6 => ?_)
  refine sp pMa ?_
  refine oNil ?_
  refine aSeq ?_
  refine aSeq ?_
  refine aReg ?_
  refine sp (pFb fd_83_3) ?_
  refine sr (rB1 ty_4) ?_
  refine oNil ?_
  refine aCond rfl (fun c11 => ?_) (fun c11 => ?_)
  · skip
    refine aSeq ?_
    refine aReg ?_
    refine sr (by first | exact rBW ty_83 | exact rBA ty_83) ?_
    refine sa ?_
    refine oStB rfl rfl rfl rfl (by repeat constructor) ty_83 rfl (Nat.le_of_ble_eq_true rfl) rfl ?_
    refine sp pMa ?_
    refine oNil ?_
    refine aRet ?_
    rw [write_dead c11]
    refine ⟨[.agg (dwC w), .int 7], [], _, .cons (.cellA (cs := dwC w) rfl (by first | exact .head _ | exact .tail _ (.head _) | exact .tail _ (.tail _ (.head _)) | exact .tail _ (.tail _ (.tail _ (.head _)))) ty_83) (.cons (.tmp rfl) .nil), .nil, rfl, rfl⟩
  · skip
    refine aSkip ?_
    refine aSeq ?_
    refine aSeq ?_
    refine aReg ?_
    refine sp pM ?_
    refine sp pB ?_
    refine sp pM ?_
    refine oSplitDec 15 rfl (fun c15 => ?_) (fun c15 => ?_)
    · skip
      refine gf ?_
      refine gf ?_
      refine gf ?_
      refine gf ?_
      refine gf ?_
      refine sp pK ?_
      refine sp pM ?_
      refine gf ?_
      refine gf ?_
      refine gf ?_
      refine sp pK ?_
      refine oNil ?_
      refine aCondT rfl ?_
      refine aSeq ?_
      refine aReg ?_
      refine sr (by first | exact rBW ty_83 | exact rBA ty_83) ?_
      refine sa ?_
      refine oStB rfl rfl rfl rfl (by repeat constructor) ty_83 rfl (Nat.le_of_ble_eq_true rfl) rfl ?_
      refine sp pMa ?_
      refine oNil ?_
      refine aRet ?_
      rw [write_arg (by simpa using c11) (by first | exact .inl (by assumption) | exact .inr (.inl (by omega)) | exact .inr (.inr (by omega)))]
      refine ⟨[.agg (dwC w), .int 1], [], _, .cons (.cellA (cs := dwC w) rfl (by first | exact .head _ | exact .tail _ (.head _) | exact .tail _ (.tail _ (.head _)) | exact .tail _ (.tail _ (.tail _ (.head _)))) ty_83) (.cons (.tmp rfl) .nil), .nil, rfl, rfl⟩
    · skip
      refine gp pM ?_
      refine gp (pFb fd_83_0) ?_
      refine gr (rB1 ty_81) ?_
      refine gp (by first | exact pLm sl_81 | exact pLs sl_81 | exact pLv sl_81) ?_
      refine gp pB ?_
      refine sp pK ?_
      refine sp pM ?_
      refine oSplitDec 22 rfl (fun c22 => ?_) (fun c22 => ?_)
      · skip
        refine gf ?_
        refine gf ?_
        refine gf ?_
        refine sp pK ?_
        refine oNil ?_
        refine aCondT rfl ?_
        refine aSeq ?_
        refine aReg ?_
        refine sr (by first | exact rBW ty_83 | exact rBA ty_83) ?_
        refine sa ?_
        refine oStB rfl rfl rfl rfl (by repeat constructor) ty_83 rfl (Nat.le_of_ble_eq_true rfl) rfl ?_
        refine sp pMa ?_
        refine oNil ?_
        refine aRet ?_
        rw [write_arg (by simpa using c11) (by first | exact .inl (by assumption) | exact .inr (.inl (by omega)) | exact .inr (.inr (by omega)))]
        refine ⟨[.agg (dwC w), .int 1], [], _, .cons (.cellA (cs := dwC w) rfl (by first | exact .head _ | exact .tail _ (.head _) | exact .tail _ (.tail _ (.head _)) | exact .tail _ (.tail _ (.tail _ (.head _)))) ty_83) (.cons (.tmp rfl) .nil), .nil, rfl, rfl⟩
      · skip
        refine gp pM ?_
        refine gp (by first | exact pLm sl_48 | exact pLs sl_48) ?_
        refine gp pB ?_
        refine sp pK ?_
        refine oNil ?_
        refine aCondNe rfl (fun c26 => ?_) (fun c26 => ?_)
        · skip
          refine aSeq ?_
          refine aReg ?_
          refine sr (by first | exact rBW ty_83 | exact rBA ty_83) ?_
          refine sa ?_
          refine oStB rfl rfl rfl rfl (by repeat constructor) ty_83 rfl (Nat.le_of_ble_eq_true rfl) rfl ?_
          refine sp pMa ?_
          refine oNil ?_
          refine aRet ?_
          rw [write_arg (by simpa using c11) (by first | exact .inl (by assumption) | exact .inr (.inl (by omega)) | exact .inr (.inr (by omega)))]
          refine ⟨[.agg (dwC w), .int 1], [], _, .cons (.cellA (cs := dwC w) rfl (by first | exact .head _ | exact .tail _ (.head _) | exact .tail _ (.tail _ (.head _)) | exact .tail _ (.tail _ (.tail _ (.head _)))) ty_83) (.cons (.tmp rfl) .nil), .nil, rfl, rfl⟩
        · skip
          refine aSkip ?_
          refine aSeq ?_
          have hbl : b.length = 512 := by omega
          have hwa := write_act (w := w) (i := i) (b := b) (by simpa using c11) (by omega) (by omega) hbl
          refine aReg ?_
          refine sr (by first | exact rBW ty_83 | exact rBA ty_83) ?_
          refine sq ?_
          refine qCall0 rfl rfl (by decide) rfl rfl (ref03_act w ha) ?_
          rintro _ _ ⟨rfl, rfl⟩
          refine sp pM ?_
          refine sp pX ?_
          refine sp pX ?_
          refine sq ?_
          refine qAlloc rfl rfl (by decide) ze_83 rfl (fun b8 => ?_)
          refine sa ?_
          refine oStB rfl rfl rfl rfl (by repeat constructor) ty_83 rfl (Nat.le_of_ble_eq_true rfl) rfl ?_
          refine sp pMa ?_
          refine oNil ?_
          refine aSeq ?_
          refine aSeq ?_
          refine aReg ?_
          refine sp pM ?_
          refine sp pNo ?_
          refine oNil ?_
          refine aCondNot rfl (fun c34 => ?_) (fun c34 => ?_)
          · skip
            refine aSeq ?_
            refine aReg ?_
            refine sr (by first | exact rBW ty_83 | exact rBA ty_83) ?_
            refine sa ?_
            refine oStB rfl rfl rfl rfl (by repeat constructor) ty_83 rfl (Nat.le_of_ble_eq_true rfl) rfl ?_
            refine sp pMa ?_
            refine oNil ?_
            refine aRet ?_
            have ha2 : w.act.2 = false := by simpa using c34
            rw [hwa, if_neg (by rw [ha2]; decide)]
            refine ⟨[.agg (dwC w.act.1), .int 7], [], _, .cons (.cellA (cs := dwC w.act.1) rfl (by first | exact .head _ | exact .tail _ (.head _) | exact .tail _ (.tail _ (.head _)) | exact .tail _ (.tail _ (.tail _ (.head _)))) ty_83) (.cons (.tmp rfl) .nil), .nil, rfl, rfl⟩
          · skip
            refine aSkip ?_
            refine aSeq ?_
            have ha2 : w.act.2 = true := by simpa using c34
            rw [if_pos ha2] at hwa
            have hww : w.act.1.waits.length = w.safe.length := hwn
            refine aReg ?_
            refine sq ?_
            refine qLit (l := []) rfl rfl (by decide) us_81 ty_48 ze_48 rfl (by decide) (by decide) rfl rfl rfl (fun b36 => ?_)
            refine sp (pFb fd_83_1) ?_
            refine sr (rB1 ty_81) ?_
            refine sa ?_
            refine oApp rfl rfl (by decide) rfl (by repeat constructor) rfl (.inl rfl) el_81 sl_81 rowC_len (by simp; omega) (by simp; omega) (fun g39 k39 => ?_)
            rw [show w.act.1.waits = w.waits from rfl]
            refine sp (pFb fd_83_1) ?_
            refine sa ?_
            refine oStB rfl rfl rfl rfl (by repeat constructor) ty_81 rfl (Nat.le_of_ble_eq_true rfl) rfl ?_
            refine oNil ?_
            refine aSeq ?_
            obtain ⟨x, hx⟩ : ∃ x, w.waits[i.toNat]? = some x := ⟨_, List.getElem?_eq_getElem (by omega)⟩
            refine aSome (g := g39) (.tl .hd) (ne_map (by rw [hwn]; exact hn1)) (fun gb hgb => ?_)
            subst hgb
            refine aDrawT ref03_Write_r9_t ref03_Write_r9_b [7] 8 #[false, false, false, false, false, false, false, false] (by kernel_rfl) rfl rfl (fun HT => ?_)
            refine dp HT 0 rfl (pFb fd_83_1) ?_
            refine dr HT 1 rfl (rB1 ty_81) ?_
            refine dp HT 2 rfl pM ?_
            refine dp HT 4 rfl pM ?_
            refine dGo ?_
            refine e1 HT 3 rfl ?_
            refine qLit (l := []) rfl rfl (by decide) us_48 ty_5 ze_5 rfl (by decide) (by decide) rfl rfl rfl (fun b44 => ?_)
            refine eOneS (i := 5) #[true, true, true, true, true, true, false, false] rfl (HT.one (by kernel_rfl)) (by decide) ?_
            · skip
              refine stA (hx := [.sl (some b44) 0 5 1 []]) (wantN rfl) (fun t ht => by cases ht <;> decide) (.cons (by repeat constructor) .nil) (by repeat constructor) ?_
              refine oApp rfl rfl (by decide) rfl (by repeat constructor) rfl (.inl rfl) el_48 sl_48 by1_len (by simp; omega) (by simp; omega) (fun g46 k46 => ?_)
              refine undel (d := 46) rfl ?_
              dsimp only [List.cons_append, List.nil_append]
              refine ep HT 6 rfl (pIdxO rfl rfl rfl es_81 (by omega) (by simp; omega)) ?_
              first | refine fWeak (weak_settle (k := 46) rfl .hd (by simp)) ?_ | skip
              refine eLast ?_
              first | refine fWeak (weak_settle (k := 46) rfl .hd (by simp)) ?_ | skip
              refine f1 HT 7 rfl ?_
              refine oStS (i := i.toNat) (j := 0) rfl rfl rfl rfl (by repeat constructor) ty_48 rfl (by omega) (map_get1 (f := rowC) hx) (by decide) rfl ?_
              refine fE HT ?_
              clear HT
              refine aSeq ?_
              refine aReg ?_
              refine sr (by first | exact rBW ty_83 | exact rBA ty_83) ?_
              refine oWeak (weak_deep (k := 48) (b := .agg (dwC { w.act.1 with waits := w.waits.set i.toNat b })) rfl (.cons .hd .nil) (.agg (.same (.sl (List.mem_singleton.2 rfl) (by simp) (by show Deep _ _ ((w.waits.set i.toNat b).map rowC); rw [← rows_set (x := x)]; exact Deep.refl) (.same (.same (.row .nil))))) (.row .nil))) ?_
              refine sa ?_
              refine oStB rfl rfl rfl rfl (by repeat constructor) ty_83 rfl (Nat.le_of_ble_eq_true rfl) rfl ?_
              refine sp pMa ?_
              refine oNil ?_
              refine aRet ?_
              rw [hwa]
              refine ⟨[.agg (dwC { w.act.1 with waits := w.waits.set i.toNat b }), .int 0], [], _, .cons (.cellA (cs := dwC { w.act.1 with waits := w.waits.set i.toNat b }) rfl (by first | exact .head _ | exact .tail _ (.head _) | exact .tail _ (.tail _ (.head _)) | exact .tail _ (.tail _ (.tail _ (.head _)))) ty_83) (.cons (.tmp rfl) .nil), .nil, rfl, rfl⟩

end A
end Go.Proofs.Ytkgemkadebgeoaa
