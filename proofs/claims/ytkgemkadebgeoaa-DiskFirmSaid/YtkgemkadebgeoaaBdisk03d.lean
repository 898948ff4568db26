/- What functions of the program compute: disk03d -/
import Derived.Test.YtkgemkadebgeoaaBdisk03c
import Derived.Test.YtkgemkadebgeoaaProg
import Derived.KernelRfl
set_option linter.unusedVariables false
set_option linter.unusedSimpArgs false
namespace Go.Proofs.Ytkgemkadebgeoaa
namespace A

theorem es_103 : elemSize Try.prog 103 = some 1 := by kernel_rfl
theorem es_87 : elemSize Try.prog 87 = some 2 := by kernel_rfl
theorem fd_101_0 : fieldOf Try.prog 101 0 = some (0, 1, false) := by kernel_rfl
theorem fd_101_1 : fieldOf Try.prog 101 1 = some (1, 1, false) := by kernel_rfl
theorem sl_87 : isSl Try.prog 87 = true := by kernel_rfl
theorem ty_48 : tyOf Try.prog 48 = some (1, false) := by kernel_rfl
theorem map_get1 {α : Type} {f : α → List AV} {l : List α} {i : Nat} {a : α} (h : l[i]? = some a) : (l.map f)[i]? = some (f a) := by rw [List.getElem?_map, h]; rfl
theorem torn_map (b o : BS) : (b.map by1).take (o.map by1).length ++ (o.map by1).drop (b.map by1).length = (torn b o).map by1 := by simp [torn, List.map_take, List.map_drop]
def crashK (w : DW) (l : List DTear) (k : Nat) : List BS := ((w.waiting.zip l).take k).foldl (crash1 w) w.safe
theorem crashK_step {w : DW} {l : List DTear} {k i : Nat} {t : DTear} (hi : w.waiting[k]? = some i) (ht : l[k]? = some t) : crashK w l (k + 1) = crash1 w (crashK w l k) (i, t) := by
  have hz : (w.waiting.zip l)[k]? = some (i, t) := by rw [List.getElem?_zip_eq_some]; exact ⟨hi, ht⟩
  unfold crashK
  rw [List.take_add_one, hz]
  simp [List.foldl_append]
theorem crashK_all {w : DW} {l : List DTear} {k : Nat} (h : w.waiting.length ≤ k ∨ l.length ≤ k) : crashK w l k = (w.waiting.zip l).foldl (crash1 w) w.safe := by
  unfold crashK
  rw [List.take_of_length_le]
  rw [List.length_zip]
  omega
theorem waiting_lt {w : DW} {k i : Nat} (h : w.waiting[k]? = some i) : i < w.waits.length ∧ 0 < (w.waits.getD i []).length := by
  have hm := List.mem_of_getElem? h
  unfold DW.waiting at hm
  simpa using hm
theorem Rel.wl {n : Nat} {S W : List (Int × BS)} {w : DW} (r : Rel n S W w) : w.waiting.length ≤ 1024 := by
  have h1 : w.waiting.length ≤ (List.range w.waits.length).length := List.length_filter_le _ _
  rw [List.length_range, r.wn] at h1
  have := r.n2
  omega
theorem waiting_ne {w : DW} {k j i q : Nat} (hk : w.waiting[k]? = some i) (hj : w.waiting[j]? = some q) (hkj : k < j) : q ≠ i := by
  have hp : w.waiting.Pairwise (· < ·) := List.pairwise_lt_range.filter _
  rw [List.pairwise_iff_getElem] at hp
  have h1 := (List.getElem?_eq_some_iff.1 hk).1
  have h2 := (List.getElem?_eq_some_iff.1 hj).1
  have := hp k j h1 h2 hkj
  rw [List.getElem?_eq_getElem h1] at hk
  rw [List.getElem?_eq_getElem h2] at hj
  cases hk; cases hj
  omega
/-- What the maps are behind k of those that waited. -/
structure Mid (n : Nat) (S W T : List (Int × BS)) (w : DW) (l : List DTear) (k : Nat) : Prop where
  kw : k ≤ w.waiting.length
  kl : k ≤ l.length
  rel : Rel n T W { w with safe := crashK w l k }
  rest : ∀ j i, k ≤ j → w.waiting[j]? = some i → bGet T i = bGet S i
theorem mid0 {n : Nat} {S W : List (Int × BS)} {w : DW} (r : Rel n S W w) (l : List DTear) : Mid n S W S w l 0 := ⟨Nat.zero_le _, Nat.zero_le _, r, fun j i _ _ => rfl⟩
theorem Mid.next {n : Nat} {S W T : List (Int × BS)} {w : DW} {l : List DTear} {k i : Nat} {t : DTear} (m : Mid n S W T w l k) (r : Rel n S W w) (hi : w.waiting[k]? = some i) (ht : l[k]? = some t) :
    Mid n S W (if t.kind = 1 then bPut T i ((bGet W i).getD []) else if t.kind = 2 then bPut T i (torn t.b ((bGet T i).getD zeros)) else T) w l (k + 1) := by
  obtain ⟨h1, h2⟩ := waiting_lt hi
  refine ⟨(List.getElem?_eq_some_iff.1 hi).1, (List.getElem?_eq_some_iff.1 ht).1, ?_, fun j q hj hq => ?_⟩
  · rw [crashK_step hi ht]
    exact r.crash1 m.rel (by rw [← r.wn]; exact h1) h2 (m.rest k i (Nat.le_refl _) hi) t
  · have hne := waiting_ne hi hq (by omega)
    have hne2 : ¬ ((q : Int) = (i : Int)) := by omega
    have := m.rest j q (by omega) hq
    split
    · rw [bGet_put, if_neg hne2]; exact this
    · split
      · rw [bGet_put, if_neg hne2]; exact this
      · exact this
theorem Mid.done {n : Nat} {S W T : List (Int × BS)} {w : DW} {l : List DTear} {k : Nat} (m : Mid n S W T w l k) (r : Rel n S W w) (h : w.waiting.length ≤ k ∨ l.length ≤ k) : Rel n T [] (w.crash l) := by
  have := m.rel.crashed
  rw [crashK_all h] at this
  unfold DW.crash
  rw [r.sn]
  exact this
abbrev waitA (w : DW) : AV := .sl 1 ((w.waiting.map (fun i : Nat => (i : Int))).map intA)
theorem waitA_get {w : DW} {k i : Nat} (h : w.waiting[k]? = some i) : ((w.waiting.map (fun i : Nat => (i : Int))).map intA)[k]? = some [.int (i : Int)] := by simp [h, intA]
theorem waitA_len (w : DW) : ((w.waiting.map (fun i : Nat => (i : Int))).map intA).length = w.waiting.length := by simp
theorem cast_look1 (S : List (Int × BS)) (k : Int) : Cast ((kvGet (kvA S) k).getD (.v (.slice none 0 0))) (bsA ((bGet S k).getD [])) := by
  rw [kvA_get]
  cases h : bGet S k with
  | some b => exact Cast.refl
  | none => exact cast_nil

/- disk.Disk).Crash -/
def disk_Crash_r7_T : Bool × List (List Nat × List Nat) := (true, [([], []), ([0], [0]), ([1], [1]), ([2], [2]), ([], []), ([], []), ([5], [5]), ([6], [6]), ([7], [7]), ([], []), ([8, 9], [8, 9]), ([3, 4, 10, 0, 1, 2, 3, 4, 5, 6, 7, 8, 9, 10], [3, 4, 10])])
def disk_Crash_r7_B : List Nat := [0, 1, 3, 7, 0, 0, 32, 96, 224, 0, 992, 2047]
theorem disk_Crash_r7_t : Go.Proofs.YtkgemkadebgeoaaW.PrintLast.rtab .any (Go.Proofs.YtkgemkadebgeoaaW.PrintLast.opsOf Try.f46 7) = disk_Crash_r7_T := by kernel_rfl
theorem disk_Crash_r7_b : Go.Proofs.YtkgemkadebgeoaaW.PrintLast.waitsOk disk_Crash_r7_T.2 disk_Crash_r7_B = true := by kernel_rfl
set_option maxRecDepth 100000 in
set_option maxHeartbeats 2000000 in
theorem disk_Crash (db bs bw n : Nat) (S W : List (Int × BS)) (w : DW) (r : Rel n S W w) (l : List DTear) : Triple Try.prog 46 [.v (.pointer (some ⟨db, 0, none⟩)), .sl 2 (l.map tearC)] [.box db [.int n, .v (.map (some bs)), .v (.map (some bw)), .int w.armed, .v (.bool w.dead)], .map bs (kvA S), .map bw (kvA W)] (fun q h' => q = .tup [] ∧ ∃ S', Rel n S' [] (w.crash l) ∧ h' = [.box db [.int n, .v (.map (some bs)), .v (.map (some bw)), .int (w.crash l).armed, .v (.bool (w.crash l).dead)], .map bs (kvA S'), .map bw (kvA [])]) := by
  have hwl := r.wl
  refine triple_of Try.func46 rfl (by kernel_rfl) rfl (by simp) ?_
  refine aSeq ?_
  refine aSeq ?_
  refine aReg ?_
  refine sp pM ?_
  refine sp (by first | exact pPtrNil rfl (.inl rfl) rfl pt_78 rfl (rfl : _ = false) | exact pSpNil rfl (.inl rfl) rfl pt_78 (rfl : _ = false)) ?_
  refine sp pM ?_
  refine gp pM ?_
  refine gp pNv ?_
  refine gp (pFb fd_109_0) ?_
  refine gr (rB1 ty_3) ?_
  refine gp (pBin rfl rfl rfl rfl (by have := r.n1; rw [show ((n : Int) == 0) = false by simp; omega] : _ = Value.bool false)) ?_
  refine sp pK ?_
  refine oNil ?_
  refine aCondF rfl ?_
  refine aSkip ?_
  refine aSeq ?_
  refine aSeq ?_
  refine aReg ?_
  refine sp pM ?_
  refine sa ?_
  refine aCall rfl rfl (by decide) rfl rfl tk_refl (disk_Waits db bs bw n S W w r) ?_
  rintro _ _ ⟨g17, c17, rfl, rfl⟩
  refine oWeak (weak_settle (k := 17) rfl .hd (waitA_len w).symm) ?_
  refine sp (pLenS' (pLenS rfl rfl sl_103) (waitA_len w)) ?_
  refine sp pM ?_
  refine oNil ?_
  refine aBlock ?_
  refine aLoopI (α := Nat × List (Int × BS)) (fun (k, T) => Mid n S W T w l k) (fun (k, T) => ([(0, .v (.pointer (some ⟨db, 0, none⟩))), (1, .sl 2 (l.map tearC)), (17, waitA w), (18, .int w.waiting.length), (19, .int k)], [.box db [.int n, .v (.map (some bs)), .v (.map (some bw)), .int w.armed, .v (.bool w.dead)], .map bs (kvA T), .map bw (kvA W)])) (fun (k, T) => w.waiting.length - k) (0, S) ?_ ?_ ?_
  · skip
    exact mid0 r l
  · skip
    exact weak_sub ⟨rfl, rfl, rfl, rfl, rfl, trivial⟩ tk_refl
  · rintro ⟨k, T⟩ m
    skip
    refine aSeq ?_
    refine aReg ?_
    refine sp pB ?_
    refine oNil ?_
    refine aSeq ?_
    refine aCondDec rfl (fun c20 => ?_) (fun c20 => ?_)
    · skip
      refine aSkip ?_
      refine aSeq ?_
      refine aBlock ?_
      refine aSeq ?_
      refine aReg ?_
      refine sp pM ?_
      obtain ⟨i, hi⟩ : ∃ i, w.waiting[k]? = some i := ⟨_, List.getElem?_eq_getElem (by omega)⟩
      refine sp (pIdxS rfl rfl rfl es_103 (by omega) (waitA_get hi)) ?_
      refine sr (by first | exact rS1 ty_3 | exact rB1 ty_3) ?_
      refine sp pMa ?_
      refine sp pMa ?_
      refine oNil ?_
      refine aSeq ?_
      refine aSeq ?_
      refine aReg ?_
      refine sp pM ?_
      refine sp pM ?_
      refine sp (by first | exact pLm sl_87 | exact pLs sl_87 | exact pLv sl_87) ?_
      refine sp pB ?_
      refine oNil ?_
      refine aCondDec rfl (fun c27 => ?_) (fun c27 => ?_)
      · skip
        refine aExit rfl ?_
        refine aSeq ?_
        refine aReg ?_
        refine sp pM ?_
        refine sp (by first | exact pNv | exact pNs) ?_
        refine sp (by first | exact pFb fd_109_2 | exact pFs fd_109_2) ?_
        refine sr (by first | exact rS1 ty_107 | exact rB1 ty_107) ?_
        refine sa ?_
        refine oClearM rfl rfl rfl (by repeat constructor) mo_107 ?_
        refine oNil ?_
        refine aReg ?_
        refine sp pM ?_
        refine sp pM ?_
        refine sp (by first | exact pNv | exact pNs) ?_
        refine sp (by first | exact pFb fd_109_4 | exact pFs fd_109_4) ?_
        refine sa ?_
        refine oStB rfl rfl rfl rfl (by repeat constructor) ty_4 rfl (Nat.le_of_ble_eq_true rfl) rfl ?_
        refine sp (by first | exact pNv | exact pNs) ?_
        refine sp (by first | exact pFb fd_109_3 | exact pFs fd_109_3) ?_
        refine sa ?_
        refine oStB rfl rfl rfl rfl (by repeat constructor) ty_3 rfl (Nat.le_of_ble_eq_true rfl) rfl ?_
        refine oNil ?_
        have hdn := m.done r (by first | exact .inl (by omega) | exact .inr (by omega))
        refine ⟨_, [_, _, _], [], rfl, .cons .hd (.cons (.tl .hd) (.cons .hd .nil)), rfl, T, hdn, rfl⟩
      · skip
        refine aSkip ?_
        refine aSeq ?_
        refine aReg ?_
        refine sp pM ?_
        refine sp pM ?_
        obtain ⟨t, ht⟩ : ∃ t, l[k]? = some t := ⟨_, List.getElem?_eq_getElem (by omega)⟩
        refine sp (pIdxS rfl rfl rfl es_87 (by omega) (map_get1 (f := tearC) ht)) ?_
        refine sp (by first | exact pFb fd_101_0 | exact pFs fd_101_0) ?_
        refine sr (by first | exact rS1 ty_3 | exact rB1 ty_3) ?_
        refine oNil ?_
        refine aBlock ?_
        refine aSeq ?_
        refine aReg ?_
        refine sp pB ?_
        refine sp pMa ?_
        refine oNil ?_
        refine aCondEq rfl (fun c33 => ?_) (fun c33 => ?_)
        · skip
          refine aDrawT disk_Crash_r7_t disk_Crash_r7_b [11] 12 #[false, false, false, false, false, false, false, false, false, false, false, false] (by kernel_rfl) rfl rfl (fun HT => ?_)
          refine dp HT 0 rfl pM ?_
          refine dp HT 1 rfl (by first | exact pNv | exact pNs) ?_
          refine dp HT 2 rfl (by first | exact pFb fd_109_1 | exact pFs fd_109_1) ?_
          refine dr HT 3 rfl (by first | exact rS1 ty_107 | exact rB1 ty_107) ?_
          refine dp HT 4 rfl pM ?_
          refine dp HT 5 rfl pM ?_
          refine dp HT 6 rfl (by first | exact pNv | exact pNs) ?_
          refine dp HT 7 rfl (by first | exact pFb fd_109_2 | exact pFs fd_109_2) ?_
          refine dr HT 8 rfl (by first | exact rS1 ty_107 | exact rB1 ty_107) ?_
          refine dp HT 9 rfl pM ?_
          refine dr HT 10 rfl (rCast (rLook rfl rfl rfl (by repeat constructor) mo_107 ze_48 rfl) (cast_look1 W i)) ?_
          refine dGo ?_
          refine eLast ?_
          refine f1 HT 11 rfl ?_
          refine oMapSet rfl rfl rfl rfl rfl (by repeat constructor) mo_107 ?_
          refine fE HT ?_
          clear HT
          refine aReg ?_
          refine sp pAd ?_
          refine sp pM ?_
          refine oNil ?_
          refine ⟨(k + 1, _), m.next r hi ht, by show w.waiting.length - (k + 1) < w.waiting.length - k; have := m.kw; omega, ?_⟩
          dsimp only
          first
            | (rw [if_pos (by assumption), ← kvA_put]
               exact weak_sub ⟨rfl, rfl, rfl, rfl, gInt rfl (by simp), trivial⟩ (.cons (.tl .hd) (.cons .hd (.cons .hd .nil))))
            | (rw [if_neg (by assumption), if_pos (by assumption), ← kvA_put]
               exact weak_sub ⟨rfl, rfl, rfl, rfl, gInt rfl (by simp), trivial⟩ (by repeat constructor))
            | (rw [if_neg (by assumption), if_neg (by assumption)]
               exact weak_sub ⟨rfl, rfl, rfl, rfl, gInt rfl (by simp), trivial⟩ (by repeat constructor))
        · skip
          refine aSeq ?_
          refine aReg ?_
          refine sp pB ?_
          refine sp pMa ?_
          refine oNil ?_
          refine aCondEq rfl (fun c46 => ?_) (fun c46 => ?_)
          · skip
            refine aSeq ?_
            refine aReg ?_
            refine sp pM ?_
            refine sp pM ?_
            refine sa ?_
            refine aCall rfl rfl (by decide) rfl rfl (.cons (by repeat constructor) (.cons (by repeat constructor) .nil)) (disk_firm _ _ i _ _ _ _ T (fun b hb => (m.rel.sr _ b hb).2.2)) ?_
            rintro _ _ ⟨g, c, rfl, rfl⟩
            refine sp pMa ?_
            refine oNil ?_
            refine aSeq ?_
            refine aReg ?_
            refine sp pM ?_
            refine sp pM ?_
            refine sp pM ?_
            refine sp (pIdxS rfl rfl rfl es_87 (by omega) (map_get1 (f := tearC) ht)) ?_
            refine sp (by first | exact pFb fd_101_1 | exact pFs fd_101_1) ?_
            refine sr (by first | exact rS1 ty_48 | exact rB1 ty_48) ?_
            refine oSome (g := g) (by repeat constructor) (by1_ne (m.rel.s512 i)) (fun gb hgb => ?_)
            subst hgb
            refine sa ?_
            refine oCopyS rfl rfl (by decide) rfl (by repeat constructor) (by rw [List.length_map]; exact (m.rel.s512 i).symm) rfl el_48 ?_
            rw [torn_map]
            refine oNil ?_
            refine aReg ?_
            refine sp pM ?_
            refine sp (by first | exact pNv | exact pNs) ?_
            refine sp (by first | exact pFb fd_109_1 | exact pFs fd_109_1) ?_
            refine sr (by first | exact rS1 ty_107 | exact rB1 ty_107) ?_
            refine sp pM ?_
            refine sp pM ?_
            refine oWeak (weak_settle (k := 63) rfl (by repeat constructor) (by rw [List.length_map]; have := m.rel.s512 i; simp only [torn, List.length_append, List.length_take, List.length_drop]; omega)) ?_
            refine sa ?_
            refine oMapSet rfl rfl rfl rfl rfl (by repeat constructor) mo_107 ?_
            refine oNil ?_
            refine aReg ?_
            refine sp pAd ?_
            refine sp pM ?_
            refine oNil ?_
            refine ⟨(k + 1, _), m.next r hi ht, by show w.waiting.length - (k + 1) < w.waiting.length - k; have := m.kw; omega, ?_⟩
            dsimp only
            first
              | (rw [if_pos (by assumption), ← kvA_put]
                 exact weak_sub ⟨rfl, rfl, rfl, rfl, gInt rfl (by simp), trivial⟩ (.cons (.tl .hd) (.cons .hd (.cons .hd .nil))))
              | (rw [if_neg (by assumption), if_pos (by assumption), ← kvA_put]
                 exact weak_sub ⟨rfl, rfl, rfl, rfl, gInt rfl (by simp), trivial⟩ (by repeat constructor))
              | (rw [if_neg (by assumption), if_neg (by assumption)]
                 exact weak_sub ⟨rfl, rfl, rfl, rfl, gInt rfl (by simp), trivial⟩ (by repeat constructor))
          · skip
            refine aSkip ?_
            refine aReg ?_
            refine sp pAd ?_
            refine sp pM ?_
            refine oNil ?_
            refine ⟨(k + 1, _), m.next r hi ht, by show w.waiting.length - (k + 1) < w.waiting.length - k; have := m.kw; omega, ?_⟩
            dsimp only
            first
              | (rw [if_pos (by assumption), ← kvA_put]
                 exact weak_sub ⟨rfl, rfl, rfl, rfl, gInt rfl (by simp), trivial⟩ (.cons (.tl .hd) (.cons .hd (.cons .hd .nil))))
              | (rw [if_neg (by assumption), if_pos (by assumption), ← kvA_put]
                 exact weak_sub ⟨rfl, rfl, rfl, rfl, gInt rfl (by simp), trivial⟩ (by repeat constructor))
              | (rw [if_neg (by assumption), if_neg (by assumption)]
                 exact weak_sub ⟨rfl, rfl, rfl, rfl, gInt rfl (by simp), trivial⟩ (by repeat constructor))
    · skip
      refine aExit rfl ?_
      refine aSeq ?_
      refine aReg ?_
      refine sp pM ?_
      refine sp (by first | exact pNv | exact pNs) ?_
      refine sp (by first | exact pFb fd_109_2 | exact pFs fd_109_2) ?_
      refine sr (by first | exact rS1 ty_107 | exact rB1 ty_107) ?_
      refine sa ?_
      refine oClearM rfl rfl rfl (by repeat constructor) mo_107 ?_
      refine oNil ?_
      refine aReg ?_
      refine sp pM ?_
      refine sp pM ?_
      refine sp (by first | exact pNv | exact pNs) ?_
      refine sp (by first | exact pFb fd_109_4 | exact pFs fd_109_4) ?_
      refine sa ?_
      refine oStB rfl rfl rfl rfl (by repeat constructor) ty_4 rfl (Nat.le_of_ble_eq_true rfl) rfl ?_
      refine sp (by first | exact pNv | exact pNs) ?_
      refine sp (by first | exact pFb fd_109_3 | exact pFs fd_109_3) ?_
      refine sa ?_
      refine oStB rfl rfl rfl rfl (by repeat constructor) ty_3 rfl (Nat.le_of_ble_eq_true rfl) rfl ?_
      refine oNil ?_
      have hdn := m.done r (by first | exact .inl (by omega) | exact .inr (by omega))
      refine ⟨_, [_, _, _], [], rfl, .cons .hd (.cons (.tl .hd) (.cons .hd .nil)), rfl, T, hdn, rfl⟩

end A
end Go.Proofs.Ytkgemkadebgeoaa
