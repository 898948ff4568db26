/- What functions of the program compute: keysrc -/
import Derived.Test.YtmcannmjielalaaBidx
import Derived.Test.YtmcannmjielalaaProg
import Derived.KernelRfl
set_option linter.unusedVariables false
set_option linter.unusedSimpArgs false
namespace Go.Proofs.Ytmcannmjielalaa
namespace A

theorem el_25 : elemOf Try.prog 25 = some (3, 1, 8) := by kernel_rfl
theorem ty_144 : tyOf Try.prog 144 = some (1, false) := by kernel_rfl
theorem ty_158 : tyOf Try.prog 158 = some (1, false) := by kernel_rfl
theorem ty_211 : tyOf Try.prog 211 = some (1, false) := by kernel_rfl
theorem ty_212 : tyOf Try.prog 212 = some (1, false) := by kernel_rfl
theorem ty_25 : tyOf Try.prog 25 = some (1, false) := by kernel_rfl
theorem ty_256 : tyOf Try.prog 256 = some (1, false) := by kernel_rfl
theorem um_144 : Try.prog.underlying 144 = some (.map 3 4) := by kernel_rfl
theorem um_158 : Try.prog.underlying 158 = some (.map 3 49) := by kernel_rfl
theorem um_211 : Try.prog.underlying 211 = some (.map 3 104) := by kernel_rfl
theorem um_212 : Try.prog.underlying 212 = some (.map 3 3) := by kernel_rfl
theorem um_256 : Try.prog.underlying 256 = some (.map 3 258) := by kernel_rfl
/- maps.Keys[map[int]bool,int,bool]$1 -/
set_option maxRecDepth 100000 in
set_option maxHeartbeats 400000 in
theorem keys1_mib (b pb : Nat) (kvs : List (Int × AV)) (l : Nat) (I : List (List AV) → List HA → Prop) (S : List HA → Prop) (hy : ∀ pre x hc, KNx kvs pre x → I pre hc → YTriple Try.prog l x hc (fun r h' => ∃ v : Bool, r = .v (.bool v) ∧ (v = true → I (pre ++ [x]) h') ∧ (v = false → S h'))) (hc0 : List HA) (h0 : I [] hc0) : Triple Try.prog 215 [.fn (.yield l) [], .v (.pointer (some ⟨pb, 0, none⟩))] (.box pb [.v (.map (some b))] :: .map b kvs :: hc0) (fun r h' => ∃ hc', h' = .box pb [.v (.map (some b))] :: .map b kvs :: hc' ∧ ((∃ xs, KE kvs xs ∧ I xs hc') ∨ S hc')) := by
  refine triple_of Try.func215 rfl (by kernel_rfl) rfl (by simp) ?_
  refine aSeq ?_
  refine aReg ?_
  refine sr (rB1 ty_144) ?_
  refine sa ?_
  refine oRange rfl rfl (by decide) rfl (by repeat constructor) um_144 (fun r5 => ?_)
  refine oNil ?_
  refine aBlock ?_
  refine aLoopI (α := List Nat × List HA) (fun (idx, hc) => Idx kvs.length idx ∧ I (idx.map fun i => intA (keyAt kvs i)) hc) (fun (idx, hc) => ([(0, .fn (.yield l) []), (5, .v (.pointer (some ⟨r5, 0, none⟩)))], .mapIt b r5 kvs idx :: .box pb [.v (.map (some b))] :: hc)) (fun (idx, hc) => kvs.length - idx.length) ([], hc0) ?_ ?_ ?_
  · skip
    exact ⟨Idx.nil, h0⟩
  · skip
    exact weak_env ⟨rfl, rfl, trivial⟩
  · rintro ⟨idx, hc⟩ ⟨hix, hi⟩
    skip
    refine aSeq ?_
    refine aReg ?_
    refine sa ?_
    refine oNextR rfl rfl (by decide) rfl (by repeat constructor) (fun t6 ks6 ix6 hn6 => ?_)
    refine sp pX ?_
    refine oNil ?_
    refine aSeq ?_
    refine aCond rfl (fun c7 => ?_) (fun c7 => ?_)
    · skip
      refine aSkip ?_
      refine aBlock ?_
      refine aSeq ?_
      refine aReg ?_
      obtain ⟨i, kv, hkv, hni, rfl, rfl⟩ := hn6.yes c7
      refine sr (rEntry rfl rfl (by repeat constructor) hkv) ?_
      refine sp pX ?_
      refine sp pMa ?_
      refine oNil ?_
      refine aSeq ?_
      refine aReg ?_
      refine sp pM ?_
      refine sp pM ?_
      refine oYield (hfr := [.mapIt b r5 kvs (idx ++ [i]), .box pb [.v (.map (some b))]]) rfl rfl rfl (by decide) rfl rfl (hy _ (intA kv.1) hc (hix.knx hkv hni) hi) ?_
      rintro _ h2 ⟨v, rfl, hq1, hq2⟩
      refine sp pNo ?_
      refine oNil ?_
      refine aCondNot rfl (fun c13 => ?_) (fun c13 => ?_)
      · skip
        refine aWeak (weak_unmap .hd) ?_
        refine aRet ?_
        exact ⟨_, _, [], rfl, .cons (.tl .hd) (.cons .hd tk_refl), h2, rfl, .inr (hq2 (by simpa using c13))⟩
      · skip
        refine aSkip ?_
        have hil := (List.getElem?_eq_some_iff.1 hkv).1
        have hlt := hix.lt hil hni
        have hq := hq1 (by simpa using c13)
        refine ⟨(idx ++ [i], h2), ⟨hix.add hil hni, ?_⟩, by show kvs.length - (idx ++ [i]).length < kvs.length - idx.length; simp only [List.length_append, List.length_cons, List.length_nil]; omega, weak_env ⟨rfl, rfl, trivial⟩⟩
        rw [List.map_append, List.map_singleton, keyAt_get hkv]
        exact hq
    · skip
      obtain ⟨rfl, rfl, hall⟩ := hn6.no c7
      refine aWeak (weak_unmap .hd) ?_
      refine aExit rfl ?_
      exact ⟨_, _, [], rfl, .cons (.tl .hd) (.cons .hd tk_refl), hc, rfl, .inl ⟨_, hix.ke hall, hi⟩⟩

theorem keys1_mib_iter (b pb : Nat) (kvs : List (Int × AV)) : IterT Try.prog 215 [.v (.pointer (some ⟨pb, 0, none⟩))] (KNx kvs) (KE kvs) [.box pb [.v (.map (some b))], .map b kvs] :=
  ⟨⟨_, Try.func215, by kernel_rfl, rfl⟩, fun l I S hy hc h0 => keys1_mib b pb kvs l I S (fun pre x hc hn hi => (hy pre x hc hn hi).bool) hc h0⟩

/- maps.Keys[map[int]bool,int,bool] -/
set_option maxRecDepth 100000 in
set_option maxHeartbeats 400000 in
theorem keys_mib (b : Nat) : Triple Try.prog 119 [.v (.map (some b))] [] (fun r h' => ∃ pb, r = .fn (.func 215) [.v (.pointer (some ⟨pb, 0, none⟩))] ∧ h' = [.box pb [.v (.map (some b))]]) := by
  refine triple_of Try.func119 rfl (by kernel_rfl) rfl (by simp) ?_
  refine aSeq ?_
  refine aReg ?_
  refine sq ?_
  refine qBox rfl rfl (by decide) rfl rfl (fun b1 => ?_)
  refine sp pMa ?_
  refine oNil ?_
  refine aSeq ?_
  refine aReg ?_
  refine sp (pFn rfl rfl) ?_
  refine sp pMa ?_
  refine oNil ?_
  refine aRet ?_
  exact ⟨_, [_], [], rfl, .cons .hd .nil, b1, rfl, rfl⟩

/- api.Route]$1 -/
set_option maxRecDepth 100000 in
set_option maxHeartbeats 400000 in
theorem keys1_mir (b pb : Nat) (kvs : List (Int × AV)) (l : Nat) (I : List (List AV) → List HA → Prop) (S : List HA → Prop) (hy : ∀ pre x hc, KNx kvs pre x → I pre hc → YTriple Try.prog l x hc (fun r h' => ∃ v : Bool, r = .v (.bool v) ∧ (v = true → I (pre ++ [x]) h') ∧ (v = false → S h'))) (hc0 : List HA) (h0 : I [] hc0) : Triple Try.prog 223 [.fn (.yield l) [], .v (.pointer (some ⟨pb, 0, none⟩))] (.box pb [.v (.map (some b))] :: .map b kvs :: hc0) (fun r h' => ∃ hc', h' = .box pb [.v (.map (some b))] :: .map b kvs :: hc' ∧ ((∃ xs, KE kvs xs ∧ I xs hc') ∨ S hc')) := by
  refine triple_of Try.func223 rfl (by kernel_rfl) rfl (by simp) ?_
  refine aSeq ?_
  refine aReg ?_
  refine sr (rB1 ty_158) ?_
  refine sa ?_
  refine oRange rfl rfl (by decide) rfl (by repeat constructor) um_158 (fun r5 => ?_)
  refine oNil ?_
  refine aBlock ?_
  refine aLoopI (α := List Nat × List HA) (fun (idx, hc) => Idx kvs.length idx ∧ I (idx.map fun i => intA (keyAt kvs i)) hc) (fun (idx, hc) => ([(0, .fn (.yield l) []), (5, .v (.pointer (some ⟨r5, 0, none⟩)))], .mapIt b r5 kvs idx :: .box pb [.v (.map (some b))] :: hc)) (fun (idx, hc) => kvs.length - idx.length) ([], hc0) ?_ ?_ ?_
  · skip
    exact ⟨Idx.nil, h0⟩
  · skip
    exact weak_env ⟨rfl, rfl, trivial⟩
  · rintro ⟨idx, hc⟩ ⟨hix, hi⟩
    skip
    refine aSeq ?_
    refine aReg ?_
    refine sa ?_
    refine oNextR rfl rfl (by decide) rfl (by repeat constructor) (fun t6 ks6 ix6 hn6 => ?_)
    refine sp pX ?_
    refine oNil ?_
    refine aSeq ?_
    refine aCond rfl (fun c7 => ?_) (fun c7 => ?_)
    · skip
      refine aSkip ?_
      refine aBlock ?_
      refine aSeq ?_
      refine aReg ?_
      obtain ⟨i, kv, hkv, hni, rfl, rfl⟩ := hn6.yes c7
      refine sr (rEntry rfl rfl (by repeat constructor) hkv) ?_
      refine sp pX ?_
      refine sp pMa ?_
      refine oNil ?_
      refine aSeq ?_
      refine aReg ?_
      refine sp pM ?_
      refine sp pM ?_
      refine oYield (hfr := [.mapIt b r5 kvs (idx ++ [i]), .box pb [.v (.map (some b))]]) rfl rfl rfl (by decide) rfl rfl (hy _ (intA kv.1) hc (hix.knx hkv hni) hi) ?_
      rintro _ h2 ⟨v, rfl, hq1, hq2⟩
      refine sp pNo ?_
      refine oNil ?_
      refine aCondNot rfl (fun c13 => ?_) (fun c13 => ?_)
      · skip
        refine aWeak (weak_unmap .hd) ?_
        refine aRet ?_
        exact ⟨_, _, [], rfl, .cons (.tl .hd) (.cons .hd tk_refl), h2, rfl, .inr (hq2 (by simpa using c13))⟩
      · skip
        refine aSkip ?_
        have hil := (List.getElem?_eq_some_iff.1 hkv).1
        have hlt := hix.lt hil hni
        have hq := hq1 (by simpa using c13)
        refine ⟨(idx ++ [i], h2), ⟨hix.add hil hni, ?_⟩, by show kvs.length - (idx ++ [i]).length < kvs.length - idx.length; simp only [List.length_append, List.length_cons, List.length_nil]; omega, weak_env ⟨rfl, rfl, trivial⟩⟩
        rw [List.map_append, List.map_singleton, keyAt_get hkv]
        exact hq
    · skip
      obtain ⟨rfl, rfl, hall⟩ := hn6.no c7
      refine aWeak (weak_unmap .hd) ?_
      refine aExit rfl ?_
      exact ⟨_, _, [], rfl, .cons (.tl .hd) (.cons .hd tk_refl), hc, rfl, .inl ⟨_, hix.ke hall, hi⟩⟩

theorem keys1_mir_iter (b pb : Nat) (kvs : List (Int × AV)) : IterT Try.prog 223 [.v (.pointer (some ⟨pb, 0, none⟩))] (KNx kvs) (KE kvs) [.box pb [.v (.map (some b))], .map b kvs] :=
  ⟨⟨_, Try.func223, by kernel_rfl, rfl⟩, fun l I S hy hc h0 => keys1_mir b pb kvs l I S (fun pre x hc hn hi => (hy pre x hc hn hi).bool) hc h0⟩

/- api.Route] -/
set_option maxRecDepth 100000 in
set_option maxHeartbeats 400000 in
theorem keys_mir (b : Nat) : Triple Try.prog 128 [.v (.map (some b))] [] (fun r h' => ∃ pb, r = .fn (.func 223) [.v (.pointer (some ⟨pb, 0, none⟩))] ∧ h' = [.box pb [.v (.map (some b))]]) := by
  refine triple_of Try.func128 rfl (by kernel_rfl) rfl (by simp) ?_
  refine aSeq ?_
  refine aReg ?_
  refine sq ?_
  refine qBox rfl rfl (by decide) rfl rfl (fun b1 => ?_)
  refine sp pMa ?_
  refine oNil ?_
  refine aSeq ?_
  refine aReg ?_
  refine sp (pFn rfl rfl) ?_
  refine sp pMa ?_
  refine oNil ?_
  refine aRet ?_
  exact ⟨_, [_], [], rfl, .cons .hd .nil, b1, rfl, rfl⟩

/- api.Edge]$1 -/
set_option maxRecDepth 100000 in
set_option maxHeartbeats 400000 in
theorem keys1_mie (b pb : Nat) (kvs : List (Int × AV)) (l : Nat) (I : List (List AV) → List HA → Prop) (S : List HA → Prop) (hy : ∀ pre x hc, KNx kvs pre x → I pre hc → YTriple Try.prog l x hc (fun r h' => ∃ v : Bool, r = .v (.bool v) ∧ (v = true → I (pre ++ [x]) h') ∧ (v = false → S h'))) (hc0 : List HA) (h0 : I [] hc0) : Triple Try.prog 247 [.fn (.yield l) [], .v (.pointer (some ⟨pb, 0, none⟩))] (.box pb [.v (.map (some b))] :: .map b kvs :: hc0) (fun r h' => ∃ hc', h' = .box pb [.v (.map (some b))] :: .map b kvs :: hc' ∧ ((∃ xs, KE kvs xs ∧ I xs hc') ∨ S hc')) := by
  refine triple_of Try.func247 rfl (by kernel_rfl) rfl (by simp) ?_
  refine aSeq ?_
  refine aReg ?_
  refine sr (rB1 ty_211) ?_
  refine sa ?_
  refine oRange rfl rfl (by decide) rfl (by repeat constructor) um_211 (fun r5 => ?_)
  refine oNil ?_
  refine aBlock ?_
  refine aLoopI (α := List Nat × List HA) (fun (idx, hc) => Idx kvs.length idx ∧ I (idx.map fun i => intA (keyAt kvs i)) hc) (fun (idx, hc) => ([(0, .fn (.yield l) []), (5, .v (.pointer (some ⟨r5, 0, none⟩)))], .mapIt b r5 kvs idx :: .box pb [.v (.map (some b))] :: hc)) (fun (idx, hc) => kvs.length - idx.length) ([], hc0) ?_ ?_ ?_
  · skip
    exact ⟨Idx.nil, h0⟩
  · skip
    exact weak_env ⟨rfl, rfl, trivial⟩
  · rintro ⟨idx, hc⟩ ⟨hix, hi⟩
    skip
    refine aSeq ?_
    refine aReg ?_
    refine sa ?_
    refine oNextR rfl rfl (by decide) rfl (by repeat constructor) (fun t6 ks6 ix6 hn6 => ?_)
    refine sp pX ?_
    refine oNil ?_
    refine aSeq ?_
    refine aCond rfl (fun c7 => ?_) (fun c7 => ?_)
    · skip
      refine aSkip ?_
      refine aBlock ?_
      refine aSeq ?_
      refine aReg ?_
      obtain ⟨i, kv, hkv, hni, rfl, rfl⟩ := hn6.yes c7
      refine sr (rEntry rfl rfl (by repeat constructor) hkv) ?_
      refine sp pX ?_
      refine sp pMa ?_
      refine oNil ?_
      refine aSeq ?_
      refine aReg ?_
      refine sp pM ?_
      refine sp pM ?_
      refine oYield (hfr := [.mapIt b r5 kvs (idx ++ [i]), .box pb [.v (.map (some b))]]) rfl rfl rfl (by decide) rfl rfl (hy _ (intA kv.1) hc (hix.knx hkv hni) hi) ?_
      rintro _ h2 ⟨v, rfl, hq1, hq2⟩
      refine sp pNo ?_
      refine oNil ?_
      refine aCondNot rfl (fun c13 => ?_) (fun c13 => ?_)
      · skip
        refine aWeak (weak_unmap .hd) ?_
        refine aRet ?_
        exact ⟨_, _, [], rfl, .cons (.tl .hd) (.cons .hd tk_refl), h2, rfl, .inr (hq2 (by simpa using c13))⟩
      · skip
        refine aSkip ?_
        have hil := (List.getElem?_eq_some_iff.1 hkv).1
        have hlt := hix.lt hil hni
        have hq := hq1 (by simpa using c13)
        refine ⟨(idx ++ [i], h2), ⟨hix.add hil hni, ?_⟩, by show kvs.length - (idx ++ [i]).length < kvs.length - idx.length; simp only [List.length_append, List.length_cons, List.length_nil]; omega, weak_env ⟨rfl, rfl, trivial⟩⟩
        rw [List.map_append, List.map_singleton, keyAt_get hkv]
        exact hq
    · skip
      obtain ⟨rfl, rfl, hall⟩ := hn6.no c7
      refine aWeak (weak_unmap .hd) ?_
      refine aExit rfl ?_
      exact ⟨_, _, [], rfl, .cons (.tl .hd) (.cons .hd tk_refl), hc, rfl, .inl ⟨_, hix.ke hall, hi⟩⟩

theorem keys1_mie_iter (b pb : Nat) (kvs : List (Int × AV)) : IterT Try.prog 247 [.v (.pointer (some ⟨pb, 0, none⟩))] (KNx kvs) (KE kvs) [.box pb [.v (.map (some b))], .map b kvs] :=
  ⟨⟨_, Try.func247, by kernel_rfl, rfl⟩, fun l I S hy hc h0 => keys1_mie b pb kvs l I S (fun pre x hc hn hi => (hy pre x hc hn hi).bool) hc h0⟩

/- api.Edge] -/
set_option maxRecDepth 100000 in
set_option maxHeartbeats 400000 in
theorem keys_mie (b : Nat) : Triple Try.prog 177 [.v (.map (some b))] [] (fun r h' => ∃ pb, r = .fn (.func 247) [.v (.pointer (some ⟨pb, 0, none⟩))] ∧ h' = [.box pb [.v (.map (some b))]]) := by
  refine triple_of Try.func177 rfl (by kernel_rfl) rfl (by simp) ?_
  refine aSeq ?_
  refine aReg ?_
  refine sq ?_
  refine qBox rfl rfl (by decide) rfl rfl (fun b1 => ?_)
  refine sp pMa ?_
  refine oNil ?_
  refine aSeq ?_
  refine aReg ?_
  refine sp (pFn rfl rfl) ?_
  refine sp pMa ?_
  refine oNil ?_
  refine aRet ?_
  exact ⟨_, [_], [], rfl, .cons .hd .nil, b1, rfl, rfl⟩

/- maps.Keys[map[int]int,int,int]$1 -/
set_option maxRecDepth 100000 in
set_option maxHeartbeats 400000 in
theorem keys1_mii (b pb : Nat) (kvs : List (Int × AV)) (l : Nat) (I : List (List AV) → List HA → Prop) (S : List HA → Prop) (hy : ∀ pre x hc, KNx kvs pre x → I pre hc → YTriple Try.prog l x hc (fun r h' => ∃ v : Bool, r = .v (.bool v) ∧ (v = true → I (pre ++ [x]) h') ∧ (v = false → S h'))) (hc0 : List HA) (h0 : I [] hc0) : Triple Try.prog 250 [.fn (.yield l) [], .v (.pointer (some ⟨pb, 0, none⟩))] (.box pb [.v (.map (some b))] :: .map b kvs :: hc0) (fun r h' => ∃ hc', h' = .box pb [.v (.map (some b))] :: .map b kvs :: hc' ∧ ((∃ xs, KE kvs xs ∧ I xs hc') ∨ S hc')) := by
  refine triple_of Try.func250 rfl (by kernel_rfl) rfl (by simp) ?_
  refine aSeq ?_
  refine aReg ?_
  refine sr (rB1 ty_212) ?_
  refine sa ?_
  refine oRange rfl rfl (by decide) rfl (by repeat constructor) um_212 (fun r5 => ?_)
  refine oNil ?_
  refine aBlock ?_
  refine aLoopI (α := List Nat × List HA) (fun (idx, hc) => Idx kvs.length idx ∧ I (idx.map fun i => intA (keyAt kvs i)) hc) (fun (idx, hc) => ([(0, .fn (.yield l) []), (5, .v (.pointer (some ⟨r5, 0, none⟩)))], .mapIt b r5 kvs idx :: .box pb [.v (.map (some b))] :: hc)) (fun (idx, hc) => kvs.length - idx.length) ([], hc0) ?_ ?_ ?_
  · skip
    exact ⟨Idx.nil, h0⟩
  · skip
    exact weak_env ⟨rfl, rfl, trivial⟩
  · rintro ⟨idx, hc⟩ ⟨hix, hi⟩
    skip
    refine aSeq ?_
    refine aReg ?_
    refine sa ?_
    refine oNextR rfl rfl (by decide) rfl (by repeat constructor) (fun t6 ks6 ix6 hn6 => ?_)
    refine sp pX ?_
    refine oNil ?_
    refine aSeq ?_
    refine aCond rfl (fun c7 => ?_) (fun c7 => ?_)
    · skip
      refine aSkip ?_
      refine aBlock ?_
      refine aSeq ?_
      refine aReg ?_
      obtain ⟨i, kv, hkv, hni, rfl, rfl⟩ := hn6.yes c7
      refine sr (rEntry rfl rfl (by repeat constructor) hkv) ?_
      refine sp pX ?_
      refine sp pMa ?_
      refine oNil ?_
      refine aSeq ?_
      refine aReg ?_
      refine sp pM ?_
      refine sp pM ?_
      refine oYield (hfr := [.mapIt b r5 kvs (idx ++ [i]), .box pb [.v (.map (some b))]]) rfl rfl rfl (by decide) rfl rfl (hy _ (intA kv.1) hc (hix.knx hkv hni) hi) ?_
      rintro _ h2 ⟨v, rfl, hq1, hq2⟩
      refine sp pNo ?_
      refine oNil ?_
      refine aCondNot rfl (fun c13 => ?_) (fun c13 => ?_)
      · skip
        refine aWeak (weak_unmap .hd) ?_
        refine aRet ?_
        exact ⟨_, _, [], rfl, .cons (.tl .hd) (.cons .hd tk_refl), h2, rfl, .inr (hq2 (by simpa using c13))⟩
      · skip
        refine aSkip ?_
        have hil := (List.getElem?_eq_some_iff.1 hkv).1
        have hlt := hix.lt hil hni
        have hq := hq1 (by simpa using c13)
        refine ⟨(idx ++ [i], h2), ⟨hix.add hil hni, ?_⟩, by show kvs.length - (idx ++ [i]).length < kvs.length - idx.length; simp only [List.length_append, List.length_cons, List.length_nil]; omega, weak_env ⟨rfl, rfl, trivial⟩⟩
        rw [List.map_append, List.map_singleton, keyAt_get hkv]
        exact hq
    · skip
      obtain ⟨rfl, rfl, hall⟩ := hn6.no c7
      refine aWeak (weak_unmap .hd) ?_
      refine aExit rfl ?_
      exact ⟨_, _, [], rfl, .cons (.tl .hd) (.cons .hd tk_refl), hc, rfl, .inl ⟨_, hix.ke hall, hi⟩⟩

theorem keys1_mii_iter (b pb : Nat) (kvs : List (Int × AV)) : IterT Try.prog 250 [.v (.pointer (some ⟨pb, 0, none⟩))] (KNx kvs) (KE kvs) [.box pb [.v (.map (some b))], .map b kvs] :=
  ⟨⟨_, Try.func250, by kernel_rfl, rfl⟩, fun l I S hy hc h0 => keys1_mii b pb kvs l I S (fun pre x hc hn hi => (hy pre x hc hn hi).bool) hc h0⟩

/- maps.Keys[map[int]int,int,int] -/
set_option maxRecDepth 100000 in
set_option maxHeartbeats 400000 in
theorem keys_mii (b : Nat) : Triple Try.prog 181 [.v (.map (some b))] [] (fun r h' => ∃ pb, r = .fn (.func 250) [.v (.pointer (some ⟨pb, 0, none⟩))] ∧ h' = [.box pb [.v (.map (some b))]]) := by
  refine triple_of Try.func181 rfl (by kernel_rfl) rfl (by simp) ?_
  refine aSeq ?_
  refine aReg ?_
  refine sq ?_
  refine qBox rfl rfl (by decide) rfl rfl (fun b1 => ?_)
  refine sp pMa ?_
  refine oNil ?_
  refine aSeq ?_
  refine aReg ?_
  refine sp (pFn rfl rfl) ?_
  refine sp pMa ?_
  refine oNil ?_
  refine aRet ?_
  exact ⟨_, [_], [], rfl, .cons .hd .nil, b1, rfl, rfl⟩

/- flow.step]$1 -/
set_option maxRecDepth 100000 in
set_option maxHeartbeats 400000 in
theorem keys1_mis (b pb : Nat) (kvs : List (Int × AV)) (l : Nat) (I : List (List AV) → List HA → Prop) (S : List HA → Prop) (hy : ∀ pre x hc, KNx kvs pre x → I pre hc → YTriple Try.prog l x hc (fun r h' => ∃ v : Bool, r = .v (.bool v) ∧ (v = true → I (pre ++ [x]) h') ∧ (v = false → S h'))) (hc0 : List HA) (h0 : I [] hc0) : Triple Try.prog 263 [.fn (.yield l) [], .v (.pointer (some ⟨pb, 0, none⟩))] (.box pb [.v (.map (some b))] :: .map b kvs :: hc0) (fun r h' => ∃ hc', h' = .box pb [.v (.map (some b))] :: .map b kvs :: hc' ∧ ((∃ xs, KE kvs xs ∧ I xs hc') ∨ S hc')) := by
  refine triple_of Try.func263 rfl (by kernel_rfl) rfl (by simp) ?_
  refine aSeq ?_
  refine aReg ?_
  refine sr (rB1 ty_256) ?_
  refine sa ?_
  refine oRange rfl rfl (by decide) rfl (by repeat constructor) um_256 (fun r5 => ?_)
  refine oNil ?_
  refine aBlock ?_
  refine aLoopI (α := List Nat × List HA) (fun (idx, hc) => Idx kvs.length idx ∧ I (idx.map fun i => intA (keyAt kvs i)) hc) (fun (idx, hc) => ([(0, .fn (.yield l) []), (5, .v (.pointer (some ⟨r5, 0, none⟩)))], .mapIt b r5 kvs idx :: .box pb [.v (.map (some b))] :: hc)) (fun (idx, hc) => kvs.length - idx.length) ([], hc0) ?_ ?_ ?_
  · skip
    exact ⟨Idx.nil, h0⟩
  · skip
    exact weak_env ⟨rfl, rfl, trivial⟩
  · rintro ⟨idx, hc⟩ ⟨hix, hi⟩
    skip
    refine aSeq ?_
    refine aReg ?_
    refine sa ?_
    refine oNextR rfl rfl (by decide) rfl (by repeat constructor) (fun t6 ks6 ix6 hn6 => ?_)
    refine sp pX ?_
    refine oNil ?_
    refine aSeq ?_
    refine aCond rfl (fun c7 => ?_) (fun c7 => ?_)
    · skip
      refine aSkip ?_
      refine aBlock ?_
      refine aSeq ?_
      refine aReg ?_
      obtain ⟨i, kv, hkv, hni, rfl, rfl⟩ := hn6.yes c7
      refine sr (rEntry rfl rfl (by repeat constructor) hkv) ?_
      refine sp pX ?_
      refine sp pMa ?_
      refine oNil ?_
      refine aSeq ?_
      refine aReg ?_
      refine sp pM ?_
      refine sp pM ?_
      refine oYield (hfr := [.mapIt b r5 kvs (idx ++ [i]), .box pb [.v (.map (some b))]]) rfl rfl rfl (by decide) rfl rfl (hy _ (intA kv.1) hc (hix.knx hkv hni) hi) ?_
      rintro _ h2 ⟨v, rfl, hq1, hq2⟩
      refine sp pNo ?_
      refine oNil ?_
      refine aCondNot rfl (fun c13 => ?_) (fun c13 => ?_)
      · skip
        refine aWeak (weak_unmap .hd) ?_
        refine aRet ?_
        exact ⟨_, _, [], rfl, .cons (.tl .hd) (.cons .hd tk_refl), h2, rfl, .inr (hq2 (by simpa using c13))⟩
      · skip
        refine aSkip ?_
        have hil := (List.getElem?_eq_some_iff.1 hkv).1
        have hlt := hix.lt hil hni
        have hq := hq1 (by simpa using c13)
        refine ⟨(idx ++ [i], h2), ⟨hix.add hil hni, ?_⟩, by show kvs.length - (idx ++ [i]).length < kvs.length - idx.length; simp only [List.length_append, List.length_cons, List.length_nil]; omega, weak_env ⟨rfl, rfl, trivial⟩⟩
        rw [List.map_append, List.map_singleton, keyAt_get hkv]
        exact hq
    · skip
      obtain ⟨rfl, rfl, hall⟩ := hn6.no c7
      refine aWeak (weak_unmap .hd) ?_
      refine aExit rfl ?_
      exact ⟨_, _, [], rfl, .cons (.tl .hd) (.cons .hd tk_refl), hc, rfl, .inl ⟨_, hix.ke hall, hi⟩⟩

theorem keys1_mis_iter (b pb : Nat) (kvs : List (Int × AV)) : IterT Try.prog 263 [.v (.pointer (some ⟨pb, 0, none⟩))] (KNx kvs) (KE kvs) [.box pb [.v (.map (some b))], .map b kvs] :=
  ⟨⟨_, Try.func263, by kernel_rfl, rfl⟩, fun l I S hy hc h0 => keys1_mis b pb kvs l I S (fun pre x hc hn hi => (hy pre x hc hn hi).bool) hc h0⟩

/- flow.step] -/
set_option maxRecDepth 100000 in
set_option maxHeartbeats 400000 in
theorem keys_mis (b : Nat) : Triple Try.prog 216 [.v (.map (some b))] [] (fun r h' => ∃ pb, r = .fn (.func 263) [.v (.pointer (some ⟨pb, 0, none⟩))] ∧ h' = [.box pb [.v (.map (some b))]]) := by
  refine triple_of Try.func216 rfl (by kernel_rfl) rfl (by simp) ?_
  refine aSeq ?_
  refine aReg ?_
  refine sq ?_
  refine qBox rfl rfl (by decide) rfl rfl (fun b1 => ?_)
  refine sp pMa ?_
  refine oNil ?_
  refine aSeq ?_
  refine aReg ?_
  refine sp (pFn rfl rfl) ?_
  refine sp pMa ?_
  refine oNil ?_
  refine aRet ?_
  exact ⟨_, [_], [], rfl, .cons .hd .nil, b1, rfl, rfl⟩

def srt_ren : Go.Shelf.Ren := ⟨fun | 189 => 193 | 125 => 243 | 257 => 254 | 128 => 282 | 129 => 283 | 294 => 308 | 295 => 309 | 296 => 310 | 297 => 311 | 298 => 312 | 299 => 313 | 216 => 227 | 300 => 314 | 301 => 315 | 328 => 333 | 329 => 320 | 330 => 321 | 331 => 334 | 332 => 335 | 215 => 246 | 343 => 341 | n => n, fun | 28 => 25 | 3 => 3 | 46 => 270 | 0 => 0 | 51 => 313 | 53 => 37 | 4 => 4 | 183 => 307 | 182 => 306 | 131 => 175 | 5 => 5 | 9 => 9 | 218 => 341 | 222 => 344 | 228 => 354 | 229 => 187 | n => n, fun | n => n⟩
theorem srt : Go.Proofs.Lays.n189 Try.prog srt_ren := {
  mixed := by kernel_rfl,
  f125 := Try.func243.trans (congrArg some (by kernel_rfl)),
  f128 := Try.func282.trans (congrArg some (by kernel_rfl)),
  f129 := Try.func283.trans (congrArg some (by kernel_rfl)),
  f189 := Try.func193.trans (congrArg some (by kernel_rfl)),
  f215 := Try.func246.trans (congrArg some (by kernel_rfl)),
  f216 := Try.func227.trans (congrArg some (by kernel_rfl)),
  f257 := Try.func254.trans (congrArg some (by kernel_rfl)),
  f294 := Try.func308.trans (congrArg some (by kernel_rfl)),
  f295 := Try.func309.trans (congrArg some (by kernel_rfl)),
  f296 := Try.func310.trans (congrArg some (by kernel_rfl)),
  f297 := Try.func311.trans (congrArg some (by kernel_rfl)),
  f298 := Try.func312.trans (congrArg some (by kernel_rfl)),
  f299 := Try.func313.trans (congrArg some (by kernel_rfl)),
  f300 := Try.func314.trans (congrArg some (by kernel_rfl)),
  f301 := Try.func315.trans (congrArg some (by kernel_rfl)),
  f328 := Try.func333.trans (congrArg some (by kernel_rfl)),
  f329 := Try.func320.trans (congrArg some (by kernel_rfl)),
  f330 := Try.func321.trans (congrArg some (by kernel_rfl)),
  f331 := Try.func334.trans (congrArg some (by kernel_rfl)),
  f332 := Try.func335.trans (congrArg some (by kernel_rfl)),
  f343 := Try.func341.trans (congrArg some (by kernel_rfl)),
  t0 := Try.underlying0,
  a0 := Try.isAgg0,
  z0 := Try.sizeOf0,
  v0 := Try.zeroValue0,
  t3 := Try.underlying3,
  a3 := Try.isAgg3,
  z3 := Try.sizeOf3,
  v3 := Try.zeroValue3,
  t4 := Try.underlying4,
  a4 := Try.isAgg4,
  z4 := Try.sizeOf4,
  v4 := Try.zeroValue4,
  t5 := Try.underlying5,
  a5 := Try.isAgg5,
  z5 := Try.sizeOf5,
  v5 := Try.zeroValue5,
  t9 := Try.underlying9,
  a9 := Try.isAgg9,
  z9 := Try.sizeOf9,
  v9 := Try.zeroValue9,
  t28 := Try.underlying25,
  a28 := Try.isAgg25,
  z28 := Try.sizeOf25,
  v28 := Try.zeroValue25,
  t46 := Try.underlying270,
  a46 := Try.isAgg270,
  z46 := Try.sizeOf270,
  v46 := Try.zeroValue270,
  t51 := Try.underlying313,
  a51 := Try.isAgg313,
  z51 := Try.sizeOf313,
  v51 := Try.zeroValue313,
  t53 := Try.underlying37,
  a53 := Try.isAgg37,
  z53 := Try.sizeOf37,
  v53 := Try.zeroValue37,
  t131 := Try.underlying175,
  a131 := Try.isAgg175,
  z131 := Try.sizeOf175,
  v131 := Try.zeroValue175,
  t182 := Try.underlying306,
  a182 := Try.isAgg306,
  z182 := Try.sizeOf306,
  v182 := Try.zeroValue306,
  t183 := Try.underlying307,
  a183 := Try.isAgg307,
  z183 := Try.sizeOf307,
  v183 := Try.zeroValue307,
  t218 := Try.underlying341,
  a218 := Try.isAgg341,
  z218 := Try.sizeOf341,
  v218 := Try.zeroValue341,
  t222 := Try.underlying344,
  a222 := Try.isAgg344,
  z222 := Try.sizeOf344,
  v222 := Try.zeroValue344,
  t228 := Try.underlying354,
  a228 := Try.isAgg354,
  z228 := Try.sizeOf354,
  v228 := Try.zeroValue354,
  t229 := Try.underlying187,
  a229 := Try.isAgg187,
  z229 := Try.sizeOf187,
  v229 := Try.zeroValue187 }

/- slices.AppendSeq[[]int,int] -/
set_option maxRecDepth 100000 in
set_option maxHeartbeats 400000 in
theorem appendSeq_int (gf : FuncId) (caps : List AV) (kvs : List (Int × AV)) (hit : List HA) (it : IterT Try.prog gf caps (KNx kvs) (KE kvs) hit) (hl : kvs.length ≤ 1000000) : Triple Try.prog 262 [(.v (.slice none 0 0)), .fn (.func gf) caps] hit (fun r h' => ∃ (ks : List Int) (g : Option Nat) (c : Nat), r = .v (slV g ks.length c) ∧ h' = .sl g c 3 1 (ks.map intA) :: hit ∧ ks.Perm (kvs.map Prod.fst)) := by
  refine triple_of Try.func262 rfl (by kernel_rfl) rfl (by simp) ?_
  refine aSeq ?_
  refine aReg ?_
  refine sq ?_
  refine qBox rfl rfl (by decide) rfl rfl (fun b2 => ?_)
  refine sp pMa ?_
  refine oNil ?_
  refine aSeq ?_
  refine aSeq ?_
  refine aReg ?_
  refine sp pM ?_
  refine oNil ?_
  refine aBlock ?_
  refine aRangeFunc (α := List Int × Option Nat × Nat) (fun (ks, g, c) => [.sl g c 3 1 (ks.map intA), .box b2 [.v (slV g ks.length c)]]) (fun pre (ks, g, c) => pre = ks.map intA) ([], none, 0) rfl (by decide) it ?_ ?_ ?_ ?_ ?_
  · skip
    rintro _ _ ⟨_, _, _, rfl, _⟩; rfl
  · skip
    refine Weak.trans (weak_nil 3 1) ?_
    exact weak_perm (List.perm_append_comm (l₁ := [_, _]))
  · skip
    rfl
  · rintro pre x ⟨ks, g, c⟩ ⟨ks', k, hpre, rfl, hkl⟩ hJ
    replace hJ : pre = ks.map intA := hJ
    obtain rfl : ks = ks' := intA_inj (hJ.symm.trans hpre)
    refine aReg ?_
    refine sp pMa ?_
    refine oNil ?_
    refine aBlock ?_
    refine aReg ?_
    refine sr (by first | exact rS1 ty_25 | exact rB1 ty_25 | exact rAr ty_25 | exact rArL ty_25 | exact rArR2 ty_25) ?_
    refine sp pM ?_
    refine sq ?_
    refine qLit (l := [_]) rfl rfl (by decide) us_25 ty_3 ze_3 rfl (by decide) (by decide) rfl rfl rfl (fun b10 => ?_)
    refine sa ?_
    refine oAppT [_] rfl rfl (by repeat constructor) (srcOwn rfl (by repeat constructor) rfl) el_25 sl_25 (fun g11 k11 => ?_)
    refine sa ?_
    refine oStB rfl rfl rfl rfl (by repeat constructor) ty_25 rfl (Nat.le_of_ble_eq_true rfl) rfl ?_
    refine oNil ?_
    refine ⟨(ks ++ [k], g11, k11), by show pre ++ _ = List.map intA (ks ++ [k]); rw [List.map_append, hJ]; rfl, ?_⟩
    simp only [List.map_append, List.map_cons, List.map_nil, List.length_append, List.length_cons, List.length_nil, List.length_map]
    exact weak_sub trivial (by repeat constructor)
  · rintro xs ⟨ks, g, c⟩ hE hJ
    try dsimp only [List.nil_append, List.cons_append]
    replace hJ : xs = ks.map intA := hJ
    obtain ⟨ks', hks, hperm⟩ := hE
    obtain rfl : ks = ks' := intA_inj (hJ.symm.trans hks)
    refine aWeak (weak_perm List.perm_append_comm) ?_
    refine aSeq ?_
    refine aReg ?_
    refine sr (by first | exact rS1 ty_25 | exact rB1 ty_25 | exact rAr ty_25 | exact rArL ty_25 | exact rArR2 ty_25) ?_
    refine sp pMa ?_
    refine oNil ?_
    refine aRet ?_
    exact ⟨_, _ :: hit, [_], rfl, .cons .hd (tk_after (l := [_])), ks, g, c, rfl, rfl, hperm⟩

/- slices.Collect[int] -/
set_option maxRecDepth 100000 in
set_option maxHeartbeats 400000 in
theorem collect_int (gf : FuncId) (caps : List AV) (kvs : List (Int × AV)) (hit : List HA) (it : IterT Try.prog gf caps (KNx kvs) (KE kvs) hit) (hl : kvs.length ≤ 1000000) : Triple Try.prog 214 [.fn (.func gf) caps] hit (fun r h' => ∃ (ks : List Int) (g : Option Nat) (c : Nat), r = .v (slV g ks.length c) ∧ h' = .sl g c 3 1 (ks.map intA) :: hit ∧ ks.Perm (kvs.map Prod.fst)) := by
  refine triple_of Try.func214 rfl (by kernel_rfl) rfl (by simp) ?_
  refine aSeq ?_
  refine aReg ?_
  refine sp pMa ?_
  refine oNil ?_
  refine aSeq ?_
  refine aReg ?_
  refine sp pM ?_
  refine sa ?_
  refine aCall (hin := hit) (hfr := []) rfl rfl (by decide) rfl rfl tk_refl (appendSeq_int gf caps kvs hit it hl) ?_
  rintro _ _ ⟨ks, g, c, rfl, rfl, hperm⟩
  refine sp pMa ?_
  refine oNil ?_
  refine aRet ?_
  refine ⟨_, _ :: hit, [], rfl, ?_, ks, g, c, rfl, rfl, hperm⟩
  rw [List.append_nil]
  exact tk_refl

/- slices.Sorted[int] -/
set_option maxRecDepth 100000 in
set_option maxHeartbeats 400000 in
theorem sorted_int (gf : FuncId) (caps : List AV) (kvs : List (Int × AV)) (hit : List HA) (it : IterT Try.prog gf caps (KNx kvs) (KE kvs) hit) (hl : kvs.length ≤ 1000000) : Triple Try.prog 118 [.fn (.func gf) caps] hit (fun r h' => ∃ g c, r = .v (slV g (sortI (kvs.map Prod.fst)).length c) ∧ h' = .sl g c 3 1 ((sortI (kvs.map Prod.fst)).map intA) :: hit) := by
  refine triple_of Try.func118 rfl (by kernel_rfl) rfl (by simp) ?_
  refine aSeq ?_
  refine aReg ?_
  refine sp pMa ?_
  refine oNil ?_
  refine aSeq ?_
  refine aReg ?_
  refine sp pM ?_
  refine sa ?_
  refine aCall (hin := hit) (hfr := []) rfl rfl (by decide) rfl rfl tk_refl (collect_int gf caps kvs hit it hl) ?_
  rintro _ _ ⟨ks, g, c, rfl, rfl, hperm⟩
  refine sp pMa ?_
  refine oNil ?_
  refine aSeq ?_
  refine aReg ?_
  refine sp pM ?_
  refine sa ?_
  refine aCall (hin := [_]) (hfr := hit ++ []) rfl rfl (by decide) rfl rfl (.cons .hd .nil) (triple_sort srt rfl ⟨_, Try.func193, by kernel_rfl, rfl⟩ g c 3 ks (by have := hperm.length_eq; rw [List.length_map] at this; omega)) ?_
  rintro _ _ ⟨rfl, rfl⟩
  refine oNil ?_
  refine aSeq ?_
  refine aReg ?_
  refine sp pM ?_
  refine sp pMa ?_
  refine oNil ?_
  refine aRet ?_
  have hs : sortI ks = sortI (kvs.map Prod.fst) := sortI_perm hperm
  refine ⟨_, .sl g c 3 1 ((sortI ks).map intA) :: hit, [], rfl, ?_, g, c, ?_, ?_⟩
  · show Tk (_ :: (hit ++ [])) _ _
    rw [List.append_nil]
    exact tk_refl
  · rw [← hs, sortI_length]; rfl
  · rw [hs]

theorem sorted_int_s (gf : FuncId) (caps : List AV) (kvs : List (Int × AV)) (hit : List HA) (it : IterT Try.prog gf caps (KNx kvs) (KE kvs) hit) (hl : kvs.length ≤ 1000000) : Triple Try.prog 118 [.fn (.func gf) caps] hit (Is (.sl 1 ((sortI (kvs.map Prod.fst)).map intA)) hit) :=
  ((sorted_int gf caps kvs hit it hl).mono (Q' := Own 3 1 ((sortI (kvs.map Prod.fst)).map intA) hit) fun q h' ⟨g, c, hq, hh⟩ => ⟨g, c, by rw [List.length_map]; exact hq, hh⟩).settle

end A
end Go.Proofs.Ytmcannmjielalaa
