/- Texts that ConfigTextsCard's proof rests on, part 14. -/
import Derived.Lib.ItoaLen
import Derived.Shelf.Small.Wraps
import Derived.Shelf.Strconv.AtoiAll
import Derived.Shelf.Strconv.Itoa3
import Derived.Shelf.Strings.OnBuilder
import Derived.Shelf.Strings.Prefix
import Derived.Shelf.Strings.Split
import Derived.Test.YtgdfppjapnpcgaaDoorS12ConfigTextsCard
set_option linter.unusedVariables false
set_option linter.unusedSimpArgs false
namespace Go.Proofs.YtgdfppjapnpcgaaDoor
namespace A
open Go.Shelf Go.RowKit Go.Sort
variable {P : Program}
theorem R.below {F : Nat → Prop} {H : List HA} {w w' : World} (r : R F H w) (b : Below w.heap.size w w') : R F H w' ∧ Ext F H w F H w' :=
 ⟨⟨fun x hx => (r.rep x hx).mono (fun _ h => h) (fun k hk => b.block k (r.sep k hk).1) (fun k hk => b.block k (r.lt k (List.mem_flatMap.2 ⟨x, hx, hk⟩))), r.nd, fun k hk => Nat.lt_of_lt_of_le (r.lt k hk) b.size, fun k hk => ⟨Nat.lt_of_lt_of_le (r.sep k hk).1 b.size, (r.sep k hk).2⟩⟩, ⟨b.os, b.output, b.tape, b.size, fun k hk _ => b.block k hk, fun k hk => .inl hk, fun _ h => h, fun _ h => .inl h⟩⟩
theorem below_grow (w : World) (k : Nat) (os : Array Obj) : Below w.heap.size w (grow (w.drewN k) os) :=
 ⟨rfl, rfl, rfl, by simp [grow, World.drewN], fun j hj => by simp [grow, World.drewN, Array.getElem?_append_left hj]⟩
theorem below_bytes (w : World) (e : TypeId) (s : ByteArray) : Below w.heap.size w (Lib.bytesWorld w e s) :=
 ⟨rfl, rfl, rfl, by simp [Lib.bytesWorld, World.freeze, World.alloc, World.drew, -World.alloc_eq, -World.drew_eq], fun j hj => Lib.bytesWorld_at_old w e s j hj⟩
theorem reps_v1 {F : Nat → Prop} {w : World} {a : Value} {vs : Array Value} (h : Reps F w [.v a] vs) : vs = #[a] := by
 obtain ⟨h1, h2⟩ := h
 obtain ⟨x, rfl⟩ : ∃ x, vs = #[x] := by
   match vs, h1 with
   | ⟨[x]⟩, _ => exact ⟨x, rfl⟩
 have := h2 0 _ x rfl rfl
 cases this
 rfl
theorem reps_v2 {F : Nat → Prop} {w : World} {a b : Value} {vs : Array Value} (h : Reps F w [.v a, .v b] vs) : vs = #[a, b] := by
 obtain ⟨h1, h2⟩ := h
 obtain ⟨x, y, rfl⟩ : ∃ x y, vs = #[x, y] := by
   match vs, h1 with
   | ⟨[x, y]⟩, _ => exact ⟨x, y, rfl⟩
 have := h2 0 _ x rfl rfl
 cases this
 have := h2 1 _ y rfl rfl
 cases this
 rfl
/-- A contract of the shelf that turns nothing of what was there. -/
theorem tri_below {f : FuncId} {args : List AV} {H : List HA} {Q : Value → Prop} (hb : HasBody P f) (hc : ∀ F w vs, R F H w → Reps F w args vs → Calls P f vs w fun e w' => ∃ v, e = .returned v ∧ Q v ∧ Below w.heap.size w w') : Triple P f args H (fun r h' => (∃ v, r = .v v ∧ Q v) ∧ h' = H) :=
 ⟨hb, fun F w vs hr ha => (hc F w vs hr ha).mono fun e w' ⟨v, he, hq, hB⟩ => ⟨.v v, v, H, F, he, ⟨⟨v, rfl, hq⟩, rfl⟩, .v v, (hr.below hB).1, (hr.below hB).2⟩⟩
theorem tri_is {f : FuncId} {args : List AV} {H : List HA} {v : Value} (t : Triple P f args H (fun r h' => (∃ x, r = .v x ∧ x = v) ∧ h' = H)) : Triple P f args H (Is (.v v) H) :=
 t.mono fun r h' ⟨⟨x, h1, h2⟩, h3⟩ => ⟨by rw [h1, h2], h3⟩
theorem triple_trimSuffix {ρ : Ren} {f : FuncId} (L : Lays.n102 P ρ) (hf : ρ.f 102 = f) (hb : HasBody P f) (s p : SB) (hs : s.length ≤ 9223372036854775807) : Triple P f [strA s, strA p] [] (Is (strA (Lib.trimSuffix s p)) []) := by
 subst hf
 refine tri_is (tri_below hb fun F w vs hr ha => ?_)
 rw [reps_v2 ha]
 exact (Any.strings_TrimSuffix L ⟨s.toArray⟩ ⟨p.toArray⟩ w (by rw [str_size]; exact hs)).mono fun e w' ⟨he, hw⟩ => ⟨_, he, rfl, hw ▸ Below.refl _ _⟩
theorem triple_itoa {ρ : Ren} {f : FuncId} (L : LaysM.n171 P ρ) (hf : ρ.f 171 = f) (hb : HasBody P f) (g : Nat) (o : Obj) (hg : ∀ w : World, w.heap[g]? = some o → Lib.TabIs P w "internal/strconv.uint64pow10" .u64 Lib.pow10Tab) (n : Int) (h0 : -9223372036854775808 ≤ n) (h1 : n ≤ 9223372036854775807) : Triple P f [.int n] [.know g o] (Is (strA (Lib.itoa n)) [.know g o]) := by
 subst hf
 refine tri_is (tri_below hb fun F w vs hr ha => ?_)
 rw [reps_v1 ha]
 have hk := hr.rep (.know g o) (List.mem_singleton.2 rfl)
 exact (Any.strconv_Itoa L n h0 h1 w (hg w hk.2)).mono fun e w' ⟨he, k, os, hw⟩ => ⟨_, he, rfl, hw ▸ below_grow w k os⟩
/-- How a word is read as a number: it, and none; or something, and an error. -/
def AtoiP (s : SB) (v : Value) : Prop := ∃ n ev, v = .tuple #[.int .i64 n, ev] ∧ ((Lib.atoiAll s = .ok n ∧ ev = .nilIface) ∨ ((∀ m, Lib.atoiAll s ≠ .ok m) ∧ ∃ te pe, ev = .iface te pe))
theorem triple_atoi {ρ : Ren} {f : FuncId} (L : LaysC.n172 P ρ) (hf : ρ.f 172 = f) (hb : HasBody P f) {g1 g2 : Nat} {e1 e2 : Value} {t1 t2 : TypeId} {z1 z2 : Nat × Nat} (hg1 : ρ.g 15 = g1) (hg2 : ρ.g 16 = g2) (h1 : e1 = .nilIface ∨ ∃ te pe, e1 = .iface te pe) (h2 : e2 = .nilIface ∨ ∃ te pe, e2 = .iface te pe) (s : SB) (hs : s.length ≤ 281474976710656) :
   Triple P f [strA s] [.know g1 (.cells #[e1] t1 z1), .know g2 (.cells #[e2] t2 z2)] (fun r h' => (∃ v, r = .v v ∧ AtoiP s v) ∧ h' = [.know g1 (.cells #[e1] t1 z1), .know g2 (.cells #[e2] t2 z2)]) := by
 subst hf hg1 hg2
 refine tri_below hb fun F w vs hr ha => ?_
 rw [reps_v1 ha]
 have k1 := hr.rep (.know _ (.cells #[e1] t1 z1)) (List.mem_cons_self ..)
 have k2 := hr.rep (.know _ (.cells #[e2] t2 z2)) (List.mem_cons_of_mem _ (List.mem_cons_self ..))
 have c1 : w.cell? ⟨ρ.g 15, 0, none⟩ = some e1 := by simp [World.cell?, k1.2]
 have c2 : w.cell? ⟨ρ.g 16, 0, none⟩ = some e2 := by simp [World.cell?, k2.2]
 have hz : (ByteArray.mk s.toArray).size ≤ 281474976710656 := by rw [str_size]; exact hs
 cases hA : Lib.atoiAll s with
 | ok n =>
   refine (Any.strconv_Atoi_ok L ⟨s.toArray⟩ (by omega) n hA w).mono fun e w' ⟨he, hw⟩ => ⟨_, he, ⟨n, _, rfl, .inl ⟨hA, rfl⟩⟩, ?_⟩
   rcases hw with rfl | ⟨t, rfl⟩
   ·exact Below.refl _ _
   ·exact below_bytes _ _ _
 | range => exact (Any.strconv_Atoi_range L ⟨s.toArray⟩ hz hA e2 w c2 h2).mono fun e w' ⟨N, he, _, _, hB⟩ => ⟨_, he, ⟨_, _, rfl, .inr ⟨fun m hm => (by rw [hA] at hm; cases hm), _, _, rfl⟩⟩, hB⟩
 | _ => exact (Any.strconv_Atoi_syntax L ⟨s.toArray⟩ hz hA e1 w c1 h1).mono fun e w' ⟨N, he, _, _, hB⟩ => ⟨_, he, ⟨_, _, rfl, .inr ⟨fun m hm => (by rw [hA] at hm; cases hm), _, _, rfl⟩⟩, hB⟩
theorem triple_cutPrefix {ρ : Ren} {f : FuncId} (L : Lays.n103 P ρ) (hf : ρ.f 103 = f) (hb : HasBody P f) (s p : SB) : Triple P f [strA s, strA p] [] (Is (.tup [strA (Lib.trimPrefix s p), .v (.bool (Lib.hasPrefix s p))]) []) := by
 subst hf
 refine ⟨hb, fun F w vs hr ha => ?_⟩
 rw [reps_v2 ha]
 refine (Any.strings_CutPrefix L ⟨s.toArray⟩ ⟨p.toArray⟩ w).mono fun e w' ⟨he, hw⟩ => ?_
 subst hw
 exact ⟨_, _, [], F, he, ⟨rfl, rfl⟩, .tup _ _ rfl (fun j av x hj hx => by
   match j with
   | 0 => simp at hj hx; subst hj; subst hx; exact .v _
   | 1 => simp at hj hx; subst hj; subst hx; exact .v _
   | j + 2 => simp at hj), hr, .refl _ _ _⟩
/-- A text cut at each place where sep stands. -/
def splitS (s sep : SB) : List SB := (Lib.splitB ⟨sep.toArray⟩ 0 (Lib.countB ⟨s.toArray⟩ ⟨sep.toArray⟩) ⟨s.toArray⟩).map (·.data.toList)
theorem ba_mk (x : ByteArray) : (ByteArray.mk x.data.toList.toArray) = x := by cases x; simp
theorem triple_split {ρ : Ren} {f : FuncId} (L : Lays.n146 P ρ) (hi9 : (P.info? (ρ.t 9)).map (fun i => (i.zero, i.size, i.bytes)) = some (some (.string ByteArray.empty), 1, 16)) (hf : ρ.f 146 = f) (hb : HasBody P f) {g : Nat} {m : Int} {t e : TypeId} {z : Nat × Nat} (hg : ρ.g 1 = g) (he : ρ.t 9 = e) (s sep : SB) (hs : s.length < 4294967281) (h1 : 1 ≤ sep.length) :
   Triple P f [strA s, strA sep] [.know g (.cells #[.int .i64 m] t z)] (Own e 1 ((splitS s sep).map fun x => [strA x]) [.know g (.cells #[.int .i64 m] t z)]) := by
 subst hf hg he
 refine ⟨hb, fun F w vs hr ha => ?_⟩
 rw [reps_v2 ha]
 have k1 := hr.rep _ (List.mem_singleton.2 rfl)
 have c1 : w.cell? ⟨ρ.g 1, 0, none⟩ = some (.int .i64 m) := by simp [World.cell?, k1.2]
 have hs' : (ByteArray.mk s.toArray).size < 4294967281 := by rw [str_size]; exact hs
 have h1' : 1 ≤ (ByteArray.mk sep.toArray).size := by rw [str_size]; exact h1
 obtain ⟨xs, hxs⟩ : ∃ xs, xs = Lib.splitB ⟨sep.toArray⟩ 0 (Lib.countB ⟨s.toArray⟩ ⟨sep.toArray⟩) ⟨s.toArray⟩ := ⟨_, rfl⟩
 have hlen : xs.length = Lib.countB ⟨s.toArray⟩ ⟨sep.toArray⟩ + 1 := by rw [hxs]; exact Lib.splitB_all _ h1' 0 _ _ rfl
 have hle := Lib.countB_le ⟨sep.toArray⟩ h1' _ ⟨s.toArray⟩ (Nat.le_refl _)
 refine (Any.strings_Split L hi9 ⟨s.toArray⟩ ⟨sep.toArray⟩ m w hs' c1 h1').mono fun ex w' ⟨hex, hw⟩ => ?_
 rw [← hxs] at hw
 subst hw
 have hel : ((splitS s sep).map fun x => [strA x]) = xs.map fun x => [AV.v (.string x)] := by
   unfold splitS
   rw [← hxs, List.map_map]
   refine List.map_congr_left fun x _ => ?_
   simp only [Function.comp, strA, ba_mk]
 rw [hel]
 have hn : (xs.map fun x => [AV.v (.string x)]).length = xs.length := List.length_map _
 obtain ⟨hR, hE, _⟩ := R.new (x := .sl (some w.heap.size) xs.length (ρ.t 9) 1 (xs.map fun x => [AV.v (.string x)])) (o := .cells (xs.map Value.string).toArray (ρ.t 9)) hr rfl ⟨xs.map Value.string, ⟨by rw [hn, List.length_map, Nat.mul_one], .inr ⟨w.heap.size, xs.length, (xs.map Value.string).toArray, by rw [hn]; rfl, Nat.zero_le _, by simp [World.alloc, -World.alloc_eq], by rw [hn]; exact Nat.le_refl _, by unfold maxLen; omega, by simp, by rw [hn, Nat.mul_one]; simp only [List.toList_toArray]; exact List.take_of_length_le (by simp)⟩⟩, fun y hy => by obtain ⟨z, _, rfl⟩ := List.mem_map.1 hy; rfl, fun x hx => by obtain ⟨z, _, rfl⟩ := List.mem_map.1 hx; rfl, fun i j y av x hi hj hx => by
   rw [List.getElem?_map, Option.map_eq_some_iff] at hi
   obtain ⟨z, hz, rfl⟩ := hi
   match j with
   | 0 => simp at hj; subst hj; simp [hz] at hx; subst hx; exact .v _
   | j + 1 => simp at hj⟩
 exact ⟨_, _, _, F, hex, ⟨some w.heap.size, xs.length, rfl, rfl⟩, by rw [hn, hlen]; exact .v _, hR, hE⟩
theorem triple_join {ρ : Ren} {f : FuncId} (L : Lays.n156 P ρ) (X : Builder.Extra P ρ) (hf : ρ.f 156 = f) (hb : HasBody P f) (xs : List SB) (sep : SB) (hn : xs.length ≤ 140737488355328) (hl : (Lib.join xs sep).length ≤ 140737488355328) : Triple P f [.sl 1 (xs.map fun x => [strA x]), strA sep] [] (Is (strA (Lib.join xs sep)) []) := by
 subst hf
 refine tri_is (tri_below hb fun F w vs hr ha => ?_)
 obtain ⟨h1, h2⟩ := ha
 obtain ⟨x, y, rfl⟩ : ∃ x y, vs = #[x, y] := by
   match vs, h1 with
   | ⟨[x, y]⟩, _ => exact ⟨x, y, rfl⟩
 have hx := h2 0 _ x rfl rfl
 have hy := h2 1 _ y rfl rfl
 cases hy
 have hX : (xs.map fun x => ByteArray.mk x.toArray).map (·.data.toList) = xs := by rw [List.map_map]; simp [Function.comp_def]
 generalize hes : (xs.map fun x => [strA x]) = es at hx
 cases hx with
 | sl0 _ a c =>
   have : xs = [] := by simpa using hes
   subst this
   exact (Any.strings_Join_none L X a c ⟨sep.toArray⟩ w).mono fun e w' ⟨he, hw⟩ => ⟨_, he, rfl, hw ▸ Below.refl _ _⟩
 | sl _ _ b o c Z hF hc hz hZ h1' hR =>
   subst hes
   have hlen : (xs.map fun x => [strA x]).length = xs.length := List.length_map _
   rw [hlen] at hc hZ h1' ⊢
   have hcell : ∀ (j : Nat) x, (xs.map fun x => ByteArray.mk x.toArray)[j]? = some x → w.cell? ⟨b, o + j, none⟩ = some (.string x) := fun j x hj => by
     rw [List.getElem?_map, Option.map_eq_some_iff] at hj
     obtain ⟨z, hz', rfl⟩ := hj
     have hjl : j < xs.length := (List.getElem?_eq_some_iff.1 hz').1
     have e1 := hZ j 0 hjl (by decide)
     have e2 := hR j 0 [strA z] (strA z) (by simp [hz']) rfl
     generalize Z j 0 = q at e1 e2
     cases e2
     simpa using e1
   cases hxs : xs with
   | nil => subst hxs; exact (Any.strings_Join_none L X _ c ⟨sep.toArray⟩ w).mono fun e w' ⟨he, hw⟩ => ⟨_, he, rfl, hw ▸ Below.refl _ _⟩
   | cons q qs =>
     have hbk : b < w.heap.size := (hr.sep b hF).1
     have := Any.strings_Join L X b o c (xs.map fun x => ByteArray.mk x.toArray) ⟨sep.toArray⟩ w hcell hbk (by rw [List.length_map]; exact hn) (by rw [List.length_map]; exact hc) (by rw [hX]; exact hl)
     rw [List.length_map, hX] at this
     rw [← hxs]
     exact this.mono fun e w' ⟨he, hw⟩ => ⟨_, he, rfl, hw⟩
end A
end Go.Proofs.YtgdfppjapnpcgaaDoor
