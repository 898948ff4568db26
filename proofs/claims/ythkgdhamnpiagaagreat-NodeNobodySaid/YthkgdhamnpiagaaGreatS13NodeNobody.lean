/- Texts that NodeNobody's proof rests on, part 14. -/
import Derived.Laws.BytesString
import Derived.Test.YthkgdhamnpiagaaGreatS12NodeNobody
set_option linter.unusedVariables false
set_option linter.unusedSimpArgs false
namespace Go.Proofs.YthkgdhamnpiagaaGreat
namespace A
open Go.Lib Go.RowKit
variable {P : Program} {N : Nat} {env : Env} {h : List HA} {K : Env → List HA → Prop}
theorem Rep.monoC {F F' : Nat → Prop} {w w' : World} {av : AV} {x : Value} (hF : ∀ b, F b → F' b) (hcell : ∀ b o, F b → w'.cell? ⟨b, o, none⟩ = w.cell? ⟨b, o, none⟩) (h : Rep F w av x) : Rep F' w' av x := by
 induction h with
 | v x => exact .v x
 | sl0 sz a c => exact .sl0 sz a c
 | sl sz es b o c X hb hc hz hX h1 _ ih => exact .sl sz es b o c X (hF b hb) hc hz (fun i j hi hj => by rw [hcell _ _ hb]; exact hX i j hi hj) h1 ih
 | sp cs b o X hb hX h1 _ ih => exact .sp cs b o X (hF b hb) (fun j hj => by rw [hcell _ _ hb]; exact hX j hj) h1 ih
 | agg cs xs hl h1 _ ih => exact .agg cs xs hl h1 ih
 | tup cs xs hl _ ih => exact .tup cs xs hl ih
 | fn f cs xs hl _ ih => exact .fn f cs xs hl ih
/-- A literal's bytes get the run-time's mark: settled from then on. -/
theorem oMark {o : Oper} {t e : TypeId} {x : Operand} {d b c n : Nat} {es : List (List AV)} {h' : List HA} (hs : Spl h (.sl (some b) c e 1 es) h') (ht : P.underlying t = some (.slice e)) (he : intKindOf P e = some .u8) (ho : o.op = .convert t t x) (hd : o.dst = some d) (hN : d < N) (hx : ev env x = some (.v (slV (some b) n c))) (hn : n = es.length)
   (hk : K ((d, .sl 1 es) :: env) h') : AOp P N o env h K := by
 subst hn
 intro B F a w Q s ex hdef
 have heu := intKindOf_spec he
 have hxv := s.ev hx
 generalize hv : a.eval x = vx at hxv
 cases hxv
 have hr := s.r.rep _ (spl_mem hs)
 obtain ⟨cur, hg, hnc, hcm, hcs, _⟩ := row_of hr
 have hsh : w.shape? b = some (e, cur.size) := by unfold World.shape?; rw [hg]
 obtain ⟨w', hw'⟩ : ∃ w', w' = w.freeze ⟨b, cur.size, none⟩ 1 := ⟨_, rfl⟩
 have hwb : ∀ k, k ≠ b → w'.heap[k]? = w.heap[k]? := fun k hk => by
   rw [hw']
   unfold World.freeze
   rw [if_neg (by decide)]
   simp [Array.getElem?_modify, Ne.symm hk]
 have hwg : w'.heap[b]? = some (.cells cur e (cur.size, cur.size + 1)) := by
   rw [hw']
   unfold World.freeze
   rw [if_neg (by decide)]
   simp [Array.getElem?_modify, hg]
 have hcell : ∀ k q, w'.cell? ⟨k, q, none⟩ = w.cell? ⟨k, q, none⟩ := fun k q => by
   by_cases hkb : k = b
   ·subst hkb
    simp only [World.cell?, hwg, hg]
   ·simp only [World.cell?, hwb k hkb]
 have hf : w'.os = w.os ∧ w'.output = w.output ∧ w'.tape = w.tape ∧ w'.heap.size = w.heap.size ∧ w'.drawn = w.drawn := by
   rw [hw']
   unfold World.freeze
   rw [if_neg (by decide)]
   simp
 have hrun : (execOp a.eval o).run P w = .ok (.value (slV (some b) es.length c)) w' := by
   rw [hw']
   simp only [execOp, ho, hv]
   simp [convert, slV, run_underlying' ht, run_underlying' heu, markStringish, hsh]
 have r1 := s.r.perm hs.perm
 have hnd := r1.nd
 rw [owns_cons] at hnd
 have hF' : ∀ k, F k → (F k ∨ k = b) := fun k hk => .inl hk
 have hbo : b ∈ owns h := (owns_perm hs.perm).mem_iff.2 (by simp [HA.own])
 have hFb : ∀ k, F k → k ≠ b := fun k hk e => (s.r.sep k hk).2 (e ▸ hbo)
 have hob : ∀ k ∈ owns h', k ≠ b := fun k hk e => (List.nodup_append.1 hnd).2.2 b (by simp [HA.own]) k hk e.symm
 unfold Oper.wp
 rw [hrun, Oper.upon_value, hd]
 have hR : R (fun k => F k ∨ k = b) h' w' := ⟨fun y hy => (r1.rep y (by simp [hy])).mono hF' (fun k hk => hwb k (hFb k hk)) (fun k hk => hwb k (hob k (List.mem_flatMap.2 ⟨y, hy, hk⟩))), (List.nodup_append.1 hnd).2.1, fun k hk => by rw [hf.2.2.2.1]; exact r1.lt k (by simp [hk]), fun k hk => by
   rw [hf.2.2.2.1]
   rcases hk with hk | rfl
   ·have := r1.sep k hk; rw [owns_cons] at this; exact ⟨this.1, fun hm => this.2 (List.mem_append_right _ hm)⟩
   ·exact ⟨r1.lt k (by simp [HA.own]), fun hm => hob k hm rfl⟩⟩
 have hE : Ext F h w (fun k => F k ∨ k = b) h' w' := ⟨hf.1, hf.2.1, hf.2.2.1, Nat.le_of_eq hf.2.2.2.1.symm, fun k hk hn => hwb k (fun e2 => hn (by rw [e2]; exact hbo)), fun k hk => .inl ((owns_perm hs.perm).mem_iff.2 (by simp [hk])), hF', fun k hk => hk.imp id (fun e2 => .inl (by rw [e2]; exact hbo)), Nat.le_of_eq hf.2.2.2.2.symm⟩
 have hv1 : Rep (fun k => F k ∨ k = b) w' (.sl 1 es) (slV (some b) es.length c) := (own_settled (F' := fun k => F k ∨ k = b) hr hF' (fun k hk => .inr (by simp at hk; exact hk.symm))).monoC (fun _ h => h) (fun k q _ => hcell k q)
 exact ⟨hdef, _, _, _, hk, s.put hE hR hN hv1, ex.trans hE⟩
/-! ### Bytes as a text -/
def baOf (b : List Nat) : ByteArray := (b.map fun (n : Nat) => (n : Int)).foldl (fun r n => r.push (UInt8.ofNat n.toNat)) ByteArray.empty
theorem ba_loop (bs : ByteArray) : ∀ (n i : Nat) (r : List UInt8), bs.size - i = n → ByteArray.toList.loop bs i r = r.reverse ++ bs.data.toList.drop i
 | 0, i, r, h => by
   unfold ByteArray.toList.loop
   rw [if_neg (by omega), List.drop_of_length_le (by rw [Array.length_toList]; show bs.size ≤ i; omega), List.append_nil]
 | n + 1, i, r, h => by
   unfold ByteArray.toList.loop
   have hi : i < bs.size := by omega
   rw [if_pos hi, ba_loop bs n (i + 1) _ (by omega), List.reverse_cons, List.append_assoc, List.drop_eq_getElem_cons (i := i) (by rw [Array.length_toList]; exact hi)]
   congr 1
   simp only [List.singleton_append, List.cons.injEq, and_true]
   rw [Array.getElem_toList]
   exact getElem!_pos bs.data i hi
theorem ba_toList (bs : ByteArray) : bs.toList = bs.data.toList := by
 unfold ByteArray.toList
 rw [ba_loop bs _ 0 [] rfl]
 simp
theorem baOf_data (b : List Nat) : (baOf b).toList = b.map fun n => UInt8.ofNat n := by
 have key : ∀ (b : List Nat) (r : ByteArray), ((b.map fun (n : Nat) => (n : Int)).foldl (fun r n => r.push (UInt8.ofNat n.toNat)) r).data.toList = r.data.toList ++ b.map fun n => UInt8.ofNat n := fun b => by
   induction b with
   | nil => intro r; simp
   | cons x t ih =>
     intro r
     rw [List.map_cons, List.foldl_cons, ih]
     simp [ByteArray.push]
 rw [ba_toList]
 exact key b ByteArray.empty
theorem baOf_eq {a b : List Nat} (ha : ∀ x ∈ a, x < 256) (hb : ∀ x ∈ b, x < 256) : ((baOf a).toList == (baOf b).toList) = decide (a = b) := by
 rw [baOf_data, baOf_data, Bool.eq_iff_iff, decide_eq_true_eq, beq_iff_eq]
 constructor
 ·intro h
  apply List.ext_getElem?
  intro i
  have h1 := congrArg (fun l => l[i]?) h
  simp only [List.getElem?_map] at h1
  cases hai : a[i]? with
  | none =>
    rw [hai] at h1
    cases hbi : b[i]? with
    | none => rfl
    | some y => rw [hbi] at h1; simp at h1
  | some x =>
    rw [hai] at h1
    cases hbi : b[i]? with
    | none => rw [hbi] at h1; simp at h1
    | some y =>
      rw [hbi] at h1
      simp only [Option.map_some, Option.some.injEq] at h1
      have h2 := congrArg UInt8.toNat h1
      have hx := ha x (List.mem_of_getElem? hai)
      have hy := hb y (List.mem_of_getElem? hbi)
      rw [UInt8.toNat_ofNat', UInt8.toNat_ofNat'] at h2
      congr 1
      omega
 ·intro h; rw [h]
theorem run_str {t t' e : TypeId} {b : List Nat} {F : Nat → Prop} {w : World} {v : Value} (ht : P.underlying t = some (.slice e)) (ht' : P.underlying t' = some .string) (heu : P.underlying e = some (.int .u8)) (hr : Rep F w (.sl 1 (b.map fun (n : Nat) => [.v (.int .u8 n)])) v) : (convert t t' v).run P w = .ok (.string (baOf b)) w := by
 have key : (Conv.bytesToString v).run P w = .ok (.string (baOf b)) w ∧ ∃ ad n c, v = .slice ad n c := by
   generalize hes : (b.map fun (n : Nat) => ([.v (.int .u8 n)] : List AV)) = es at hr
   cases hr with
   | sl0 _ ad c =>
     have : b = [] := by cases b with
       | nil => rfl
       | cons x t => simp at hes
     subst this
     refine ⟨?_, _, _, _, rfl⟩
     cases ad with
     | none => simp [Conv.bytesToString, baOf]
     | some ad => exact run_bytesToString w ad 0 c [] (run_loadCells_list (P := P) w ad [] (fun j v hj => by simp at hj))
   | sl _ _ b0 p c X hF hcc hz hX h1 hR =>
     have hl : es.length = b.length := by rw [← hes, List.length_map]
     rw [hl]
     refine ⟨run_bytesToString w ⟨b0, p, none⟩ b.length c (b.map fun (n : Nat) => (n : Int)) ?_, _, _, _, rfl⟩
     have hcl := run_loadCells (P := P) w ⟨b0, p, none⟩ b.length (fun j => X j 0) (fun j hj => by rw [add_none]; have := hX j 0 (by omega) (by decide); rwa [Nat.mul_one, Nat.add_zero] at this)
     rw [hcl]
     congr 2
     apply List.ext_getElem?
     intro i
     rw [List.getElem?_map, List.getElem?_map, List.getElem?_map]
     by_cases hi : i < b.length
     ·rw [List.getElem?_range hi, List.getElem?_eq_getElem hi]
      have := hR i 0 [.v (.int .u8 b[i])] (.v (.int .u8 b[i])) (by rw [← hes, List.getElem?_map, List.getElem?_eq_getElem hi]; rfl) rfl
      simp only [Option.map_some, Option.some.injEq]
      generalize X i 0 = q at this
      cases this
      rfl
     ·rw [List.getElem?_eq_none (by simp; omega), List.getElem?_eq_none (by omega)]
      rfl
 obtain ⟨h1, ad, n, c, rfl⟩ := key
 cases ad <;> simp [convert, run_underlying' ht, run_underlying' ht', run_underlying' heu, h1]
theorem rStr {o : Oper} {t t' e : TypeId} {x : Operand} {b : List Nat} (ht : P.underlying t = some (.slice e)) (ht' : P.underlying t' = some .string) (he : intKindOf P e = some .u8) (ho : o.op = .convert t t' x := by rfl) (hx : ev env x = some (.sl 1 (b.map fun (n : Nat) => [.v (.int .u8 n)])) := by rfl) : ARead P N o env h (.v (.string (baOf b))) := by
 intro F a w st
 have heu := intKindOf_spec he
 have hr := st.ev hx
 generalize hv : a.eval x = v at hr
 refine ⟨_, .v _, fun w' ag => ?_⟩
 have h2 : (convert t t' v).run P w' = .ok (.string (baOf b)) w' := run_str ht ht' heu (hr.mono (fun _ h => h) (fun k hk => ag k (.inl hk)))
 simp [execOp, ho, hv, h2, Result.andThen]
/-! ### Noughts behind a slice of one's own -/
theorem run_append_grow_zeros (w : World) (t tn ty e : TypeId) (i : TypeInfo) (z : Value) (k kn : IntKind) (ht : P.underlying t = some (.slice e)) (htn : P.underlying tn = some (.int kn)) (hi : P.info? e = some i) (hz : i.zero = some z) (base : Option Addr) (sLen sCap : Nat) (olds : List Value)
   (hold : (Builtin.firstCells i.size sLen (.slice base sLen sCap)).run P w.drew = .ok olds.toArray w.drew) (m : Nat) (h0 : 0 < m) (hs : 0 < i.size) (hg : sCap < sLen + m) (h63 : ((sLen + m : Nat) : Int) ≤ 9223372036854775807) (h48 : m * i.bytes ≤ 281474976710656) (hfit : Builtin.nextslicecap (sLen + m) sCap * i.bytes ≤ 281474976710656) :
   (Builtin.append_ #[t, tn] ty #[.slice base sLen sCap, .int k m]).run P w =
     .ok (.slice (some ⟨w.heap.size, 0, none⟩) (sLen + m) (grownCap w (sLen + m) sCap e))
       (w.drew.alloc (.cells ((olds ++ (Builtin.zeroCells z.cells m).toList).toArray ++ Builtin.zeroCells z.cells (grownCap w (sLen + m) sCap e - (sLen + m))) e)) := by
 have hn : ¬ (sLen + m ≤ sCap) := by omega
 have hm : m ≠ 0 := by omega
 have hw : IntKind.i64.wrap (m : Int) = m := by rw [IntKind.wrap_i64]; omega
 have h63' : ¬ (9223372036854775807 < ((sLen : Int) + (m : Int))) := by omega
 have h48' : ¬ (281474976710656 < Builtin.nextslicecap (sLen + m) sCap * i.bytes) := by omega
 have h48i : ¬ (281474976710656 < (m : Int) * (i.bytes : Int)) := by
   rw [← Int.natCast_mul]
   omega
 have hneg : ¬ ((m : Int) < 0) := by omega
 have hns : ¬ (m * i.size = 0) := Nat.mul_ne_zero hm (by omega)
 simp [Builtin.append_, run_underlying ht, run_underlying htn, sizeOf, typeInfo, zeroValue, hi, hz, asInt, asIntOf, hw, hm, hn, hneg, hns, h63', h48', h48i, Question.forced, hold, newRow, grownCap]
 congr 2
 apply Array.ext'
 simp [List.append_assoc]
theorem run_append_room_zeros (w w' : World) (t tn ty e : TypeId) (i : TypeInfo) (z : Value) (k kn : IntKind) (ht : P.underlying t = some (.slice e)) (htn : P.underlying tn = some (.int kn)) (hi : P.info? e = some i) (hz : i.zero = some z) (b : Nat) (sLen sCap : Nat)
   (m : Nat) (h0 : 0 < m) (hs : 0 < i.size) (hg : sLen + m ≤ sCap) (h63 : ((sLen + m : Nat) : Int) ≤ 9223372036854775807) (h48 : m * i.bytes ≤ 281474976710656)
   (hst : (storeCells (⟨b, sLen * i.size, none⟩ : Addr) (Builtin.zeroCells z.cells m).toList).run P w = .ok () w') :
   (Builtin.append_ #[t, tn] ty #[.slice (some ⟨b, 0, none⟩) sLen sCap, .int k m]).run P w = .ok (.slice (some ⟨b, 0, none⟩) (sLen + m) sCap) w' := by
 have hm : m ≠ 0 := by omega
 have hw : IntKind.i64.wrap (m : Int) = m := by rw [IntKind.wrap_i64]; omega
 have h48i : ¬ (281474976710656 < (m : Int) * (i.bytes : Int)) := by
   rw [← Int.natCast_mul]
   omega
 have hneg : ¬ ((m : Int) < 0) := by omega
 have hns : ¬ (m * i.size = 0) := Nat.mul_ne_zero hm (by omega)
 simp [Builtin.append_, run_underlying ht, run_underlying htn, sizeOf, typeInfo, zeroValue, hi, hz, asInt, asIntOf, hw, hm, hg, hneg, hns, h48i, add_none, hst]
theorem run_appendZO {w : World} {t tx ty e : TypeId} {i : TypeInfo} {z : Value} {sz : Nat} {g : Option Nat} {n c m : Nat} {xs : List Value} {k kn : IntKind} (ht : P.underlying t = some (.slice e)) (htn : P.underlying tx = some (.int kn)) (hi : P.info? e = some i) (hz : i.zero = some z) (hsz : i.size = sz) (hzs : z.cells.size = sz) (h0 : 0 < sz) (hm0 : 0 < m)
   (ho : w.ownsRow 0 e sz (slV g n c) n xs) (h1 : z.cells.toList.all (·.oneCell') = true) (h63 : n + m ≤ 9223372036854775807) (hby : (n + m) * i.bytes ≤ 140737488355328) :
   ∃ g' c' w', (Builtin.append_ #[t, tx] ty #[slV g n c, .int k m]).run P w = .ok (slV g' (n + m) c') w' ∧ w'.ownsRow 0 e sz (slV g' (n + m) c') (n + m) (xs ++ (Builtin.zeroCells z.cells m).toList) ∧ w'.os = w.os ∧ w'.output = w.output ∧ w'.tape = w.tape ∧ w.heap.size ≤ w'.heap.size ∧
     (∀ b, g' = some b → g = some b ∨ b = w.heap.size ∧ w'.heap.size = w.heap.size + 1) ∧ (∀ b, b < w.heap.size → g ≠ some b → w'.heap[b]? = w.heap[b]?) ∧ w.drawn ≤ w'.drawn := by
 subst hsz
 have hzl : (Builtin.zeroCells z.cells m).toList.length = m * i.size := by rw [Array.length_toList, size_zeroCells', hzs]
 have hlen : (xs ++ (Builtin.zeroCells z.cells m).toList).length = (n + m) * i.size := by rw [List.length_append, ho.1, hzl, Nat.add_mul]
 have hmb : m * i.bytes ≤ 281474976710656 := by
   have : m * i.bytes ≤ (n + m) * i.bytes := Nat.mul_le_mul_right _ (by omega)
   omega
 have hone : ∀ x ∈ (Builtin.zeroCells z.cells m).toList, x.oneCell' = true := fun x hx => by
   obtain ⟨q, hq⟩ := List.mem_iff_getElem?.1 hx
   have hqlt : q < m * i.size := by have := (List.getElem?_eq_some_iff.1 hq).1; rwa [hzl] at this
   have hq2 : (Builtin.zeroCells z.cells m)[q]? = some x := by simpa using hq
   have hlt2 : q % z.cells.size < z.cells.size := Nat.mod_lt _ (by omega)
   simp only [Builtin.zeroCells, Array.getElem?_map, Array.getElem?_range, hzs, hqlt, if_true, Option.map_some, Option.some.injEq] at hq2
   rw [← hq2]
   refine List.all_eq_true.1 h1 _ ?_
   rw [← hzs]
   rw [getElem!_pos z.cells _ hlt2]
   simp
 by_cases hroom : n + m ≤ c
 ·rcases ho.2 with ⟨hv, hn⟩ | ⟨b, cap, cur, hv, _, hg, hnc, hcm, hcs, htake⟩
  ·exfalso
   have hc0 : c = 0 := by simp [slV] at hv; exact hv.2.2
   omega
  ·have hgb : g = some b := by
     cases g with
     | none => simp [slV] at hv
     | some b' => simp [slV] at hv; rw [hv.1]
   have hcc : c = cap := by subst hgb; simp [slV] at hv; exact hv
   subst hgb; subst hcc
   have hfit : n * i.size + (Builtin.zeroCells z.cells m).toList.length ≤ cur.size := by rw [hzl, hcs, ← Nat.add_mul]; exact Nat.mul_le_mul_right _ hroom
   have hst := run_storeCells_at P b (n * i.size) e (Builtin.zeroCells z.cells m).toList 0 cur w hg (by simpa using hfit) hone
   simp only [Nat.add_zero] at hst
   refine ⟨some b, c, w.setRow b (cur.toList.take (n * i.size) ++ (Builtin.zeroCells z.cells m).toList ++ cur.toList.drop (n * i.size + (Builtin.zeroCells z.cells m).toList.length)).toArray, run_append_room_zeros w _ t tx ty e i z k kn ht htn hi hz b n c m hm0 h0 hroom (by omega) hmb hst, ⟨hlen, .inr ⟨b, c, _, rfl, Nat.zero_le _, setRow_heap w b cur _ e _ hg, hroom, hcm, ?_, ?_⟩⟩, rfl, rfl, rfl, by simp, fun k hk => .inl (by rw [hk]), fun k _ hk => setRow_other w b k _ (fun e => hk (by rw [e])), Nat.le_refl _⟩
   ·simp only [List.size_toArray, List.length_append, List.length_take, List.length_drop, Array.length_toList] at hfit ⊢
    omega
   ·rw [htake, ← hlen]
    exact List.take_left
 ·have hold : (Builtin.firstCells i.size n (slV g n c)).run P w.drew = .ok xs.toArray w.drew := by
    rcases ho.2 with ⟨hv, hn⟩ | ⟨b, cap, cur, hv, _, hg, hnc, hcm, hcs, htake⟩
    ·have hx : xs = [] := List.eq_nil_of_length_eq_zero (by rw [ho.1, hn, Nat.zero_mul])
     rw [hv, hn, hx]
     simp [Builtin.firstCells]
    ·rw [hv]
     have := ho.cells (g := b) (by rw [hv]; rfl)
     simp only [Builtin.firstCells]
     rw [← ho.1]
     exact run_loadCells_list w.drew ⟨b, 0, none⟩ xs (fun j u hj => this j u hj)
  have hnext : Builtin.nextslicecap (n + m) c * i.bytes ≤ 281474976710656 := by
    have h1 : Builtin.nextslicecap (n + m) c ≤ 2 * (n + m) := nextslicecap_le' (by omega)
    have := Nat.mul_le_mul_right i.bytes h1
    rw [Nat.mul_assoc] at this
    omega
  have hr := run_append_grow_zeros (P := P) w t tx ty e i z k kn ht htn hi hz (g.map fun b => ⟨b, 0, none⟩) n c xs hold m hm0 h0 (by omega) (by omega) hmb hnext
  have hge := grownCap_ge w (n + m) c e
  have hml : n + m ≤ maxLen := by simp only [maxLen]; omega
  have hcm : grownCap w (n + m) c e ≤ maxLen := grownCap_le_maxLen w (n + m) c e hml
  refine ⟨some w.heap.size, grownCap w (n + m) c e, _, hr, ⟨hlen, .inr ⟨w.heap.size, _, _, rfl, Nat.zero_le _, heap_new w.drew _, hge, hcm, ?_, ?_⟩⟩, rfl, rfl, rfl, by simp, fun b hb => .inr (by simp at hb; subst hb; simp), fun b hb _ => heap_old w.drew _ b hb, Nat.le_succ _⟩
  ·simp only [Array.size_append, List.size_toArray, size_zeroCells', hzs, hlen, ← Nat.add_mul]
   congr 1
   omega
  ·simp only [Array.toList_append]
   rw [← hlen]
   exact List.take_left
theorem zeroCells_at {z : Value} {m sz : Nat} (hzs : z.cells.size = sz) {i j : Nat} (hi : i < m) (hj : j < sz) : (Builtin.zeroCells z.cells m)[i * sz + j]? = z.cells[j]? := by
 have hlt := idx_lt hi hj
 have hm : (i * sz + j) % z.cells.size = j := by rw [hzs, Nat.mul_comm, Nat.mul_add_mod, Nat.mod_eq_of_lt hj]
 simp only [Builtin.zeroCells, Array.getElem?_map, Array.getElem?_range, hzs, hlt, if_true, Option.map_some]
 rw [hzs] at hm
 rw [hm]
 simp [hzs, hj]
theorem oAppZ {o : Oper} {t t' e : TypeId} {x y : Operand} {k kn : IntKind} {sz by_ d n c m : Nat} {g : Option Nat} {es : List (List AV)} {z : Value} {h' : List HA} (zs : List AV) (ho : o.op = .call ⟨.builtin .append, #[x, y], #[t, t']⟩) (hd : o.dst = some d) (hN : d < N) (hx : ev env x = some (.v (slV g n c))) (hy : ev env y = some (.v (.int k (m : Int))))
   (hs : Spl h (.sl g c e sz es) h') (hn : n = es.length) (ht : elemOf P t = some (e, sz, by_)) (hti' : intKindOf P t' = some kn) (hz : zeroOf P e = some z) (h1 : z.cells.toList.all (·.oneCell') = true) (hzs : zs.length = sz)
   (hrep : ∀ (F : Nat → Prop) (w : World) (j : Nat) av x, zs[j]? = some av → z.cells[j]? = some x → Rep F w av x) (h0 : 0 < m) (hb : (n + m) * by_ ≤ 140737488355328) (hmx : n + m ≤ 1000000000)
   (hk : ∀ g' c', K ((d, .v (slV g' (n + m) c')) :: env) (.sl g' c' e sz (es ++ List.replicate m zs) :: h')) : AOp P N o env h K := by
 subst hn
 intro B F a w Q s ex hdef
 obtain ⟨hu, i, z', hi, hzz, hisz, hzs', hsz0, hby⟩ := elemOf_spec ht
 have hze : z' = z := by
   unfold zeroOf at hz
   rw [hi, Option.bind_some, hzz] at hz
   exact Option.some.inj hz
 subst hze
 have hti := intKindOf_spec hti'
 have hxv := s.ev hx
 have hyv := s.ev hy
 generalize hv : a.eval x = vx at hxv
 generalize hv2 : a.eval y = vy at hyv
 cases hxv
 cases hyv
 obtain ⟨xs, hown, hxz, hx1, hxr⟩ := s.r.rep _ (spl_mem hs)
 obtain ⟨g', c', w', hrun, ho', hos, hout, htp, hsz, hg, hkp, hdr⟩ := run_appendZO (P := P) (ty := o.type) (k := k) (m := m) hu hti hi hzz hisz hzs' hsz0 h0 hown h1 (by omega) (by rw [hby]; exact hb)
 have hzl : (Builtin.zeroCells z'.cells m).toList.length = m * sz := by rw [Array.length_toList, size_zeroCells', hzs']
 obtain ⟨hR, hE⟩ := s.r.appended (w' := w') (g' := g') (c' := c') (ns := List.replicate m zs) (xs := xs) (news := (Builtin.zeroCells z'.cells m).toList) hs
   (by rw [List.length_replicate]; exact ho') hown.1 (by
     intro y hy
     rcases List.mem_append.1 hy with hy | hy
     ·exact hxz y hy
     ·rw [List.eq_of_mem_replicate hy, hzs]) (by
     intro x hx
     rcases List.mem_append.1 hx with hx | hx
     ·exact hx1 x hx
     ·obtain ⟨q, hq⟩ := List.mem_iff_getElem?.1 hx
      have hq2 : (Builtin.zeroCells z'.cells m)[q]? = some x := by simpa using hq
      have hqlt : q < m * sz := by have := (List.getElem?_eq_some_iff.1 hq).1; rwa [hzl] at this
      have hdiv : q / sz < m := (Nat.div_lt_iff_lt_mul hsz0).2 hqlt
      have := zeroCells_at (m := m) hzs' hdiv (Nat.mod_lt q hsz0)
      rw [Nat.mul_comm (q / sz) sz, Nat.div_add_mod, hq2] at this
      exact List.all_eq_true.1 h1 x (by simpa using Array.mem_of_getElem? this.symm))
   hxr
   (fun i j y av x hi hj hx => by
     have hil : i < m := by have := (List.getElem?_eq_some_iff.1 hi).1; simpa using this
     have hy : y = zs := List.eq_of_mem_replicate (List.mem_of_getElem? hi)
     subst hy
     have hjl : j < sz := by rw [← hzs]; exact (List.getElem?_eq_some_iff.1 hj).1
     have hx2 : (Builtin.zeroCells z'.cells m)[i * sz + j]? = some x := by simpa using hx
     rw [zeroCells_at hzs' hil hjl] at hx2
     exact hrep F _ j av x hj hx2)
   hos hout htp hsz hg hkp hdr
 have hrun2 : (execOp a.eval o).run P w = .ok (.value (slV g' (es.length + m) c')) w' := by
   simp only [execOp, ho, resolve, Sem.run_bind, Sem.run_pure, Result.andThen_ok, invoke, builtin]
   simp only [List.map_toArray, List.map_cons, List.map_nil, hv, hv2, hrun, Result.andThen_ok]
 unfold Oper.wp
 rw [hrun2, Oper.upon_value, hd]
 exact ⟨hdef, F, _, _, hk _ _, s.put hE hR hN (.v _), ex.trans hE⟩
theorem oAppZ0 {o : Oper} {t t' e : TypeId} {x y : Operand} {k kn : IntKind} {sz by_ d n c : Nat} {g : Option Nat} {es : List (List AV)} {h' : List HA} (ho : o.op = .call ⟨.builtin .append, #[x, y], #[t, t']⟩) (hd : o.dst = some d) (hN : d < N) (hx : ev env x = some (.v (slV g n c))) (hy : ev env y = some (.v (.int k 0)))
   (hs : Spl h (.sl g c e sz es) h') (hn : n = es.length) (ht : elemOf P t = some (e, sz, by_)) (hti' : intKindOf P t' = some kn) (hk : K ((d, .v (slV g n c)) :: env) h) : AOp P N o env h K := by
 subst hn
 intro B F a w Q s ex hdef
 obtain ⟨hu, i, z', hi, hzz, hisz, hzs', hsz0, hby⟩ := elemOf_spec ht
 have hti := intKindOf_spec hti'
 have hxv := s.ev hx
 have hyv := s.ev hy
 generalize hv : a.eval x = vx at hxv
 generalize hv2 : a.eval y = vy at hyv
 cases hxv
 cases hyv
 obtain ⟨xs, hown, _⟩ := s.r.rep _ (spl_mem hs)
 have hnc : es.length ≤ c := by
   rcases hown.2 with ⟨hv, hn⟩ | ⟨b, cap, cur, hv, _, hg, hnc, hcm, hcs, htake⟩
   ·omega
   ·cases g with
    | none => simp [slV] at hv
    | some b' => simp [slV] at hv; omega
 have hw : IntKind.i64.wrap 0 = 0 := by rw [IntKind.wrap_i64]; omega
 have hrun : (execOp a.eval o).run P w = .ok (.value (slV g es.length c)) w := by
   simp only [execOp, ho, resolve, Sem.run_bind, Sem.run_pure, Result.andThen_ok, invoke, builtin]
   simp only [List.map_toArray, List.map_cons, List.map_nil, hv, hv2]
   cases g with
   | none => simp [slV, Builtin.append_, run_underlying' hu, run_underlying' hti, sizeOf, typeInfo, hi, asInt, asIntOf, hw, hnc]
   | some b => simp [slV, Builtin.append_, run_underlying' hu, run_underlying' hti, sizeOf, typeInfo, hi, asInt, asIntOf, hw, hnc, storeCells]
 unfold Oper.wp
 rw [hrun, Oper.upon_value, hd]
 exact ⟨hdef, F, _, _, hk, s.put (.refl F h w) s.r hN (.v _), ex⟩
theorem oAppZn {o : Oper} {t t' e : TypeId} {x y : Operand} {k kn : IntKind} {sz by_ d n c m : Nat} {g : Option Nat} {es : List (List AV)} {z : Value} {h' : List HA} (zs : List AV) (ho : o.op = .call ⟨.builtin .append, #[x, y], #[t, t']⟩) (hd : o.dst = some d) (hN : d < N) (hx : ev env x = some (.v (slV g n c))) (hy : ev env y = some (.v (.int k (m : Int))))
   (hs : Spl h (.sl g c e sz es) h') (hn : n = es.length) (ht : elemOf P t = some (e, sz, by_)) (hti' : intKindOf P t' = some kn) (hz : zeroOf P e = some z) (h1 : z.cells.toList.all (·.oneCell') = true) (hzs : zs.length = sz)
   (hrep : ∀ (F : Nat → Prop) (w : World) (j : Nat) av x, zs[j]? = some av → z.cells[j]? = some x → Rep F w av x) (hb : (n + m) * by_ ≤ 140737488355328) (hmx : n + m ≤ 1000000000)
   (hk : ∀ g' c', K ((d, .v (slV g' (n + m) c')) :: env) (.sl g' c' e sz (es ++ List.replicate m zs) :: h')) : AOp P N o env h K := by
 by_cases h0 : 0 < m
 ·exact oAppZ zs ho hd hN hx hy hs hn ht hti' hz h1 hzs hrep h0 hb hmx hk
 ·obtain rfl : m = 0 := by omega
  have hk0 := hk g c
  rw [List.replicate_zero, List.append_nil, Nat.add_zero] at hk0
  refine AOp.weakW (K' := fun env2 h2 => env2 = (d, .v (slV g n c)) :: env ∧ h2 = h) weak_refl (oAppZ0 ho hd hN hx hy hs hn ht hti' ⟨rfl, rfl⟩) (fun env2 h2 ⟨e1, e2⟩ => ?_)
  subst e1; subst e2
  exact ⟨_, weak_perm hs.perm, hk0⟩
end A
end Go.Proofs.YthkgdhamnpiagaaGreat
namespace Go.Proofs.YthkgdhamnpiagaaGreat
namespace A
theorem fd_142_0 : fieldOf Tryz.prog 142 0 = some (0, 1, false) := by kernel_rfl
theorem fd_142_1 : fieldOf Tryz.prog 142 1 = some (1, 1, false) := by kernel_rfl
theorem fd_142_2 : fieldOf Tryz.prog 142 2 = some (2, 1, false) := by kernel_rfl
theorem fd_142_3 : fieldOf Tryz.prog 142 3 = some (3, 1, false) := by kernel_rfl
theorem fd_142_4 : fieldOf Tryz.prog 142 4 = some (4, 1, false) := by kernel_rfl
theorem fd_142_5 : fieldOf Tryz.prog 142 5 = some (5, 1, false) := by kernel_rfl
theorem fd_142_6 : fieldOf Tryz.prog 142 6 = some (6, 1, false) := by kernel_rfl
theorem ty_142 : tyOf Tryz.prog 142 = some (7, true) := by kernel_rfl
theorem anyB_idx (p : Nat → Bool) (l : BS) : decide (0 ≤ idxF p l) = l.any p := by
 rcases idxF_cases p l with ⟨h1, h2⟩ | ⟨i, x, h1, h2, h3⟩
 ·rw [h1]
  have : l.any p = false := by
    rw [List.any_eq_false]
    exact fun x hx => by simpa using List.find?_eq_none.1 h2 x hx
  rw [this]
  rfl
 ·rw [h1]
  have : l.any p = true := List.any_eq_true.2 ⟨x, List.mem_of_getElem? h2, List.find?_some h3⟩
  rw [this, decide_eq_true_eq]
  omega
def ints3 (p : Pg) : List Int := [p.gen, p.mark, p.index]
def preA (p : Pg) (i : Nat) : BS := magicB ++ be 1 p.kind.toNat ++ ((ints3 p).take i).flatMap fun n => be 4 n.toNat
theorem preA_step {p : Pg} {i : Nat} {x : Int} (h : (ints3 p)[i]? = some x) : preA p (i + 1) = preA p i ++ be 4 x.toNat := by
 unfold preA
 rw [take_step h, List.flatMap_append, ← List.append_assoc]
 simp
theorem preA_len (p : Pg) (i : Nat) : (preA p i).length ≤ 100 := by
 have : ((ints3 p).take i).length ≤ 3 := Nat.le_trans (List.length_take_le' i (ints3 p)) (by simp [ints3])
 have key : ∀ l : List Int, (l.flatMap fun n => be 4 n.toNat).length = 4 * l.length := fun l => by
   induction l with
   | nil => rfl
   | cons x t ih => rw [List.flatMap_cons, List.length_append, ih, be_len, List.length_cons]; omega
 unfold preA magicB
 simp only [List.length_append, be_len, key, List.length_cons, List.length_nil]
 omega
theorem preP_eq (p : Pg) : preP p = preA p 3 ++ be 1 p.part.toNat ++ be 1 p.parts.toNat ++ be 2 p.b.length ++ p.b := by
 unfold preP preA ints3
 simp only [List.take_succ_cons, List.take_zero, List.flatMap_cons, List.flatMap_nil, List.append_nil, List.append_assoc]
theorem preP_ok {p : Pg} (h : BOk p.b) : BOk (padB (preP p)) := fun x hx => by
 refine putPg_ok h x ?_
 unfold putPg sealB
 exact List.mem_append_left _ hx
theorem magic_len : magicB.length = 3 := rfl
theorem magic_ok : BOk magicB := fun x hx => by
 simp only [magicB, List.mem_cons, List.not_mem_nil, or_false] at hx
 omega
/- page.within -/
set_option maxRecDepth 100000 in
set_option maxHeartbeats 400000 in
theorem pg_within {n lo hi : Int} : Triple Tryz.prog 210 [.int n, .int lo, .int hi] [] (Is (.v (.bool (inr n lo hi))) []) := by
 refine triple_of Tryz.func210 rfl (by kernel_rfl) rfl (by simp) ?_
 refine aSeq ?_
 refine aReg ?_
 refine sp pMa ?_
 refine oNil ?_
 refine aSeq ?_
 refine aReg ?_
 refine sp pM ?_
 refine sp pM ?_
 refine sp pB ?_
 refine sp pM ?_
 refine oSplitDec 10 rfl (fun c10 => ?_) (fun c10 => ?_)
 ·skip
  refine gp pM ?_
  refine gp pM ?_
  refine gp pB ?_
  refine sp pK ?_
  refine sp pMa ?_
  refine oNil ?_
  refine aRet ?_
  refine finIs rfl ?_
  simp_all [retOf, inr]
  all_goals omega
 ·skip
  refine gf ?_
  refine gf ?_
  refine gf ?_
  refine sp pK ?_
  refine sp pMa ?_
  refine oNil ?_
  refine aRet ?_
  refine finIs rfl ?_
  simp_all [retOf, inr]
  all_goals omega
/- page.may -/
set_option maxRecDepth 100000 in
set_option maxHeartbeats 400000 in
theorem pg_may {p : Pg} (hl : p.b.length ≤ 1000000 := by omega) : Triple Tryz.prog 116 [.agg (pgC p)] [] (Is (.v (.bool (mayPg p))) []) := by
 refine triple_of Tryz.func116 rfl (by kernel_rfl) rfl (by simp) ?_
 refine aSeq ?_
 refine aReg ?_
 refine sq ?_
 refine qBox rfl rfl (by decide) rfl rfl (fun b1 => ?_)
 refine sp pMa ?_
 refine oNil ?_
 refine aSeq ?_
 refine aReg ?_
 refine sp (pFb fd_142_0) ?_
 refine sr (rB1 ty_3) ?_
 refine sq ?_
 refine cv rfl rfl rfl (lents_refl _) pg_within ?_
 refine sp pM ?_
 refine oSplit 6 rfl (fun c6 => ?_) (fun c6 => ?_)
 ·skip
  refine gp (pFb fd_142_1) ?_
  refine gr (rB1 ty_3) ?_
  refine ga ?_
  refine (cv rfl rfl rfl (lents_refl _) pg_within ?_).op
  refine sp pK ?_
  refine sp pM ?_
  refine oSplit 11 rfl (fun c11 => ?_) (fun c11 => ?_)
  ·skip
   refine gp (pFb fd_142_2) ?_
   refine gr (rB1 ty_3) ?_
   refine ga ?_
   refine (cv rfl rfl rfl (lents_refl _) pg_within ?_).op
   refine sp pK ?_
   refine sp pM ?_
   refine oSplit 16 rfl (fun c16 => ?_) (fun c16 => ?_)
   ·skip
    refine gp (pFb fd_142_3) ?_
    refine gr (rB1 ty_3) ?_
    refine ga ?_
    refine (cv rfl rfl rfl (lents_refl _) pg_within ?_).op
    refine sp pK ?_
    refine sp pM ?_
    refine oSplit 21 rfl (fun c21 => ?_) (fun c21 => ?_)
    ·skip
     refine gp (pFb fd_142_5) ?_
     refine gr (rB1 ty_3) ?_
     refine ga ?_
     refine (cv rfl rfl rfl (lents_refl _) pg_within ?_).op
     refine sp pK ?_
     refine sp pM ?_
     refine oSplit 26 rfl (fun c26 => ?_) (fun c26 => ?_)
     ·skip
      refine gp (pFb fd_142_4) ?_
      refine gr (rB1 ty_3) ?_
      refine gp (pFb fd_142_5) ?_
      refine gr (rB1 ty_3) ?_
      have hpp : 1 ≤ p.parts ∧ p.parts ≤ 16 := by
        have hq : inr p.parts 1 16 = true := by simp_all
        simp only [inr, Bool.and_eq_true, decide_eq_true_eq] at hq
        exact hq
      refine gp pSu ?_
      refine ga ?_
      refine (cv rfl rfl rfl (lents_refl _) pg_within ?_).op
      refine sp pK ?_
      refine sp pM ?_
      refine oSplit 34 rfl (fun c34 => ?_) (fun c34 => ?_)
      ·skip
       refine gp (pFb fd_142_6) ?_
       refine gr (rB1 ty_50) ?_
       refine gp (by first | exact pLm sl_50 | exact pLs sl_50 | exact pLv sl_50) ?_
       refine gp pB ?_
       refine sp pK ?_
       refine sp pMa ?_
       refine oNil ?_
       refine aRet ?_
       refine finIs rfl ?_
       simp_all [retOf, mayPg]
       all_goals omega
      ·skip
       refine gf ?_
       refine gf ?_
       refine gf ?_
       refine gf ?_
       refine sp pK ?_
       refine sp pMa ?_
       refine oNil ?_
       refine aRet ?_
       refine finIs rfl ?_
       simp_all [retOf, mayPg]
       all_goals omega
     ·skip
      refine gf ?_
      refine gf ?_
      refine gf ?_
      refine gf ?_
      refine gf ?_
      refine gf ?_
      refine sp pK ?_
      refine sp pM ?_
      refine gf ?_
      refine gf ?_
      refine gf ?_
      refine gf ?_
      refine sp pK ?_
      refine sp pMa ?_
      refine oNil ?_
      refine aRet ?_
      refine finIs rfl ?_
      simp_all [retOf, mayPg]
      all_goals omega
    ·skip
     refine gf ?_
     refine gf ?_
     refine gf ?_
     refine sp pK ?_
     refine sp pM ?_
     refine gf ?_
     refine gf ?_
     refine gf ?_
     refine gf ?_
     refine gf ?_
     refine gf ?_
     refine sp pK ?_
     refine sp pM ?_
     refine gf ?_
     refine gf ?_
     refine gf ?_
     refine gf ?_
     refine sp pK ?_
     refine sp pMa ?_
     refine oNil ?_
     refine aRet ?_
     refine finIs rfl ?_
     simp_all [retOf, mayPg]
     all_goals omega
   ·skip
    refine gf ?_
    refine gf ?_
    refine gf ?_
    refine sp pK ?_
    refine sp pM ?_
    refine gf ?_
    refine gf ?_
    refine gf ?_
    refine sp pK ?_
    refine sp pM ?_
    refine gf ?_
    refine gf ?_
    refine gf ?_
    refine gf ?_
    refine gf ?_
    refine gf ?_
    refine sp pK ?_
    refine sp pM ?_
    refine gf ?_
    refine gf ?_
    refine gf ?_
    refine gf ?_
    refine sp pK ?_
    refine sp pMa ?_
    refine oNil ?_
    refine aRet ?_
    refine finIs rfl ?_
    simp_all [retOf, mayPg]
    all_goals omega
  ·skip
   refine gf ?_
   refine gf ?_
   refine gf ?_
   refine sp pK ?_
   refine sp pM ?_
   refine gf ?_
   refine gf ?_
   refine gf ?_
   refine sp pK ?_
   refine sp pM ?_
   refine gf ?_
   refine gf ?_
   refine gf ?_
   refine sp pK ?_
   refine sp pM ?_
   refine gf ?_
   refine gf ?_
   refine gf ?_
   refine gf ?_
   refine gf ?_
   refine gf ?_
   refine sp pK ?_
   refine sp pM ?_
   refine gf ?_
   refine gf ?_
   refine gf ?_
   refine gf ?_
   refine sp pK ?_
   refine sp pMa ?_
   refine oNil ?_
   refine aRet ?_
   refine finIs rfl ?_
   simp_all [retOf, mayPg]
   all_goals omega
 ·skip
  refine gf ?_
  refine gf ?_
  refine gf ?_
  refine sp pK ?_
  refine sp pM ?_
  refine gf ?_
  refine gf ?_
  refine gf ?_
  refine sp pK ?_
  refine sp pM ?_
  refine gf ?_
  refine gf ?_
  refine gf ?_
  refine sp pK ?_
  refine sp pM ?_
  refine gf ?_
  refine gf ?_
  refine gf ?_
  refine sp pK ?_
  refine sp pM ?_
  refine gf ?_
  refine gf ?_
  refine gf ?_
  refine gf ?_
  refine gf ?_
  refine gf ?_
  refine sp pK ?_
  refine sp pM ?_
  refine gf ?_
  refine gf ?_
  refine gf ?_
  refine gf ?_
  refine sp pK ?_
  refine sp pMa ?_
  refine oNil ?_
  refine aRet ?_
  refine finIs rfl ?_
  simp_all [retOf, mayPg]
  all_goals omega
/- page.Get$1 -/
set_option maxRecDepth 100000 in
set_option maxHeartbeats 400000 in
theorem pg_Get1 {n : Nat} : Triple Tryz.prog 119 [.v (.int .u8 n)] [] (Is (.v (.bool (n != 0))) []) := by
 refine triple_of Tryz.func119 rfl (by kernel_rfl) rfl (by simp) ?_
 refine aSeq ?_
 refine aReg ?_
 refine sp pMa ?_
 refine oNil ?_
 refine aSeq ?_
 refine aReg ?_
 refine sp pM ?_
 refine sp pB ?_
 refine sp pMa ?_
 refine oNil ?_
 refine aRet ?_
 refine finIs rfl ?_
 simp [retOf, bne]
 rw [Bool.eq_iff_iff]
 simp
/- page.Blank$1 -/
set_option maxRecDepth 100000 in
set_option maxHeartbeats 400000 in
theorem pg_Blank1 {n : Nat} : Triple Tryz.prog 319 [.v (.int .u8 n)] [] (Is (.v (.bool (n != 0))) []) := by
 refine triple_of Tryz.func319 rfl (by kernel_rfl) rfl (by simp) ?_
 refine aSeq ?_
 refine aReg ?_
 refine sp pMa ?_
 refine oNil ?_
 refine aSeq ?_
 refine aReg ?_
 refine sp pM ?_
 refine sp pB ?_
 refine sp pMa ?_
 refine oNil ?_
 refine aRet ?_
 refine finIs rfl ?_
 simp [retOf, bne]
 rw [Bool.eq_iff_iff]
 simp
/- slices.IndexFunc[[]byte,byte] -/
set_option maxRecDepth 100000 in
set_option maxHeartbeats 400000 in
theorem index_B {f : FuncId} {caps : List AV} {p : Nat → Bool} (hf : ∀ x : Nat, Triple Tryz.prog f ([AV.v (.int .u8 x)] ++ caps) [] (Is (.v (.bool (p x))) [])) (l : BS) (hl : l.length ≤ 1000000) : Triple Tryz.prog 211 [.sl 1 (l.map by1), .fn (.func f) caps] [] (Is (.v (.int .i64 (idxF p l))) []) := by
 refine triple_of Tryz.func211 rfl (by kernel_rfl) rfl (by simp) ?_
 refine aSeq ?_
 refine aReg ?_
 refine sp pMa ?_
 refine oNil ?_
 refine aSeq ?_
 refine aSeq ?_
 refine aReg ?_
 refine sp pM ?_
 refine sp (by first | exact pLm sl_50 | exact pLs sl_50) ?_
 refine sp pM ?_
 refine oNil ?_
 refine aBlock ?_
 refine loopF (α := Nat) (kept := [(0, _), (1, _), (7, _)]) (fun i => i ≤ l.length ∧ ∀ y ∈ l.take i, p y = false) (fun i => [(8, .int i)]) (fun i => []) (fun i => l.length - i) 0 ?_ ⟨gInt rfl (by first | rfl | omega | simp), rfl, rfl, rfl, trivial⟩ (by repeat constructor) ?_
 ·skip
  exact ⟨by omega, fun y hy => by simp at hy⟩
 ·rintro i ⟨hi, hv⟩
  refine aSeq ?_
  refine aReg ?_
  refine sp pB ?_
  refine oNil ?_
  refine aSeq ?_
  refine aCondDec rfl (fun c9 => ?_) (fun c9 => ?_)
  ·skip
   refine aSkip ?_
   refine aSeq ?_
   refine aBlock ?_
   refine aSeq ?_
   refine aReg ?_
   refine sp pM ?_
   refine sp pMa ?_
   refine oNil ?_
   refine aSeq ?_
   obtain ⟨x, hx⟩ : ∃ x, l[i]? = some x := ⟨_, List.getElem?_eq_getElem (by omega)⟩
   refine aReg ?_
   refine sp pM ?_
   refine sp pM ?_
   refine sp pM ?_
   first | refine sp (pIx es_50) ?_ | (refine obtSN 12 13 rfl rfl (by omega) (fun x14 hx14 => ?_); refine sp (pIs es_50 hx14) ?_) | (refine obtS 12 13 rfl rfl (by omega) (by omega) (fun x14 hx14 => ?_); refine sp (pIs es_50 hx14) ?_) | refine sp (pIo es_50) ?_
   refine sr (rS1 ty_5) ?_
   refine sq ?_
   refine cv rfl rfl rfl (lents_refl _) (hf x) ?_
   refine oNil ?_
   refine aCond rfl (fun c16 => ?_) (fun c16 => ?_)
   ·skip
    refine aSeq ?_
    refine aReg ?_
    refine sp pM ?_
    refine sp pMa ?_
    refine oNil ?_
    refine aRet ?_
    refine finIs rfl ?_
    show AV.int _ = AV.int _
    rw [(idxF_at hv hx (by simp_all)).1]
   ·skip
    refine aSkip ?_
    refine aReg ?_
    refine sp pAd ?_
    refine sp pM ?_
    refine oNil ?_
    refine ⟨i + 1, ?_, by (try dsimp only); omega, ⟨gInt rfl (by first | rfl | omega | simp), rfl, rfl, rfl, trivial⟩, _, (by repeat constructor)⟩
    refine ⟨by omega, fun y hy => ?_⟩
    rw [take_step hx] at hy
    rcases List.mem_append.1 hy with hy | hy
    ·exact hv y hy
    ·rw [List.mem_singleton.1 hy]; simp_all
  ·skip
   refine aExit rfl ?_
   refine aSeq ?_
   refine aReg ?_
   refine sp pMa ?_
   refine oNil ?_
   refine aRet ?_
   refine finIs rfl ?_
   show AV.int _ = AV.int _
   rw [take_all (by omega)] at hv
   rw [(idxF_no hv).1]
/- slices.ContainsFunc[[]byte,byte] -/
set_option maxRecDepth 100000 in
set_option maxHeartbeats 400000 in
theorem contains_B {f : FuncId} {caps : List AV} {p : Nat → Bool} (hf : ∀ x : Nat, Triple Tryz.prog f ([AV.v (.int .u8 x)] ++ caps) [] (Is (.v (.bool (p x))) [])) (l : BS) (hl : l.length ≤ 1000000) : Triple Tryz.prog 117 [.sl 1 (l.map by1), .fn (.func f) caps] [] (Is (.v (.bool (l.any p))) []) := by
 refine triple_of Tryz.func117 rfl (by kernel_rfl) rfl (by simp) ?_
 refine aSeq ?_
 refine aReg ?_
 refine sp pMa ?_
 refine oNil ?_
 refine aSeq ?_
 refine aReg ?_
 refine sp pM ?_
 refine sp pM ?_
 refine sq ?_
 refine cv rfl rfl rfl (lents_refl _) (index_B hf l hl) ?_
 refine sp pB ?_
 refine sp pMa ?_
 refine oNil ?_
 refine aRet ?_
 refine finIs rfl ?_
 rw [← anyB_idx]
 rfl
/- bytes.Equal -/
set_option maxRecDepth 100000 in
set_option maxHeartbeats 400000 in
theorem bytes_Equal {a b : BS} (ha : BOk a) (hb : BOk b) : Triple Tryz.prog 208 [.sl 1 (a.map by1), .sl 1 (b.map by1)] [] (Is (.v (.bool (decide (a = b)))) []) := by
 refine triple_of Tryz.func208 rfl (by kernel_rfl) rfl (by simp) ?_
 refine aSeq ?_
 refine aReg ?_
 refine sp pMa ?_
 refine oNil ?_
 refine aSeq ?_
 refine aReg ?_
 refine sp pM ?_
 refine sr (rStr (b := a) us_50 Tryz.underlying9 ik_5) ?_
 refine sp pM ?_
 refine sr (rStr (b := b) us_50 Tryz.underlying9 ik_5) ?_
 refine sp pB ?_
 refine sp pMa ?_
 refine oNil ?_
 refine aRet ?_
 refine finIs rfl ?_
 rw [← baOf_eq ha hb]
 rfl
/- bytes.HasPrefix -/
set_option maxRecDepth 100000 in
set_option maxHeartbeats 400000 in
theorem bytes_HasPrefix {a p : BS} (ha : BOk a) (hp : BOk p) (hal : a.length ≤ 1000000 := by omega) (hpl : p.length ≤ 1000000 := by omega) : Triple Tryz.prog 111 [.sl 1 (a.map by1), .sl 1 (p.map by1)] [] (Is (.v (.bool (decide (a.take p.length = p)))) []) := by
 refine triple_of Tryz.func111 rfl (by kernel_rfl) rfl (by simp) ?_
 refine aSeq ?_
 refine aReg ?_
 refine sp pMa ?_
 refine oNil ?_
 refine aSeq ?_
 refine aReg ?_
 refine sp pM ?_
 refine sp (by first | exact pLm sl_50 | exact pLs sl_50) ?_
 refine sp pM ?_
 refine sp (by first | exact pLm sl_50 | exact pLs sl_50) ?_
 refine sp pB ?_
 refine sp pM ?_
 refine oSplitDec 10 rfl (fun c10 => ?_) (fun c10 => ?_)
 ·skip
  refine gp pM ?_
  refine gp pM ?_
  refine gp (by first | exact pLm sl_50 | exact pLs sl_50) ?_
  refine gp (pSlice rfl rfl es_50 (bdN rfl) (bdI rfl) (by first | omega | (simp only [List.length_map]; omega)) (by first | omega | (simp only [List.length_map]; omega))) ?_
  rw [show ((a.map by1).drop 0).take (p.length - 0) = (a.take p.length).map by1 by rw [List.drop_zero, Nat.sub_zero, List.map_take]]
  refine gp pM ?_
  refine ga ?_
  refine (cv rfl rfl rfl (lents_refl _) (bytes_Equal (a := a.take p.length) (b := p) (fun x hx => ha x (List.mem_of_mem_take hx)) hp) ?_).op
  refine sp pK ?_
  refine sp pMa ?_
  refine oNil ?_
  refine aRet ?_
  refine finIs rfl ?_
  first
    | rfl
    | (show AV.bool _ = AV.bool _
       rw [decide_eq_false (fun e => by have := congrArg List.length e; rw [List.length_take] at this; omega)] <;> first | rfl | (simp_all; done) | (simp_all; omega))
 ·skip
  refine gf ?_
  refine gf ?_
  refine gf ?_
  refine gf ?_
  refine gf ?_
  refine gf ?_
  refine sp pK ?_
  refine sp pMa ?_
  refine oNil ?_
  refine aRet ?_
  refine finIs rfl ?_
  first
    | rfl
    | (show AV.bool _ = AV.bool _
       rw [decide_eq_false (fun e => by have := congrArg List.length e; rw [List.length_take] at this; omega)] <;> first | rfl | (simp_all; done) | (simp_all; omega))
/- page.Put -/
def pg_Put_r9_T : Bool × List (List Nat × List Nat) := (true, [([], []), ([], []), ([1], [1]), ([2], [2]), ([0, 3], [0, 3]), ([], []), ([5], [5]), ([6], [6]), ([4, 7, 4], [4, 7]), ([8, 8, 0, 1, 2, 3, 4, 5, 6, 7, 8], [0, 8])])
def pg_Put_r9_B : List Nat := [0, 0, 2, 6, 15, 0, 32, 96, 255, 511]
theorem pg_Put_r9_t : Go.Proofs.YthkgdhamnpiagaaGreatW.PrintLast.rtab .any (Go.Proofs.YthkgdhamnpiagaaGreatW.PrintLast.opsOf Tryz.f177 9) = pg_Put_r9_T := by kernel_rfl
theorem pg_Put_r9_b : Go.Proofs.YthkgdhamnpiagaaGreatW.PrintLast.waitsOk pg_Put_r9_T.2 pg_Put_r9_B = true := by kernel_rfl
set_option maxRecDepth 100000 in
set_option maxHeartbeats 2000000 in
theorem pg_Put {p : Pg} (hl : p.b.length ≤ 1000000 := by omega) (hk : BOk p.b) : Triple Tryz.prog 177 [.agg (pgC p)] [] (Is (.tup [bsA (if mayPg p then putPg p else []), .int (if mayPg p then 0 else 1)]) []) := by
 refine triple_of Tryz.func177 rfl (by kernel_rfl) rfl (by simp) ?_
 refine aSeq ?_
 refine aReg ?_
 refine sq ?_
 refine qBox rfl rfl (by decide) rfl rfl (fun b1 => ?_)
 refine sp pMa ?_
 refine sp pMa ?_
 refine oNil ?_
 refine aSeq ?_
 refine aSeq ?_
 refine aReg ?_
 refine sr (by first | exact rBWa ty_142 | exact rBW ty_142 | exact rBA ty_142) ?_
 refine sq ?_
 refine ci rfl rfl rfl (pg_may (p := p) hl) ?_
 refine sp pNo ?_
 refine oNil ?_
 refine aCondNot rfl (fun c9 => ?_) (fun c9 => ?_)
 ·skip
  refine aSeq ?_
  refine aReg ?_
  refine sp pMa ?_
  refine sp pMa ?_
  refine oNil ?_
  have hmy : mayPg p = false := by simp_all
  rw [hmy]
  refine aWeak (weak_cast (k := 2) (b := .sl 1 []) rfl cast_nil) ?_
  refine aRet ?_
  exact finIs rfl rfl
 ·skip
  refine aSkip ?_
  refine aSeq ?_
  have hmy : mayPg p = true := by simp_all
  have ho := mayPg_iff.1 hmy
  obtain ⟨q1, q2, q3, q4, q5, q6, q7⟩ := ho
  have h3l := preA_len p 3
  have hpl := preP_len p
  have hpd : (padB (preP p)).length = 508 := by
    unfold padB
    rw [List.length_append, List.length_replicate]
    omega
  refine aReg ?_
  refine sq ?_
  refine qLit (l := [_, _, _]) rfl rfl (by decide) us_50 ty_5 ze_5 rfl (by decide) (by decide) rfl rfl rfl (fun b10 => ?_)
  refine sa ?_
  refine oMark (es := magicB.map by1) (by repeat constructor) us_50 ik_5 rfl rfl (by decide) rfl rfl ?_
  refine sp (pFb fd_142_0) ?_
  refine sr (rB1 ty_3) ?_
  refine sp (pConv (n' := ((p.kind.toNat : Nat) : Int)) rfl rfl ik_3 ik_172 (by rw [Int.toNat_of_nonneg (by omega)]; exact wrap_u64 (by omega) (by omega))) ?_
  refine sq ?_
  refine ci rfl rfl rfl (oct_Num_s (b := magicB) (w := 1) (n := p.kind.toNat) (by decide) (by decide) (by decide)) ?_
  refine sp pMa ?_
  refine oNil ?_
  refine aSeq ?_
  refine aSeq ?_
  refine aReg ?_
  refine sp (pFb fd_142_1) ?_
  refine sr (rB1 ty_3) ?_
  refine sp (pFb fd_142_2) ?_
  refine sr (rB1 ty_3) ?_
  refine sp (pFb fd_142_3) ?_
  refine sr (rB1 ty_3) ?_
  refine sq ?_
  refine qLit (l := [_, _, _]) rfl rfl (by decide) us_138 ty_3 ze_3 rfl (by decide) (by decide) rfl rfl rfl (fun b22 => ?_)
  refine sp (pLv sl_138) ?_
  refine sp pM ?_
  refine oNil ?_
  refine aBlock ?_
  refine loopF (α := Nat) (kept := [(1, _), (22, _), (23, _)]) (fun i => i ≤ 3) (fun i => [(24, .int i), (4, .sl 1 ((preA p i).map by1))]) (fun i => [.sl (some b22) 3 3 1 (([p.gen, p.mark, p.index] : List Int).map intA)]) (fun i => 3 - i) 0 ?_ ⟨gInt rfl (by first | rfl | omega | simp), (by first | rfl | (rw [preA_step hx]; rfl)), rfl, rfl, rfl, trivial⟩ (by repeat constructor) ?_
  ·skip
   omega
  ·rintro i hi
   refine aSeq ?_
   refine aReg ?_
   refine sp pB ?_
   refine oNil ?_
   refine aSeq ?_
   refine aCondDec rfl (fun c25 => ?_) (fun c25 => ?_)
   ·skip
    refine aSkip ?_
    refine aSeq ?_
    refine aBlock ?_
    refine aSeq ?_
    have hil := preA_len p i
    obtain ⟨x, hx⟩ : ∃ z, (ints3 p)[i]? = some z := ⟨_, List.getElem?_eq_getElem (by show i < 3; omega)⟩
    have hx2 : ([p.gen, p.mark, p.index] : List Int)[i]? = some x := hx
    have hxr : 0 ≤ x ∧ x ≤ 2147483648 := by
      have := List.mem_of_getElem? hx
      simp only [ints3, List.mem_cons, List.not_mem_nil, or_false] at this
      omega
    refine aReg ?_
    refine sp (pIo es_138) ?_
    refine sr (rO1 ty_3 hx2) ?_
    refine sp pMa ?_
    refine oNil ?_
    refine aReg ?_
    refine sp pM ?_
    refine sp pM ?_
    refine sp (pConv (n' := ((x.toNat : Nat) : Int)) rfl rfl ik_3 ik_172 (by rw [Int.toNat_of_nonneg (by omega)]; exact wrap_u64 (by omega) (by omega))) ?_
    refine sq ?_
    refine ci rfl rfl rfl (oct_Num_s (b := preA p i) (w := 4) (n := x.toNat) (by omega) (by decide) (by decide)) ?_
    refine sp pMa ?_
    refine oNil ?_
    refine aReg ?_
    refine sp pAd ?_
    refine sp pM ?_
    refine oNil ?_
    refine ⟨i + 1, ?_, by (try dsimp only); omega, ⟨gInt rfl (by first | rfl | omega | simp), (by first | rfl | (rw [preA_step hx]; rfl)), rfl, rfl, rfl, trivial⟩, _, (by repeat constructor)⟩
    omega
   ·skip
    refine aExit rfl ?_
    refine aSeq ?_
    obtain rfl : i = 3 := by omega
    refine aDrawT pg_Put_r9_t pg_Put_r9_b [] 10 #[false, false, false, false, false, false, false, false, false, false] (by kernel_rfl) rfl rfl (fun HT => ?_)
    refine dp HT 0 rfl pM ?_
    refine dp HT 1 rfl (pFb fd_142_4) ?_
    refine dr HT 2 rfl (rB1 ty_3) ?_
    refine dp HT 3 rfl (pConv (n' := ((p.part.toNat : Nat) : Int)) rfl rfl ik_3 ik_172 (by rw [Int.toNat_of_nonneg (by omega)]; exact wrap_u64 (by omega) (by omega))) ?_
    refine dp HT 5 rfl (pFb fd_142_5) ?_
    refine dr HT 6 rfl (rB1 ty_3) ?_
    refine dp HT 7 rfl (pConv (n' := ((p.parts.toNat : Nat) : Int)) rfl rfl ik_3 ik_172 (by rw [Int.toNat_of_nonneg (by omega)]; exact wrap_u64 (by omega) (by omega))) ?_
    refine dGo ?_
    refine e1 HT 4 rfl ?_
    refine ci rfl rfl rfl (oct_Num_s (b := preA p 3) (w := 1) (n := p.part.toNat) (by omega) (by decide) (by decide)) ?_
    refine e1 HT 8 rfl ?_
    refine ci rfl rfl rfl (oct_Num_s (b := preA p 3 ++ be 1 p.part.toNat) (w := 1) (n := p.parts.toNat) (by rw [List.length_append, be_len]; omega) (by decide) (by decide)) ?_
    refine ePure (i := 9) #[true, true, true, true, true, true, true, true, true, true] rfl rfl rfl (HT.any (by kernel_rfl)) (by exact pMa) (by decide) ?_
    refine eE HT ?_
    clear HT
    refine aSeq ?_
    refine aReg ?_
    refine sp pM ?_
    refine sp (pFb fd_142_6) ?_
    refine sr (rB1 ty_50) ?_
    refine sa ?_
    refine ca rfl rfl rfl (oct_Text (b := preA p 3 ++ be 1 p.part.toNat ++ be 1 p.parts.toNat) (t := p.b) (by simp only [List.length_append, be_len]; omega) (by omega)) ?_
    rintro _ _ ⟨gt, ct, rfl, rfl⟩
    rw [← preP_eq]
    refine sp pM ?_
    refine sp pX ?_
    refine sp pX ?_
    refine sp pMa ?_
    refine oNil ?_
    refine aSeq ?_
    refine aReg ?_
    refine sp pM ?_
    refine sp pM ?_
    refine sp (by first | exact pLm sl_50 | exact pLs sl_50 | exact pLv sl_50) ?_
    refine sp pSu ?_
    rw [show (508 : Int) - ((preP p).length : Nat) = ((508 - (preP p).length : Nat) : Int) by omega]
    refine sa ?_
    refine oAppZn (m := 508 - (preP p).length) (by1 0) rfl rfl (by decide) rfl rfl (by repeat constructor) (by simp) el_50 ik_3 ze_5 rfl rfl (fun F w j av x hj hx => by match j with | 0 => (simp [by1] at hj; simp [Value.cells] at hx; subst hj; subst hx; exact .v _) | j + 1 => simp [by1] at hj) (by omega) (by omega) (fun g53 k53 => ?_)
    refine oWeak (weak_settle (k := 53) rfl (by repeat constructor) (by first | (simp; done) | (simp; omega))) ?_
    rw [show (preP p).map by1 ++ List.replicate (508 - (preP p).length) (by1 0) = (padB (preP p)).map by1 by unfold padB; rw [List.map_append, List.map_replicate]]
    refine sq ?_
    refine ci rfl rfl rfl (chk_Seal_s (b := padB (preP p)) (by omega) (preP_ok hk)) ?_
    refine sp pMa ?_
    refine sp pMa ?_
    refine oNil ?_
    refine aRet ?_
    refine finIs rfl ?_
    rw [hmy]
    rfl
/- page.Blank -/
set_option maxRecDepth 100000 in
set_option maxHeartbeats 400000 in
theorem pg_Blank {b : BS} (hb : b.length ≤ 1000000 := by omega) : Triple Tryz.prog 256 [.sl 1 (b.map by1)] [] (Is (.v (.bool (blankB b))) []) := by
 refine triple_of Tryz.func256 rfl (by kernel_rfl) rfl (by simp) ?_
 refine aSeq ?_
 refine aReg ?_
 refine sp pMa ?_
 refine oNil ?_
 refine aSeq ?_
 refine aReg ?_
 refine sp pM ?_
 refine sp (by first | exact pLm sl_50 | exact pLs sl_50) ?_
 refine sp pB ?_
 refine sp pM ?_
 refine oSplitEq 6 rfl (fun c6 => ?_) (fun c6 => ?_)
 ·skip
  refine gp pM ?_
  refine ga ?_
  refine (cv rfl rfl rfl (lents_refl _) (contains_B (f := 319) (caps := []) (p := fun n => n != 0) (fun x => pg_Blank1) b hb) ?_).op
  refine gp pNo ?_
  refine sp pK ?_
  refine sp pMa ?_
  refine oNil ?_
  refine aRet ?_
  refine finIs rfl ?_
  simp_all [retOf, blankB]
  all_goals omega
 ·skip
  refine gf ?_
  refine gf ?_
  refine gf ?_
  refine sp pK ?_
  refine sp pMa ?_
  refine oNil ?_
  refine aRet ?_
  refine finIs rfl ?_
  simp_all [retOf, blankB]
  all_goals omega
end A
end Go.Proofs.YthkgdhamnpiagaaGreat
namespace Go.Proofs.YthkgdhamnpiagaaGreat
namespace A
theorem st_142 : structPlaces Tryz.prog 142 = some [(0, 1), (1, 1), (2, 1), (3, 1), (4, 1), (5, 1), (6, 1)] := by kernel_rfl
theorem ze_142 : zeroOf Tryz.prog 142 = some (.agg #[.int .i64 0, .int .i64 0, .int .i64 0, .int .i64 0, .int .i64 0, .int .i64 0, .slice none 0 0]) := by kernel_rfl
theorem casts_len {l m : List AV} (c : Casts l m) : l.length = m.length := by
 induction c with
 | nil => rfl
 | cons _ _ ih => simp [ih]
theorem cast_ag {cs ds : List AV} (c : Casts cs ds) : Cast (.agg cs) (.agg ds) := cast_aggs (casts_len c).symm fun i a b h1 h2 => c.get i a b h1 h2
def pg0 : Pg := ⟨0, 0, 0, 0, 0, 0, []⟩
theorem cast_pg0 : Cast (.agg [.int 0, .int 0, .int 0, .int 0, .int 0, .int 0, .v (.slice none 0 0)]) (.agg (pgC pg0)) := cast_ag (.cons .refl (.cons .refl (.cons .refl (.cons .refl (.cons .refl (.cons .refl (.cons cast_nil .nil)))))))
abbrev gS0 (b : BS) : RS := ⟨b.drop 3, false⟩
abbrev gS1 (b : BS) : RS := ((gS0 b).num 1).2
abbrev gS2 (b : BS) : RS := ((gS1 b).num 4).2
abbrev gS3 (b : BS) : RS := ((gS2 b).num 4).2
abbrev gS4 (b : BS) : RS := ((gS3 b).num 4).2
abbrev gS5 (b : BS) : RS := ((gS4 b).num 1).2
abbrev gS6 (b : BS) : RS := ((gS5 b).num 1).2
abbrev gS7 (b : BS) : RS := (gS6 b).text.2
theorem RS.text_len (s : RS) : s.text.2.b.length ≤ s.b.length ∧ s.text.1.length ≤ s.b.length := by
 unfold RS.text
 split
 ·simp
 ·simp only
  have h1 := RS.num_len 2 s
  split
  ·simp
  ·split
   ·simp
   ·simp only [List.length_drop, List.length_take]; omega
theorem RS.text_ok {s : RS} (h : BOk s.b) : BOk s.text.2.b ∧ BOk s.text.1 := by
 unfold RS.text
 split
 ·exact ⟨h, fun x hx => by simp at hx⟩
 ·simp only
  have h1 := RS.num_ok 2 h
  split
  ·exact ⟨h, fun x hx => by simp at hx⟩
  ·split
   ·exact ⟨h, fun x hx => by simp at hx⟩
   ·exact ⟨fun x hx => h1 x (List.mem_of_mem_drop hx), fun x hx => h1 x (List.mem_of_mem_take hx)⟩
theorem num_lt1 {s : RS} (h : BOk s.b) : (s.num 1).1 < 256 := RS.num_lt 1 h
theorem num_lt4 {s : RS} (h : BOk s.b) : (s.num 4).1 < 4294967296 := RS.num_lt 4 h
theorem num_lt8 {s : RS} (h : BOk s.b) : (s.num 8).1 < 18446744073709551616 := RS.num_lt 8 h
theorem openB_ok {s : BS} (h : BOk s) : BOk ((openB s).getD []) ∧ ((openB s).getD []).length ≤ s.length := by
 unfold openB
 split
 ·exact ⟨fun x hx => by simp at hx, by simp⟩
 ·split
  ·exact ⟨fun x hx => h x (List.mem_of_mem_take hx), by simp⟩
  ·exact ⟨fun x hx => by simp at hx, by simp⟩
/- page.Get -/
set_option maxRecDepth 100000 in
set_option maxHeartbeats 4000000 in
theorem pg_Get {s : BS} (hl : s.length ≤ 900000) (hk : BOk s) : Triple Tryz.prog 50 [.sl 1 (s.map by1)] [] (Is (.tup [.agg (pgC ((getPg s).getD pg0)), .int (if (getPg s).isSome then 0 else 2)]) []) := by
 have hio := openB_ok hk
 obtain ⟨inn, hinn⟩ : ∃ z, (openB s).getD [] = z := ⟨_, rfl⟩
 rw [hinn] at hio
 obtain ⟨hiok, hil⟩ := hio
 refine triple_ofR Tryz.func50 rfl (by kernel_rfl) rfl (by simp) ?_
 refine aSeq ?_
 refine aReg ?_
 refine sq ?_
 refine qAlloc rfl rfl (by decide) ze_142 rfl (fun b2 => ?_)
 refine sp pMa ?_
 refine oNil ?_
 refine aSeq ?_
 refine aReg ?_
 refine sp pM ?_
 refine sq ?_
 refine ci rfl rfl rfl (chk_Open hl hk) ?_
 rw [hinn]
 refine sp pM ?_
 refine sp pX ?_
 refine sp pX ?_
 refine sp pMa ?_
 refine sp pMa ?_
 refine oNil ?_
 refine aSeq ?_
 refine aSeq ?_
 refine aReg ?_
 refine sp pM ?_
 refine sp pNo ?_
 refine sp pM ?_
 refine oSplitNot 15 rfl (fun c15 => ?_) (fun c15 => ?_)
 ·skip
  refine gf ?_
  refine gf ?_
  refine gf ?_
  refine sp pK ?_
  refine sp pM ?_
  refine gf ?_
  refine gf ?_
  refine gf ?_
  refine gf ?_
  refine gf ?_
  refine sp pK ?_
  refine oNil ?_
  refine aCondT rfl ?_
  refine aSeq ?_
  refine aReg ?_
  refine sp (pBuild rfl st_142 ze_142 rfl rfl rfl rfl) ?_
  refine sa ?_
  refine oStW rfl rfl rfl rfl (by repeat constructor) ty_142 ?_
  refine sp pMa ?_
  refine oNil ?_
  have hN : getPg s = none := by
    unfold getPg
    cases ho : openB s with
    | none => rfl
    | some z =>
      rw [ho] at hinn
      have hz : z = inn := hinn
      subst hz
      simp only
      rw [if_pos (by first | (left; simp_all; done) | (left; simp_all; omega) | (right; intro e; have e2 := decide_eq_true e; simp_all [magic_len]; done))]
  rw [hN]
  refine aRet ?_
  refine finRIs (l := [.agg (pgC pg0), .int 2]) (.cons (.cast (a := .agg [.int 0, .int 0, .int 0, .int 0, .int 0, .int 0, .v (.slice none 0 0)]) (.cellA rfl (by repeat (first | exact List.mem_cons_self | apply List.mem_cons_of_mem)) ty_142) cast_pg0) (.cons (.tmp rfl) .nil)) rfl
 ·skip
  refine gp pM ?_
  refine gp (by first | exact pLm sl_50 | exact pLs sl_50 | exact pLv sl_50) ?_
  refine gp pB ?_
  refine sp pK ?_
  refine sp pM ?_
  refine oSplitNe 20 rfl (fun c20 => ?_) (fun c20 => ?_)
  ·skip
   refine gf ?_
   refine gf ?_
   refine gf ?_
   refine gf ?_
   refine gf ?_
   refine sp pK ?_
   refine oNil ?_
   refine aCondT rfl ?_
   refine aSeq ?_
   refine aReg ?_
   refine sp (pBuild rfl st_142 ze_142 rfl rfl rfl rfl) ?_
   refine sa ?_
   refine oStW rfl rfl rfl rfl (by repeat constructor) ty_142 ?_
   refine sp pMa ?_
   refine oNil ?_
   have hN : getPg s = none := by
     unfold getPg
     cases ho : openB s with
     | none => rfl
     | some z =>
       rw [ho] at hinn
       have hz : z = inn := hinn
       subst hz
       simp only
       rw [if_pos (by first | (left; simp_all; done) | (left; simp_all; omega) | (right; intro e; have e2 := decide_eq_true e; simp_all [magic_len]; done))]
   rw [hN]
   refine aRet ?_
   refine finRIs (l := [.agg (pgC pg0), .int 2]) (.cons (.cast (a := .agg [.int 0, .int 0, .int 0, .int 0, .int 0, .int 0, .v (.slice none 0 0)]) (.cellA rfl (by repeat (first | exact List.mem_cons_self | apply List.mem_cons_of_mem)) ty_142) cast_pg0) (.cons (.tmp rfl) .nil)) rfl
  ·skip
   refine gp pM ?_
   refine ga ?_
   refine (qLit (l := [_, _, _]) rfl rfl (by decide) us_50 ty_5 ze_5 rfl (by decide) (by decide) rfl rfl rfl (fun b22 => ?_)).op
   refine ga ?_
   refine oMark (es := magicB.map by1) (by repeat constructor) us_50 ik_5 rfl rfl (by decide) rfl rfl ?_
   refine ga ?_
   refine (cv rfl rfl rfl (lents_refl _) (bytes_HasPrefix (a := inn) (p := magicB) hiok magic_ok (by omega) (by decide)) ?_).op
   refine gp pNo ?_
   refine sp pK ?_
   refine oNil ?_
   refine aCondNot rfl (fun c26 => ?_) (fun c26 => ?_)
   ·skip
    refine aSeq ?_
    refine aReg ?_
    refine sp (pBuild rfl st_142 ze_142 rfl rfl rfl rfl) ?_
    refine sa ?_
    refine oStW rfl rfl rfl rfl (by repeat constructor) ty_142 ?_
    refine sp pMa ?_
    refine oNil ?_
    have hN : getPg s = none := by
      unfold getPg
      cases ho : openB s with
      | none => rfl
      | some z =>
        rw [ho] at hinn
        have hz : z = inn := hinn
        subst hz
        simp only
        rw [if_pos (by first | (left; simp_all; done) | (left; simp_all; omega) | (right; intro e; have e2 := decide_eq_true e; simp_all [magic_len]; done))]
    rw [hN]
    refine aRet ?_
    refine finRIs (l := [.agg (pgC pg0), .int 2]) (.cons (.cast (a := .agg [.int 0, .int 0, .int 0, .int 0, .int 0, .int 0, .v (.slice none 0 0)]) (.cellA rfl (by repeat (first | exact List.mem_cons_self | apply List.mem_cons_of_mem)) ty_142) cast_pg0) (.cons (.tmp rfl) .nil)) rfl
   ·skip
    refine aSkip ?_
    refine aSeq ?_
    refine aReg ?_
    refine sp pM ?_
    refine sp (pSlice rfl rfl es_50 (bdI rfl) (bdN rfl) (by first | omega | (simp only [List.length_map]; omega)) (by first | omega | (simp only [List.length_map]; omega))) ?_
    rw [show ((inn.map by1).drop 3).take ((inn.map by1).length - 3) = (inn.drop 3).map by1 by rw [List.map_drop, List.take_of_length_le]; simp]
    refine sa ?_
    refine ca rfl rfl rfl (rd_Read (b := inn.drop 3) (by rw [List.length_drop]; omega)) ?_
    rintro _ _ ⟨rb, rfl, rfl⟩
    refine sp pMa ?_
    refine oNil ?_
    refine aSeq ?_
    have h508 : inn.length = 508 := by
      first
        | (simp_all; done)
        | (simp_all; omega)
    have hpre : inn.take 3 = magicB := by
      first
        | (simp_all [magic_len]; done)
        | (simp_all [magic_len]; exact of_decide_eq_true (by assumption))
    have hso : openB s = some inn := by
      cases ho : openB s with
      | none => simp_all
      | some z => rw [ho] at hinn; exact congrArg some hinn
    have k0 : BOk (gS0 inn).b := fun x hx => hiok x (List.mem_of_mem_drop hx)
    have l0 : (gS0 inn).b.length ≤ 505 := by show (inn.drop 3).length ≤ 505; rw [List.length_drop]; omega
    have k1 : BOk (gS1 inn).b := RS.num_ok _ k0
    have l1 : (gS1 inn).b.length ≤ (gS0 inn).b.length := RS.num_len _ _
    have k2 : BOk (gS2 inn).b := RS.num_ok _ k1
    have l2 : (gS2 inn).b.length ≤ (gS1 inn).b.length := RS.num_len _ _
    have k3 : BOk (gS3 inn).b := RS.num_ok _ k2
    have l3 : (gS3 inn).b.length ≤ (gS2 inn).b.length := RS.num_len _ _
    have k4 : BOk (gS4 inn).b := RS.num_ok _ k3
    have l4 : (gS4 inn).b.length ≤ (gS3 inn).b.length := RS.num_len _ _
    have k5 : BOk (gS5 inn).b := RS.num_ok _ k4
    have l5 : (gS5 inn).b.length ≤ (gS4 inn).b.length := RS.num_len _ _
    have k6 : BOk (gS6 inn).b := RS.num_ok _ k5
    have l6 : (gS6 inn).b.length ≤ (gS5 inn).b.length := RS.num_len _ _
    have l7 : (gS7 inn).b.length ≤ (gS6 inn).b.length := (RS.text_len (gS6 inn)).1
    have l8 := (RS.text_len (gS6 inn)).2
    have k7 := RS.text_ok k6
    have m0 := num_lt1 k0
    have m1 := num_lt4 k1
    have m2 := num_lt4 k2
    have m3 := num_lt4 k3
    have m4 := num_lt1 k4
    have m5 := num_lt1 k5
    refine aReg ?_
    refine sp pM ?_
    refine sa ?_
    refine cai rfl rfl rfl (rd_Num (rb := rb) (s := gS0 inn) (k := 1) k0 (by omega) (by decide) (by decide)) ?_
    refine sp (by first | exact pCvK ik_172 ik_3 | exact pConv rfl rfl ik_172 ik_3 rfl) ?_
    refine sp pM ?_
    refine sa ?_
    refine cai rfl rfl rfl (rd_Num (rb := rb) (s := gS1 inn) (k := 4) k1 (by omega) (by decide) (by decide)) ?_
    refine sp (by first | exact pCvK ik_172 ik_3 | exact pConv rfl rfl ik_172 ik_3 rfl) ?_
    refine sp pM ?_
    refine sa ?_
    refine cai rfl rfl rfl (rd_Num (rb := rb) (s := gS2 inn) (k := 4) k2 (by omega) (by decide) (by decide)) ?_
    refine sp (by first | exact pCvK ik_172 ik_3 | exact pConv rfl rfl ik_172 ik_3 rfl) ?_
    refine sp pM ?_
    refine sa ?_
    refine cai rfl rfl rfl (rd_Num (rb := rb) (s := gS3 inn) (k := 4) k3 (by omega) (by decide) (by decide)) ?_
    refine sp (by first | exact pCvK ik_172 ik_3 | exact pConv rfl rfl ik_172 ik_3 rfl) ?_
    refine sp pM ?_
    refine sa ?_
    refine cai rfl rfl rfl (rd_Num (rb := rb) (s := gS4 inn) (k := 1) k4 (by omega) (by decide) (by decide)) ?_
    refine sp (by first | exact pCvK ik_172 ik_3 | exact pConv rfl rfl ik_172 ik_3 rfl) ?_
    refine sp pM ?_
    refine sa ?_
    refine cai rfl rfl rfl (rd_Num (rb := rb) (s := gS5 inn) (k := 1) k5 (by omega) (by decide) (by decide)) ?_
    refine sp (by first | exact pCvK ik_172 ik_3 | exact pConv rfl rfl ik_172 ik_3 rfl) ?_
    refine sp pM ?_
    refine sa ?_
    refine cai rfl rfl rfl (rd_Text_s (rb := rb) (s := gS6 inn) k6 (by omega)) ?_
    refine sp (pBuild rfl st_142 ze_142 rfl rfl rfl rfl) ?_
    refine sq ?_
    refine qAlloc rfl rfl (by decide) ze_142 rfl (fun b7 => ?_)
    refine sa ?_
    refine oStW rfl rfl rfl rfl (by repeat constructor) ty_142 ?_
    refine oNil ?_
    refine aSeq ?_
    refine aSeq ?_
    refine aReg ?_
    refine sp pM ?_
    refine sa ?_
    refine cai rfl rfl rfl (rd_Wrong (rb := rb) (s := gS7 inn)) ?_
    refine sp pM ?_
    refine oSplit 54 rfl (fun c54 => ?_) (fun c54 => ?_)
    ·skip
     refine gf ?_
     refine gf ?_
     refine gf ?_
     refine sp pK ?_
     refine sp pM ?_
     refine gf ?_
     refine gf ?_
     refine gf ?_
     refine gf ?_
     refine gf ?_
     refine gf ?_
     refine sp pK ?_
     refine oNil ?_
     refine aCondT rfl ?_
     refine aSeq ?_
     refine aReg ?_
     refine sp (pBuild rfl st_142 ze_142 rfl rfl rfl rfl) ?_
     refine sa ?_
     refine oStW rfl rfl rfl rfl (by repeat constructor) ty_142 ?_
     refine sp pMa ?_
     refine oNil ?_
     have hN : getPg s = none := by
       unfold getPg
       rw [hso]
       simp only
       rw [if_neg (by simp_all)]
       show (if ((rdPg (gS0 inn)).2.w || !mayPg (rdPg (gS0 inn)).1 || (inn.drop (508 - (rdPg (gS0 inn)).2.b.length)).any (· != 0)) = true then none else some (rdPg (gS0 inn)).1) = none
       rw [if_pos (by rw [show (rdPg (gS0 inn)).2 = gS7 inn from rfl]; simp_all)]
     rw [hN]
     refine aRet ?_
     refine finRIs (l := [.agg (pgC pg0), .int 2]) (.cons (.cast (a := .agg [.int 0, .int 0, .int 0, .int 0, .int 0, .int 0, .v (.slice none 0 0)]) (.cellA rfl (by repeat (first | exact List.mem_cons_self | apply List.mem_cons_of_mem)) ty_142) cast_pg0) (.cons (.tmp rfl) .nil)) rfl
    ·skip
     refine gr (by first | exact rBWa ty_142 | exact rBW ty_142 | exact rBA ty_142) ?_
     refine ga ?_
     refine (ci rfl rfl rfl (pg_may (p := (rdPg (gS0 inn)).1) (by show (gS6 inn).text.1.length ≤ 1000000; omega)) ?_).op
     refine gp pNo ?_
     refine sp pK ?_
     refine sp pM ?_
     refine oSplitNot 59 rfl (fun c59 => ?_) (fun c59 => ?_)
     ·skip
      refine gf ?_
      refine gf ?_
      refine gf ?_
      refine gf ?_
      refine gf ?_
      refine gf ?_
      refine sp pK ?_
      refine oNil ?_
      refine aCondT rfl ?_
      refine aSeq ?_
      refine aReg ?_
      refine sp (pBuild rfl st_142 ze_142 rfl rfl rfl rfl) ?_
      refine sa ?_
      refine oStW rfl rfl rfl rfl (by repeat constructor) ty_142 ?_
      refine sp pMa ?_
      refine oNil ?_
      have hN : getPg s = none := by
        unfold getPg
        rw [hso]
        simp only
        rw [if_neg (by simp_all)]
        show (if ((rdPg (gS0 inn)).2.w || !mayPg (rdPg (gS0 inn)).1 || (inn.drop (508 - (rdPg (gS0 inn)).2.b.length)).any (· != 0)) = true then none else some (rdPg (gS0 inn)).1) = none
        rw [if_pos (by rw [show (rdPg (gS0 inn)).2 = gS7 inn from rfl]; simp_all)]
      rw [hN]
      refine aRet ?_
      refine finRIs (l := [.agg (pgC pg0), .int 2]) (.cons (.cast (a := .agg [.int 0, .int 0, .int 0, .int 0, .int 0, .int 0, .v (.slice none 0 0)]) (.cellA rfl (by repeat (first | exact List.mem_cons_self | apply List.mem_cons_of_mem)) ty_142) cast_pg0) (.cons (.tmp rfl) .nil)) rfl
     ·skip
      refine gp pM ?_
      refine gp pM ?_
      refine ga ?_
      refine cai rfl rfl rfl (rd_Left (rb := rb) (s := gS7 inn)) ?_
      refine gp pSu ?_
      rw [show (508 : Int) - ((gS7 inn).b.length : Nat) = ((508 - (gS7 inn).b.length : Nat) : Int) by omega]
      refine gp (pSlice rfl rfl es_50 (bdI rfl) (bdN rfl) (by first | omega | (simp only [List.length_map]; omega)) (by first | omega | (simp only [List.length_map]; omega))) ?_
      rw [show ((inn.map by1).drop (508 - (gS7 inn).b.length)).take ((inn.map by1).length - (508 - (gS7 inn).b.length)) = (inn.drop (508 - (gS7 inn).b.length)).map by1 by rw [List.map_drop, List.take_of_length_le]; simp]
      refine ga ?_
      refine (cv rfl rfl rfl (lents_refl _) (contains_B (f := 119) (caps := []) (p := fun n => n != 0) (fun x => pg_Get1) (inn.drop (508 - (gS7 inn).b.length)) (by rw [List.length_drop]; omega)) ?_).op
      refine sp pK ?_
      refine oNil ?_
      refine aCond rfl (fun c66 => ?_) (fun c66 => ?_)
      ·skip
       refine aSeq ?_
       refine aReg ?_
       refine sp (pBuild rfl st_142 ze_142 rfl rfl rfl rfl) ?_
       refine sa ?_
       refine oStW rfl rfl rfl rfl (by repeat constructor) ty_142 ?_
       refine sp pMa ?_
       refine oNil ?_
       have hN : getPg s = none := by
         unfold getPg
         rw [hso]
         simp only
         rw [if_neg (by simp_all)]
         show (if ((rdPg (gS0 inn)).2.w || !mayPg (rdPg (gS0 inn)).1 || (inn.drop (508 - (rdPg (gS0 inn)).2.b.length)).any (· != 0)) = true then none else some (rdPg (gS0 inn)).1) = none
         rw [if_pos (by rw [show (rdPg (gS0 inn)).2 = gS7 inn from rfl]; simp_all)]
       rw [hN]
       refine aRet ?_
       refine finRIs (l := [.agg (pgC pg0), .int 2]) (.cons (.cast (a := .agg [.int 0, .int 0, .int 0, .int 0, .int 0, .int 0, .v (.slice none 0 0)]) (.cellA rfl (by repeat (first | exact List.mem_cons_self | apply List.mem_cons_of_mem)) ty_142) cast_pg0) (.cons (.tmp rfl) .nil)) rfl
      ·skip
       refine aSkip ?_
       refine aSeq ?_
       refine aReg ?_
       refine sr (by first | exact rBWa ty_142 | exact rBW ty_142 | exact rBA ty_142) ?_
       refine sa ?_
       refine oStW rfl rfl rfl rfl (by repeat constructor) ty_142 ?_
       refine sp pMa ?_
       refine oNil ?_
       have hN : getPg s = some (rdPg (gS0 inn)).1 := by
         unfold getPg
         rw [hso]
         simp only
         rw [if_neg (by simp_all)]
         show (if ((rdPg (gS0 inn)).2.w || !mayPg (rdPg (gS0 inn)).1 || (inn.drop (508 - (rdPg (gS0 inn)).2.b.length)).any (· != 0)) = true then none else some (rdPg (gS0 inn)).1) = some (rdPg (gS0 inn)).1
         rw [if_neg (by rw [show (rdPg (gS0 inn)).2 = gS7 inn from rfl]; first | (simp_all; done) | (simp_all; assumption))]
       rw [hN]
       refine aRet ?_
       refine finRIs (l := [.agg (pgC (rdPg (gS0 inn)).1), .int 0]) (.cons (.cellA rfl (by repeat (first | exact List.mem_cons_self | apply List.mem_cons_of_mem)) ty_142) (.cons (.tmp rfl) .nil)) rfl
end A
end Go.Proofs.YthkgdhamnpiagaaGreat
namespace Go.Proofs.YthkgdhamnpiagaaGreat
namespace A
theorem clone_Bs {l : BS} (hl : l.length ≤ 1000000 := by omega) : Triple Tryz.prog 109 [.sl 1 (l.map by1)] [] (Is (bsA l) []) := (clone_B (l := l) hl).settle
def splitR (p : Pg) (b : BS) : List Pg := if splitE p b = 0 then splitL p b else []
theorem partsN_rng (n : Int) : 0 ≤ partsN n ∧ partsN n ≤ 16 := by
 unfold partsN
 split
 ·omega
 ·rename_i h
  have : (n + 487).tdiv 488 ≤ 16 := by rw [Int.tdiv_eq_ediv_of_nonneg (by omega)]; omega
  omega
theorem partsN_pos {n : Int} (h : partsN n ≠ 0) : 0 ≤ n ∧ n ≤ 7808 ∧ n ≤ 488 * partsN n ∧ 1 ≤ partsN n := by
 unfold partsN at *
 split at h
 ·exact absurd rfl h
 ·rename_i h1
  rw [if_neg h1]
  have : (n + 487).tdiv 488 = (n + 487) / 488 := Int.tdiv_eq_ediv_of_nonneg (by omega)
  rw [this]
  omega
def pgsL (p : Pg) (b : BS) (k : Int) (i : Nat) : List Pg := (List.range i).map (partPg p b k)
theorem pgsL_step (p : Pg) (b : BS) (k : Int) (i : Nat) : pgsL p b k (i + 1) = pgsL p b k i ++ [partPg p b k i] := by
 unfold pgsL
 rw [List.range_succ, List.map_append]
 rfl
theorem pgsL_len (p : Pg) (b : BS) (k : Int) (i : Nat) : (pgsL p b k i).length = i := by simp [pgsL]
theorem splitE_bad {p : Pg} {b : BS} {i : Nat} (h0 : partsN b.length ≠ 0) (hi : i < (partsN b.length).toNat) (h : mayPg (partPg p b (partsN b.length) i) = false) : splitE p b = 1 := by
 unfold splitE
 rw [if_neg h0, if_neg]
 rw [Bool.not_eq_true, List.all_eq_false]
 exact ⟨_, List.mem_map.2 ⟨i, List.mem_range.2 hi, rfl⟩, by rw [h]; simp⟩
theorem splitE_ok {p : Pg} {b : BS} (h0 : partsN b.length ≠ 0) (h : ∀ i : Nat, i < (partsN b.length).toNat → mayPg (partPg p b (partsN b.length) i) = true) : splitE p b = 0 := by
 unfold splitE
 rw [if_neg h0, if_pos]
 rw [List.all_eq_true]
 intro x hx
 obtain ⟨i, hi, rfl⟩ := List.mem_map.1 hx
 exact h i (List.mem_range.1 hi)
theorem part_drop (b : BS) (i : Nat) : (b.drop (488 * i)).drop (min 488 (b.length - 488 * i)) = b.drop (488 * (i + 1)) := by
 rw [List.drop_drop]
 by_cases h : 488 ≤ b.length - 488 * i
 ·congr 1; omega
 ·rw [List.drop_of_length_le (by omega), List.drop_of_length_le (by omega)]
theorem part_take (b : BS) (i : Nat) : (b.drop (488 * i)).take (min 488 (b.length - 488 * i)) = (b.drop (488 * i)).take 488 := by
 by_cases h : 488 ≤ b.length - 488 * i
 ·congr 1; omega
 ·rw [List.take_of_length_le (by rw [List.length_drop]; omega), List.take_of_length_le (by rw [List.length_drop]; omega)]
theorem part_next (b : BS) (i : Nat) : (((b.drop (488 * i)).map by1).drop (min 488 (b.length - 488 * i))).take (((b.drop (488 * i)).map by1).length - min 488 (b.length - 488 * i)) = (b.drop (488 * (i + 1))).map by1 := by
 rw [← List.map_drop, part_drop]
 refine List.take_of_length_le ?_
 simp only [List.length_map, List.length_drop]
 omega
theorem partPg_ok {p : Pg} {b : BS} (hb : BOk b) (k : Int) (i : Nat) : BOk (partPg p b k i).b := fun x hx => hb x (List.mem_of_mem_drop (List.mem_of_mem_take hx))
theorem concB_step {l : List Pg} {i : Nat} {p : Pg} (h : l[i]? = some p) : concB (l.take (i + 1)) = concB (l.take i) ++ p.b := by
 unfold concB
 rw [take_step h, List.flatMap_append]
 simp
theorem folAll_iff {f : Pg} : ∀ {l : List Pg} {k : Nat}, folAll f k l = true ↔ ∀ i p, l[i]? = some p → followB f p (k + i) = true
 | [], k => by simp [folAll]
 | q :: t, k => by
   unfold folAll
   rw [Bool.and_eq_true, folAll_iff]
   constructor
   ·rintro ⟨h1, h2⟩ i p hp
    cases i with
    | zero => simp at hp; subst hp; exact h1
    | succ i => have := h2 i p (by simpa using hp); rwa [show k + 1 + i = k + (i + 1) by omega] at this
   ·intro h
    exact ⟨h 0 q rfl, fun i p hp => by have := h (i + 1) p (by simpa using hp); rwa [show k + (i + 1) = k + 1 + i by omega] at this⟩
theorem joinR_cons (f : Pg) (t : List Pg) : joinR (f :: t) = if (!mayPg f || decide (((f :: t).length : Int) < f.parts)) = true then none else if (folAll f 0 ((f :: t).take f.parts.toNat) && partsN (concB ((f :: t).take f.parts.toNat)).length == f.parts) = true then some (concB ((f :: t).take f.parts.toNat), f.parts.toNat) else none := rfl
theorem joinR_no {f : Pg} {t : List Pg} (h : mayPg f = false ∨ ((f :: t).length : Int) < f.parts) : joinR (f :: t) = none := by
 rw [joinR_cons, if_pos]
 rcases h with h | h
 ·rw [h]; rfl
 ·rw [Bool.or_eq_true]; exact .inr (decide_eq_true h)
theorem joinR_bad {f : Pg} {t : List Pg} {i : Nat} {p : Pg} (hi : ((f :: t).take f.parts.toNat)[i]? = some p) (h : followB f p i = false) : joinR (f :: t) = none := by
 rw [joinR_cons]
 split
 ·rfl
 ·rw [if_neg]
  intro hh
  rw [Bool.and_eq_true, folAll_iff] at hh
  revert hh
  rintro ⟨h1, _⟩
  have := h1 i p hi
  rw [Nat.zero_add, h] at this
  cases this
theorem joinR_ok {f : Pg} {t : List Pg} (h1 : mayPg f = true) (h2 : ¬ ((f :: t).length : Int) < f.parts) (h3 : ∀ i p, ((f :: t).take f.parts.toNat)[i]? = some p → followB f p i = true) : joinR (f :: t) = if partsN (concB ((f :: t).take f.parts.toNat)).length = f.parts then some (concB ((f :: t).take f.parts.toNat), f.parts.toNat) else none := by
 rw [joinR_cons, if_neg (by rw [h1, decide_eq_false h2]; simp)]
 have h4 : folAll f 0 ((f :: t).take f.parts.toNat) = true := folAll_iff.2 fun i p hp => by rw [Nat.zero_add]; exact h3 i p hp
 rw [h4, Bool.true_and]
 by_cases h5 : partsN (concB ((f :: t).take f.parts.toNat)).length = f.parts
 ·rw [if_pos h5, if_pos (by rw [h5]; simp)]
 ·rw [if_neg h5, if_neg (by simpa using h5)]
/- record.Parts -/
set_option maxRecDepth 100000 in
set_option maxHeartbeats 400000 in
theorem rec_Parts {n : Int} : Triple Tryz.prog 257 [.int n] [] (Is (.int (partsN n)) []) := by
 refine triple_of Tryz.func257 rfl (by kernel_rfl) rfl (by simp) ?_
 refine aSeq ?_
 refine aReg ?_
 refine sp pMa ?_
 refine oNil ?_
 refine aSeq ?_
 refine aSeq ?_
 refine aReg ?_
 refine sp pM ?_
 refine sp pB ?_
 refine sp pM ?_
 refine oSplitDec 5 rfl (fun c5 => ?_) (fun c5 => ?_)
 ·skip
  refine gf ?_
  refine gf ?_
  refine sp pK ?_
  refine oNil ?_
  refine aCondT rfl ?_
  refine aSeq ?_
  refine aReg ?_
  refine sp pMa ?_
  refine oNil ?_
  refine aRet ?_
  refine finIs rfl ?_
  show AV.int 0 = AV.int _
  unfold partsN
  rw [if_pos (by first | (simp_all; done) | (simp_all; omega))]
 ·skip
  refine gp pM ?_
  refine gp pB ?_
  refine sp pK ?_
  refine oNil ?_
  refine aCondDec rfl (fun c8 => ?_) (fun c8 => ?_)
  ·skip
   refine aSeq ?_
   refine aReg ?_
   refine sp pMa ?_
   refine oNil ?_
   refine aRet ?_
   refine finIs rfl ?_
   show AV.int 0 = AV.int _
   unfold partsN
   rw [if_pos (by first | (simp_all; done) | (simp_all; omega))]
  ·skip
   refine aSkip ?_
   refine aSeq ?_
   refine aReg ?_
   refine sp pM ?_
   refine sp pAd ?_
   refine sp pSu ?_
   refine sp (pQuoI rfl rfl rfl (by omega) (by rw [Int.tdiv_eq_ediv_of_nonneg (by omega)]; omega) (by rw [Int.tdiv_eq_ediv_of_nonneg (by omega)]; omega)) ?_
   refine sp pMax ?_
   refine sp pMa ?_
   refine oNil ?_
   refine aRet ?_
   refine finIs rfl ?_
   show AV.int _ = AV.int _
   unfold partsN
   rw [if_neg (by first | (simp_all; done) | (simp_all; omega))]
   congr 1
   congr 2
   omega
/- record.right -/
set_option maxRecDepth 100000 in
set_option maxHeartbeats 400000 in
theorem rec_right {p : Pg} (hl : p.b.length ≤ 1000000 := by omega) (hk : BOk p.b) : Triple Tryz.prog 267 [.agg (pgC p)] [] (Is (.v (.bool (mayPg p))) []) := by
 refine triple_of Tryz.func267 rfl (by kernel_rfl) rfl (by simp) ?_
 refine aSeq ?_
 refine aReg ?_
 refine sq ?_
 refine qBox rfl rfl (by decide) rfl rfl (fun b1 => ?_)
 refine sp pMa ?_
 refine oNil ?_
 refine aSeq ?_
 refine aReg ?_
 refine sr (by first | exact rBWa ty_142 | exact rBW ty_142 | exact rBA ty_142) ?_
 refine sq ?_
 refine ci rfl rfl rfl (pg_Put (p := p) hl hk) ?_
 refine sp pM ?_
 refine sp pX ?_
 refine sp pX ?_
 refine sp pMa ?_
 refine sp pMa ?_
 refine oNil ?_
 refine aSeq ?_
 refine aReg ?_
 refine sp pM ?_
 refine sp pB ?_
 refine sp pMa ?_
 refine oNil ?_
 refine aRet ?_
 refine finIs rfl ?_
 cases mayPg p <;> rfl
/- record.follows -/
set_option maxRecDepth 100000 in
set_option maxHeartbeats 2000000 in
theorem rec_follows {f p : Pg} {i : Nat} (hl : p.b.length ≤ 1000000 := by omega) (hk : BOk p.b) (hi : i ≤ 1000000) : Triple Tryz.prog 320 [.agg (pgC f), .agg (pgC p), .int i] [] (Is (.v (.bool (followB f p i))) []) := by
 refine triple_of Tryz.func320 rfl (by kernel_rfl) rfl (by simp) ?_
 refine aSeq ?_
 refine aReg ?_
 refine sq ?_
 refine qBox rfl rfl (by decide) rfl rfl (fun b3 => ?_)
 refine sq ?_
 refine qBox rfl rfl (by decide) rfl rfl (fun b4 => ?_)
 refine sp pMa ?_
 refine oNil ?_
 refine aSeq ?_
 refine aReg ?_
 refine sr (by first | exact rBWa ty_142 | exact rBW ty_142 | exact rBA ty_142) ?_
 refine sq ?_
 refine ci rfl rfl rfl (rec_right (p := p) hl hk) ?_
 refine sp pM ?_
 refine oSplit 9 rfl (fun c9 => ?_) (fun c9 => ?_)
 ·skip
  refine gp (pFb fd_142_0) ?_
  refine gr (rB1 ty_3) ?_
  refine gp (pFb fd_142_0) ?_
  refine gr (rB1 ty_3) ?_
  refine gp pB ?_
  refine sp pK ?_
  refine sp pM ?_
  refine oSplitEq 16 rfl (fun c16 => ?_) (fun c16 => ?_)
  ·skip
   refine gp (pFb fd_142_1) ?_
   refine gr (rB1 ty_3) ?_
   refine gp (pFb fd_142_1) ?_
   refine gr (rB1 ty_3) ?_
   refine gp pB ?_
   refine sp pK ?_
   refine sp pM ?_
   refine oSplitEq 23 rfl (fun c23 => ?_) (fun c23 => ?_)
   ·skip
    refine gp (pFb fd_142_2) ?_
    refine gr (rB1 ty_3) ?_
    refine gp (pFb fd_142_2) ?_
    refine gr (rB1 ty_3) ?_
    refine gp pB ?_
    refine sp pK ?_
    refine sp pM ?_
    refine oSplitEq 30 rfl (fun c30 => ?_) (fun c30 => ?_)
    ·skip
     refine gp (pFb fd_142_3) ?_
     refine gr (rB1 ty_3) ?_
     refine gp pM ?_
     have hq : mayPg p = true := by simp_all
     have hq2 := mayPg_iff.1 hq
     obtain ⟨u1, u2, u3, u4, u5, u6, u7⟩ := hq2
     refine gp pSu ?_
     refine gp (pFb fd_142_3) ?_
     refine gr (rB1 ty_3) ?_
     refine gp pB ?_
     refine sp pK ?_
     refine sp pM ?_
     refine oSplitEq 39 rfl (fun c39 => ?_) (fun c39 => ?_)
     ·skip
      refine gp (pFb fd_142_4) ?_
      refine gr (rB1 ty_3) ?_
      refine gp pM ?_
      refine gp pB ?_
      refine sp pK ?_
      refine sp pM ?_
      refine oSplitEq 45 rfl (fun c45 => ?_) (fun c45 => ?_)
      ·skip
       refine gp (pFb fd_142_5) ?_
       refine gr (rB1 ty_3) ?_
       refine gp (pFb fd_142_5) ?_
       refine gr (rB1 ty_3) ?_
       refine gp pB ?_
       refine sp pK ?_
       refine sp pM ?_
       refine oSplitEq 52 rfl (fun c52 => ?_) (fun c52 => ?_)
       ·skip
        refine gp pM ?_
        refine gp (pFb fd_142_5) ?_
        refine gr (rB1 ty_3) ?_
        have hq : mayPg p = true := by simp_all
        have hq2 := mayPg_iff.1 hq
        obtain ⟨v1, v2, v3, v4, v5, v6, v7⟩ := hq2
        have hpf : p.parts = f.parts := by simp_all
        refine gp pSu ?_
        refine gp pB ?_
        refine gp pM ?_
        refine oSplitEq 58 rfl (fun c58 => ?_) (fun c58 => ?_)
        ·skip
         refine gf ?_
         refine gf ?_
         refine gf ?_
         refine gf ?_
         refine gp pK ?_
         refine sp pK ?_
         refine sp pMa ?_
         refine oNil ?_
         refine aRet ?_
         refine finIs rfl ?_
         simp_all [retOf, followB]
         all_goals first
           | omega
           | (rw [Bool.eq_iff_iff]; simp; done)
           | (rw [Bool.eq_iff_iff]; simp; omega)
        ·skip
         refine gp (pFb fd_142_6) ?_
         refine gr (rB1 ty_50) ?_
         refine gp (by first | exact pLm sl_50 | exact pLs sl_50 | exact pLv sl_50) ?_
         refine gp pB ?_
         refine gp pK ?_
         refine sp pK ?_
         refine sp pMa ?_
         refine oNil ?_
         refine aRet ?_
         refine finIs rfl ?_
         simp_all [retOf, followB]
         all_goals first
           | omega
           | (rw [Bool.eq_iff_iff]; simp; done)
           | (rw [Bool.eq_iff_iff]; simp; omega)
       ·skip
        refine gf ?_
        refine gf ?_
        refine gf ?_
        refine gf ?_
        refine gf ?_
        refine gf ?_
        refine gf ?_
        refine gf ?_
        refine gf ?_
        refine gf ?_
        refine gf ?_
        refine sp pK ?_
        refine sp pMa ?_
        refine oNil ?_
        refine aRet ?_
        refine finIs rfl ?_
        simp_all [retOf, followB]
        all_goals first
          | omega
          | (rw [Bool.eq_iff_iff]; simp; done)
          | (rw [Bool.eq_iff_iff]; simp; omega)
      ·skip
       refine gf ?_
       refine gf ?_
       refine gf ?_
       refine gf ?_
       refine gf ?_
       refine sp pK ?_
       refine sp pM ?_
       refine gf ?_
       refine gf ?_
       refine gf ?_
       refine gf ?_
       refine gf ?_
       refine gf ?_
       refine gf ?_
       refine gf ?_
       refine gf ?_
       refine gf ?_
       refine gf ?_
       refine sp pK ?_
       refine sp pMa ?_
       refine oNil ?_
       refine aRet ?_
       refine finIs rfl ?_
       simp_all [retOf, followB]
       all_goals first
         | omega
         | (rw [Bool.eq_iff_iff]; simp; done)
         | (rw [Bool.eq_iff_iff]; simp; omega)
     ·skip
      refine gf ?_
      refine gf ?_
      refine gf ?_
      refine gf ?_
      refine sp pK ?_
      refine sp pM ?_
      refine gf ?_
      refine gf ?_
      refine gf ?_
      refine gf ?_
      refine gf ?_
      refine sp pK ?_
      refine sp pM ?_
      refine gf ?_
      refine gf ?_
      refine gf ?_
      refine gf ?_
      refine gf ?_
      refine gf ?_
      refine gf ?_
      refine gf ?_
      refine gf ?_
      refine gf ?_
      refine gf ?_
      refine sp pK ?_
      refine sp pMa ?_
      refine oNil ?_
      refine aRet ?_
      refine finIs rfl ?_
      simp_all [retOf, followB]
      all_goals first
        | omega
        | (rw [Bool.eq_iff_iff]; simp; done)
        | (rw [Bool.eq_iff_iff]; simp; omega)
    ·skip
     refine gf ?_
     refine gf ?_
     refine gf ?_
     refine gf ?_
     refine gf ?_
     refine gf ?_
     refine gf ?_
     refine sp pK ?_
     refine sp pM ?_
     refine gf ?_
     refine gf ?_
     refine gf ?_
     refine gf ?_
     refine sp pK ?_
     refine sp pM ?_
     refine gf ?_
     refine gf ?_
     refine gf ?_
     refine gf ?_
     refine gf ?_
     refine sp pK ?_
     refine sp pM ?_
     refine gf ?_
     refine gf ?_
     refine gf ?_
     refine gf ?_
     refine gf ?_
     refine gf ?_
     refine gf ?_
     refine gf ?_
     refine gf ?_
     refine gf ?_
     refine gf ?_
     refine sp pK ?_
     refine sp pMa ?_
     refine oNil ?_
     refine aRet ?_
     refine finIs rfl ?_
     simp_all [retOf, followB]
     all_goals first
       | omega
       | (rw [Bool.eq_iff_iff]; simp; done)
       | (rw [Bool.eq_iff_iff]; simp; omega)
   ·skip
    refine gf ?_
    refine gf ?_
    refine gf ?_
    refine gf ?_
    refine gf ?_
    refine sp pK ?_
    refine sp pM ?_
    refine gf ?_
    refine gf ?_
    refine gf ?_
    refine gf ?_
    refine gf ?_
    refine gf ?_
    refine gf ?_
    refine sp pK ?_
    refine sp pM ?_
    refine gf ?_
    refine gf ?_
    refine gf ?_
    refine gf ?_
    refine sp pK ?_
    refine sp pM ?_
    refine gf ?_
    refine gf ?_
    refine gf ?_
    refine gf ?_
    refine gf ?_
    refine sp pK ?_
    refine sp pM ?_
    refine gf ?_
    refine gf ?_
    refine gf ?_
    refine gf ?_
    refine gf ?_
    refine gf ?_
    refine gf ?_
    refine gf ?_
    refine gf ?_
    refine gf ?_
    refine gf ?_
    refine sp pK ?_
    refine sp pMa ?_
    refine oNil ?_
    refine aRet ?_
    refine finIs rfl ?_
    simp_all [retOf, followB]
    all_goals first
      | omega
      | (rw [Bool.eq_iff_iff]; simp; done)
      | (rw [Bool.eq_iff_iff]; simp; omega)
  ·skip
   refine gf ?_
   refine gf ?_
   refine gf ?_
   refine gf ?_
   refine gf ?_
   refine sp pK ?_
   refine sp pM ?_
   refine gf ?_
   refine gf ?_
   refine gf ?_
   refine gf ?_
   refine gf ?_
   refine sp pK ?_
   refine sp pM ?_
   refine gf ?_
   refine gf ?_
   refine gf ?_
   refine gf ?_
   refine gf ?_
   refine gf ?_
   refine gf ?_
   refine sp pK ?_
   refine sp pM ?_
   refine gf ?_
   refine gf ?_
   refine gf ?_
   refine gf ?_
   refine sp pK ?_
   refine sp pM ?_
   refine gf ?_
   refine gf ?_
   refine gf ?_
   refine gf ?_
   refine gf ?_
   refine sp pK ?_
   refine sp pM ?_
   refine gf ?_
   refine gf ?_
   refine gf ?_
   refine gf ?_
   refine gf ?_
   refine gf ?_
   refine gf ?_
   refine gf ?_
   refine gf ?_
   refine gf ?_
   refine gf ?_
   refine sp pK ?_
   refine sp pMa ?_
   refine oNil ?_
   refine aRet ?_
   refine finIs rfl ?_
   simp_all [retOf, followB]
   all_goals first
     | omega
     | (rw [Bool.eq_iff_iff]; simp; done)
     | (rw [Bool.eq_iff_iff]; simp; omega)
 ·skip
  refine gf ?_
  refine gf ?_
  refine gf ?_
  refine gf ?_
  refine gf ?_
  refine sp pK ?_
  refine sp pM ?_
  refine gf ?_
  refine gf ?_
  refine gf ?_
  refine gf ?_
  refine gf ?_
  refine sp pK ?_
  refine sp pM ?_
  refine gf ?_
  refine gf ?_
  refine gf ?_
  refine gf ?_
  refine gf ?_
  refine sp pK ?_
  refine sp pM ?_
  refine gf ?_
  refine gf ?_
  refine gf ?_
  refine gf ?_
  refine gf ?_
  refine gf ?_
  refine gf ?_
  refine sp pK ?_
  refine sp pM ?_
  refine gf ?_
  refine gf ?_
  refine gf ?_
  refine gf ?_
  refine sp pK ?_
  refine sp pM ?_
  refine gf ?_
  refine gf ?_
  refine gf ?_
  refine gf ?_
  refine gf ?_
  refine sp pK ?_
  refine sp pM ?_
  refine gf ?_
  refine gf ?_
  refine gf ?_
  refine gf ?_
  refine gf ?_
  refine gf ?_
  refine gf ?_
  refine gf ?_
  refine gf ?_
  refine gf ?_
  refine gf ?_
  refine sp pK ?_
  refine sp pMa ?_
  refine oNil ?_
  refine aRet ?_
  refine finIs rfl ?_
  simp_all [retOf, followB]
  all_goals first
    | omega
    | (rw [Bool.eq_iff_iff]; simp; done)
    | (rw [Bool.eq_iff_iff]; simp; omega)
end A
end Go.Proofs.YthkgdhamnpiagaaGreat
namespace Go.Proofs.YthkgdhamnpiagaaGreat
namespace A
theorem el_288 : elemOf Tryz.prog 288 = some (142, 7, 72) := by kernel_rfl
theorem sl_288 : isSl Tryz.prog 288 = true := by kernel_rfl
theorem us_288 : Tryz.prog.underlying 288 = some (.slice 142) := by kernel_rfl
/- record.Split -/
def rec_SplitO_r9_T : Bool × List (List Nat × List Nat) := (true, [([], []), ([0], [0]), ([], []), ([2], [2]), ([], []), ([4], [4]), ([], []), ([6], [6]), ([], []), ([], []), ([], []), ([], []), ([10, 11], [10, 11]), ([12], [12]), ([1, 3, 5, 7, 8, 9, 13], [1, 3, 5, 7, 8, 9, 13]), ([], []), ([15, 14, 13, 0, 1, 2, 3, 4, 5, 6, 7, 8, 9, 10, 11, 12, 13, 14, 15], [14, 15])])
def rec_SplitO_r9_B : List Nat := [0, 1, 0, 4, 0, 16, 0, 64, 0, 0, 0, 0, 3072, 7168, 16383, 0, 65535]
theorem rec_SplitO_r9_t : Go.Proofs.YthkgdhamnpiagaaGreatW.PrintLast.rtab .any (Go.Proofs.YthkgdhamnpiagaaGreatW.PrintLast.opsOf Tryz.f175 9) = rec_SplitO_r9_T := by kernel_rfl
theorem rec_SplitO_r9_b : Go.Proofs.YthkgdhamnpiagaaGreatW.PrintLast.waitsOk rec_SplitO_r9_T.2 rec_SplitO_r9_B = true := by kernel_rfl
def rec_SplitO_r14_T : Bool × List (List Nat × List Nat) := (true, [([], []), ([], []), ([1], [1]), ([0, 2], [0, 2]), ([], []), ([], []), ([4, 5], [4, 5]), ([3, 3, 0, 1, 2, 3], [0, 3]), ([6, 7, 0, 1, 2, 3, 4, 5, 6, 7], [4, 6])])
def rec_SplitO_r14_B : List Nat := [0, 0, 2, 7, 0, 0, 48, 15, 255]
theorem rec_SplitO_r14_t : Go.Proofs.YthkgdhamnpiagaaGreatW.PrintLast.rtab .any (Go.Proofs.YthkgdhamnpiagaaGreatW.PrintLast.opsOf Tryz.f175 14) = rec_SplitO_r14_T := by kernel_rfl
theorem rec_SplitO_r14_b : Go.Proofs.YthkgdhamnpiagaaGreatW.PrintLast.waitsOk rec_SplitO_r14_T.2 rec_SplitO_r14_B = true := by kernel_rfl
set_option maxRecDepth 100000 in
set_option maxHeartbeats 4000000 in
theorem rec_SplitO {p : Pg} {b : BS} (hb : b.length ≤ 1000000 := by omega) (hk : BOk b) : Triple Tryz.prog 175 [.agg (pgC p), .sl 1 (b.map by1)] [] (fun q h' => ∃ g c, q = .tup [.v (slV g (splitR p b).length c), .int (splitE p b)] ∧ h' = [.sl g c 142 7 ((splitR p b).map pgC)]) := by
 have hpr := partsN_rng b.length
 refine triple_of Tryz.func175 rfl (by kernel_rfl) rfl (by simp) ?_
 refine aSeq ?_
 refine aReg ?_
 refine sq ?_
 refine qBox rfl rfl (by decide) rfl rfl (fun b2 => ?_)
 refine sp pMa ?_
 refine sp pMa ?_
 refine oNil ?_
 refine aSeq ?_
 refine aReg ?_
 refine sp pM ?_
 refine sp (by first | exact pLm sl_50 | exact pLs sl_50) ?_
 refine sq ?_
 refine ci rfl rfl rfl (rec_Parts (n := b.length)) ?_
 refine sp pMa ?_
 refine oNil ?_
 refine aSeq ?_
 refine aSeq ?_
 refine aReg ?_
 refine sp pM ?_
 refine sp pB ?_
 refine oNil ?_
 refine aCondEq rfl (fun c15 => ?_) (fun c15 => ?_)
 ·skip
  refine aSeq ?_
  refine aWeak (weak_nil 142 7) ?_
  refine aReg ?_
  refine sp pMa ?_
  refine sp pMa ?_
  refine oNil ?_
  have hE : splitE p b = 5 := by unfold splitE; rw [if_pos (by simp_all)]
  have hR : splitR p b = [] := by unfold splitR; rw [hE]; rfl
  rw [hE, hR]
  refine aRet ?_
  exact ⟨_, [_], _, rfl, .cons .hd .nil, none, 0, rfl, rfl⟩
 ·skip
  refine aSkip ?_
  refine aSeq ?_
  refine aReg ?_
  refine sp pMa ?_
  refine oNil ?_
  refine aSeq ?_
  refine aSeq ?_
  refine aWeak (weak_nil 142 7) ?_
  have h0 : partsN b.length ≠ 0 := by simp_all
  obtain ⟨p1, p2, p3, p4⟩ := partsN_pos h0
  refine aReg ?_
  refine sp pM ?_
  refine sp pM ?_
  refine oNil ?_
  refine aBlock ?_
  refine loopF (α := Nat × List Pg × Option Nat × Nat) (kept := [(2, _), (6, _), (16, _)]) (fun (i, l, g, c) => (i : Int) ≤ (partsN b.length) ∧ l = pgsL p b (partsN b.length) i ∧ ∀ j : Nat, j < i → mayPg (partPg p b (partsN b.length) j) = true) (fun (i, l, g, c) => [(17, .int i), (1, .sl 1 ((b.drop (488 * i)).map by1)), (7, .v (slV g l.length c))]) (fun (i, l, g, c) => [.sl g c 142 7 (l.map pgC)]) (fun (i, l, g, c) => ((partsN b.length)).toNat - i) (0, [], _, _) ?_ ⟨gInt rfl (by first | rfl | omega | simp), rfl, gLen rfl (by first | rfl | simp | (simp; omega)), rfl, rfl, rfl, trivial⟩ (by repeat constructor) ?_
  ·skip
   exact ⟨by omega, rfl, fun j hj => by omega⟩
  ·rintro ⟨i, l, g, c⟩ ⟨hi, hl, hm⟩
   refine aSeq ?_
   refine aReg ?_
   refine sp pB ?_
   refine oNil ?_
   refine aSeq ?_
   refine aCondDec rfl (fun c18 => ?_) (fun c18 => ?_)
   ·skip
    refine aSkip ?_
    refine aSeq ?_
    refine aBlock ?_
    refine aSeq ?_
    refine aReg ?_
    refine sp pM ?_
    refine sp pMa ?_
    refine oNil ?_
    refine aSeq ?_
    have hdl : (b.drop (488 * i)).length = b.length - 488 * i := by rw [List.length_drop]
    have hll := pgsL_len p b (partsN b.length) i
    rw [← hl] at hll
    refine aReg ?_
    refine sp pM ?_
    refine sp (by first | exact pLm sl_50 | exact pLs sl_50 | exact pLv sl_50) ?_
    refine sp pMin ?_
    rw [show min (488 : Int) ((b.drop (488 * i)).length : Nat) = ((min 488 (b.length - 488 * i) : Nat) : Int) by rw [hdl]; omega]
    refine sp pMa ?_
    refine oNil ?_
    refine aSeq ?_
    refine aDrawT rec_SplitO_r9_t rec_SplitO_r9_b [16] 17 #[false, false, false, false, false, false, false, false, false, false, false, false, false, false, false, false, false] (by kernel_rfl) rfl rfl (fun HT => ?_)
    refine dp HT 0 rfl (pFb fd_142_0) ?_
    refine dr HT 1 rfl (rB1 ty_3) ?_
    refine dp HT 2 rfl (pFb fd_142_1) ?_
    refine dr HT 3 rfl (rB1 ty_3) ?_
    refine dp HT 4 rfl (pFb fd_142_2) ?_
    refine dr HT 5 rfl (rB1 ty_3) ?_
    refine dp HT 6 rfl (pFb fd_142_3) ?_
    refine dr HT 7 rfl (rB1 ty_3) ?_
    refine dp HT 8 rfl pM ?_
    refine dp HT 9 rfl pM ?_
    refine dp HT 10 rfl pM ?_
    refine dp HT 11 rfl pM ?_
    refine dp HT 12 rfl (pSlice rfl rfl es_50 (bdN rfl) (bdI rfl) (by first | omega | (simp only [List.length_map]; omega)) (by first | omega | (simp only [List.length_map]; omega))) ?_
    rw [show (((b.drop (488 * i)).map by1).drop 0).take (min 488 (b.length - 488 * i) - 0) = ((b.drop (488 * i)).take 488).map by1 by rw [List.drop_zero, Nat.sub_zero, ← List.map_take, part_take]]
    refine dGo ?_
    refine eTwoS (i := 13) (j := 15) #[true, true, true, true, true, true, true, true, true, true, true, true, true, true, false, false, false] #[true, true, true, true, true, true, true, true, true, true, true, true, true, false, false, true, false] rfl rfl (HT.two (by kernel_rfl)) (by decide) (by decide) ?_ ?_
    ·skip
     refine stQ (wantN rfl) (fun t ht => by cases ht <;> decide) ?_
     refine ci rfl rfl rfl (clone_Bs (l := (b.drop (488 * i)).take 488) (by rw [List.length_take]; omega)) ?_
     refine undel (d := 36) rfl ?_
     refine ef HT 14 rfl (pBuild rfl st_142 ze_142 rfl rfl rfl rfl) ?_
     refine e1 HT 15 rfl ?_
     refine qAlloc rfl rfl (by decide) ze_142 rfl (fun b10 => ?_)
     refine eLast ?_
     refine f1 HT 16 rfl ?_
     refine oStW rfl rfl rfl rfl (by repeat constructor) ty_142 ?_
     refine fE HT ?_
     clear HT
     refine aSeq ?_
     refine aSeq ?_
     refine aReg ?_
     refine sp (pFb fd_142_3) ?_
     refine sr (rB1 ty_3) ?_
     refine sp pB ?_
     refine sp pM ?_
     refine oSplitDec 41 rfl (fun c41 => ?_) (fun c41 => ?_)
     ·skip
      refine gp (pFb fd_142_3) ?_
      refine gr (rB1 ty_3) ?_
      refine gp pB ?_
      refine sp pK ?_
      refine oNil ?_
      refine aCondDec rfl (fun c45 => ?_) (fun c45 => ?_)
      ·skip
       refine aReg ?_
       refine sp (pFb fd_142_3) ?_
       refine sr (rB1 ty_3) ?_
       refine sp pM ?_
       refine sp pAd ?_
       refine sp (pFb fd_142_3) ?_
       refine sa ?_
       refine oStB rfl rfl rfl rfl (by repeat constructor) ty_3 rfl (Nat.le_of_ble_eq_true rfl) rfl ?_
       refine oNil ?_
       refine aSeq ?_
       refine aSeq ?_
       refine aWeak (weak_box (b := b10) (cs' := pgC (partPg p b (partsN b.length) i)) (by repeat constructor) (by
         first
           | (have hE : partPg p b (partsN b.length) i = ⟨p.kind, p.gen, p.mark, p.index + i, i, (partsN b.length), (b.drop (488 * i)).take 488⟩ := by unfold partPg; rw [if_pos (by first | (simp_all; done) | (simp_all; omega))]
              rw [hE]; rfl)
           | (have hE : partPg p b (partsN b.length) i = ⟨p.kind, p.gen, p.mark, p.index, i, (partsN b.length), (b.drop (488 * i)).take 488⟩ := by unfold partPg; rw [if_neg (by first | (simp_all; done) | (simp_all; omega))]
              rw [hE]; rfl))) ?_
       refine aReg ?_
       refine sr (by first | exact rBWa ty_142 | exact rBW ty_142 | exact rBA ty_142) ?_
       refine sq ?_
       refine ci rfl rfl rfl (rec_right (p := partPg p b (partsN b.length) i) (by show ((b.drop (488 * i)).take 488).length ≤ 1000000; rw [List.length_take]; omega) (partPg_ok hk _ _)) ?_
       refine sp pNo ?_
       refine oNil ?_
       refine aCondNot rfl (fun c53 => ?_) (fun c53 => ?_)
       ·skip
        refine aSeq ?_
        have hbad : mayPg (partPg p b (partsN b.length) i) = false := by simp_all
        refine aWeak (weak_nil 142 7) ?_
        refine aReg ?_
        refine sp pMa ?_
        refine sp pMa ?_
        refine oNil ?_
        have hE : splitE p b = 1 := splitE_bad h0 (by omega) hbad
        have hR : splitR p b = [] := by unfold splitR; rw [hE]; rfl
        rw [hE, hR]
        refine aRet ?_
        exact ⟨_, [.sl none 0 142 7 []], _, rfl, .cons (by repeat constructor) .nil, none, 0, rfl, rfl⟩
       ·skip
        refine aSkip ?_
        refine aDrawT rec_SplitO_r14_t rec_SplitO_r14_b [3] 9 #[false, false, false, false, false, false, false, false, false] (by kernel_rfl) rfl rfl (fun HT => ?_)
        refine dp HT 0 rfl pM ?_
        refine dr HT 1 rfl (by first | exact rBWa ty_142 | exact rBW ty_142 | exact rBA ty_142) ?_
        refine dp HT 4 rfl pM ?_
        refine dp HT 5 rfl pM ?_
        refine dp HT 6 rfl (pSlice rfl rfl es_50 (bdI rfl) (bdN rfl) (by first | omega | (simp only [List.length_map]; omega)) (by first | omega | (simp only [List.length_map]; omega))) ?_
        rw [part_next]
        refine dGo ?_
        refine e1 HT 2 rfl ?_
        refine qLit (l := [_]) rfl rfl (by decide) us_288 ty_142 ze_142 rfl (by decide) (by decide) rfl rfl rfl (fun b56 => ?_)
        refine eLast ?_
        refine f1 HT 3 rfl ?_
        refine oAppT ([partPg p b (partsN b.length) i] : List Pg) rfl rfl (by repeat constructor) (srcOwn rfl (by repeat constructor) rfl) el_288 sl_288 (fun g57 k57 => ?_)
        refine fp HT 7 rfl pMa ?_
        refine fp HT 8 rfl pMa ?_
        refine fE HT ?_
        clear HT
        refine aReg ?_
        refine sp pAd ?_
        refine sp pM ?_
        refine oNil ?_
        refine ⟨(i + 1, _, _, _), ?_, by (try dsimp only); omega, ⟨gInt rfl (by first | rfl | omega | simp), rfl, gLen rfl (by first | rfl | simp | (simp; omega)), rfl, rfl, rfl, trivial⟩, _, (by repeat constructor)⟩
        refine ⟨by omega, by rw [pgsL_step, ← hl], fun j hj => ?_⟩
        by_cases hji : j = i
        ·subst hji; simp_all
        ·exact hm j (by omega)
      ·skip
       refine aSkip ?_
       refine aSeq ?_
       refine aSeq ?_
       refine aWeak (weak_box (b := b10) (cs' := pgC (partPg p b (partsN b.length) i)) (by repeat constructor) (by
         first
           | (have hE : partPg p b (partsN b.length) i = ⟨p.kind, p.gen, p.mark, p.index + i, i, (partsN b.length), (b.drop (488 * i)).take 488⟩ := by unfold partPg; rw [if_pos (by first | (simp_all; done) | (simp_all; omega))]
              rw [hE]; rfl)
           | (have hE : partPg p b (partsN b.length) i = ⟨p.kind, p.gen, p.mark, p.index, i, (partsN b.length), (b.drop (488 * i)).take 488⟩ := by unfold partPg; rw [if_neg (by first | (simp_all; done) | (simp_all; omega))]
              rw [hE]; rfl))) ?_
       refine aReg ?_
       refine sr (by first | exact rBWa ty_142 | exact rBW ty_142 | exact rBA ty_142) ?_
       refine sq ?_
       refine ci rfl rfl rfl (rec_right (p := partPg p b (partsN b.length) i) (by show ((b.drop (488 * i)).take 488).length ≤ 1000000; rw [List.length_take]; omega) (partPg_ok hk _ _)) ?_
       refine sp pNo ?_
       refine oNil ?_
       refine aCondNot rfl (fun c53 => ?_) (fun c53 => ?_)
       ·skip
        refine aSeq ?_
        have hbad : mayPg (partPg p b (partsN b.length) i) = false := by simp_all
        refine aWeak (weak_nil 142 7) ?_
        refine aReg ?_
        refine sp pMa ?_
        refine sp pMa ?_
        refine oNil ?_
        have hE : splitE p b = 1 := splitE_bad h0 (by omega) hbad
        have hR : splitR p b = [] := by unfold splitR; rw [hE]; rfl
        rw [hE, hR]
        refine aRet ?_
        exact ⟨_, [.sl none 0 142 7 []], _, rfl, .cons (by repeat constructor) .nil, none, 0, rfl, rfl⟩
       ·skip
        refine aSkip ?_
        refine aDrawT rec_SplitO_r14_t rec_SplitO_r14_b [3] 9 #[false, false, false, false, false, false, false, false, false] (by kernel_rfl) rfl rfl (fun HT => ?_)
        refine dp HT 0 rfl pM ?_
        refine dr HT 1 rfl (by first | exact rBWa ty_142 | exact rBW ty_142 | exact rBA ty_142) ?_
        refine dp HT 4 rfl pM ?_
        refine dp HT 5 rfl pM ?_
        refine dp HT 6 rfl (pSlice rfl rfl es_50 (bdI rfl) (bdN rfl) (by first | omega | (simp only [List.length_map]; omega)) (by first | omega | (simp only [List.length_map]; omega))) ?_
        rw [part_next]
        refine dGo ?_
        refine e1 HT 2 rfl ?_
        refine qLit (l := [_]) rfl rfl (by decide) us_288 ty_142 ze_142 rfl (by decide) (by decide) rfl rfl rfl (fun b56 => ?_)
        refine eLast ?_
        refine f1 HT 3 rfl ?_
        refine oAppT ([partPg p b (partsN b.length) i] : List Pg) rfl rfl (by repeat constructor) (srcOwn rfl (by repeat constructor) rfl) el_288 sl_288 (fun g57 k57 => ?_)
        refine fp HT 7 rfl pMa ?_
        refine fp HT 8 rfl pMa ?_
        refine fE HT ?_
        clear HT
        refine aReg ?_
        refine sp pAd ?_
        refine sp pM ?_
        refine oNil ?_
        refine ⟨(i + 1, _, _, _), ?_, by (try dsimp only); omega, ⟨gInt rfl (by first | rfl | omega | simp), rfl, gLen rfl (by first | rfl | simp | (simp; omega)), rfl, rfl, rfl, trivial⟩, _, (by repeat constructor)⟩
        refine ⟨by omega, by rw [pgsL_step, ← hl], fun j hj => ?_⟩
        by_cases hji : j = i
        ·subst hji; simp_all
        ·exact hm j (by omega)
     ·skip
      refine gf ?_
      refine gf ?_
      refine gf ?_
      refine sp pK ?_
      refine oNil ?_
      refine aCondF rfl ?_
      refine aSkip ?_
      refine aSeq ?_
      refine aSeq ?_
      refine aWeak (weak_box (b := b10) (cs' := pgC (partPg p b (partsN b.length) i)) (by repeat constructor) (by
        first
          | (have hE : partPg p b (partsN b.length) i = ⟨p.kind, p.gen, p.mark, p.index + i, i, (partsN b.length), (b.drop (488 * i)).take 488⟩ := by unfold partPg; rw [if_pos (by first | (simp_all; done) | (simp_all; omega))]
             rw [hE]; rfl)
          | (have hE : partPg p b (partsN b.length) i = ⟨p.kind, p.gen, p.mark, p.index, i, (partsN b.length), (b.drop (488 * i)).take 488⟩ := by unfold partPg; rw [if_neg (by first | (simp_all; done) | (simp_all; omega))]
             rw [hE]; rfl))) ?_
      refine aReg ?_
      refine sr (by first | exact rBWa ty_142 | exact rBW ty_142 | exact rBA ty_142) ?_
      refine sq ?_
      refine ci rfl rfl rfl (rec_right (p := partPg p b (partsN b.length) i) (by show ((b.drop (488 * i)).take 488).length ≤ 1000000; rw [List.length_take]; omega) (partPg_ok hk _ _)) ?_
      refine sp pNo ?_
      refine oNil ?_
      refine aCondNot rfl (fun c53 => ?_) (fun c53 => ?_)
      ·skip
       refine aSeq ?_
       have hbad : mayPg (partPg p b (partsN b.length) i) = false := by simp_all
       refine aWeak (weak_nil 142 7) ?_
       refine aReg ?_
       refine sp pMa ?_
       refine sp pMa ?_
       refine oNil ?_
       have hE : splitE p b = 1 := splitE_bad h0 (by omega) hbad
       have hR : splitR p b = [] := by unfold splitR; rw [hE]; rfl
       rw [hE, hR]
       refine aRet ?_
       exact ⟨_, [.sl none 0 142 7 []], _, rfl, .cons (by repeat constructor) .nil, none, 0, rfl, rfl⟩
      ·skip
       refine aSkip ?_
       refine aDrawT rec_SplitO_r14_t rec_SplitO_r14_b [3] 9 #[false, false, false, false, false, false, false, false, false] (by kernel_rfl) rfl rfl (fun HT => ?_)
       refine dp HT 0 rfl pM ?_
       refine dr HT 1 rfl (by first | exact rBWa ty_142 | exact rBW ty_142 | exact rBA ty_142) ?_
       refine dp HT 4 rfl pM ?_
       refine dp HT 5 rfl pM ?_
       refine dp HT 6 rfl (pSlice rfl rfl es_50 (bdI rfl) (bdN rfl) (by first | omega | (simp only [List.length_map]; omega)) (by first | omega | (simp only [List.length_map]; omega))) ?_
       rw [part_next]
       refine dGo ?_
       refine e1 HT 2 rfl ?_
       refine qLit (l := [_]) rfl rfl (by decide) us_288 ty_142 ze_142 rfl (by decide) (by decide) rfl rfl rfl (fun b56 => ?_)
       refine eLast ?_
       refine f1 HT 3 rfl ?_
       refine oAppT ([partPg p b (partsN b.length) i] : List Pg) rfl rfl (by repeat constructor) (srcOwn rfl (by repeat constructor) rfl) el_288 sl_288 (fun g57 k57 => ?_)
       refine fp HT 7 rfl pMa ?_
       refine fp HT 8 rfl pMa ?_
       refine fE HT ?_
       clear HT
       refine aReg ?_
       refine sp pAd ?_
       refine sp pM ?_
       refine oNil ?_
       refine ⟨(i + 1, _, _, _), ?_, by (try dsimp only); omega, ⟨gInt rfl (by first | rfl | omega | simp), rfl, gLen rfl (by first | rfl | simp | (simp; omega)), rfl, rfl, rfl, trivial⟩, _, (by repeat constructor)⟩
       refine ⟨by omega, by rw [pgsL_step, ← hl], fun j hj => ?_⟩
       by_cases hji : j = i
       ·subst hji; simp_all
       ·exact hm j (by omega)
    ·skip
     refine stQ (wantN rfl) (fun t ht => by cases ht <;> decide) ?_
     refine qAlloc rfl rfl (by decide) ze_142 rfl (fun b10 => ?_)
     refine undel (d := 10) rfl ?_
     refine e1 HT 13 rfl ?_
     refine ci rfl rfl rfl (clone_Bs (l := (b.drop (488 * i)).take 488) (by rw [List.length_take]; omega)) ?_
     refine ef HT 14 rfl (pBuild rfl st_142 ze_142 rfl rfl rfl rfl) ?_
     refine eLast ?_
     refine f1 HT 16 rfl ?_
     refine oStW rfl rfl rfl rfl (by repeat constructor) ty_142 ?_
     refine fE HT ?_
     clear HT
     refine aSeq ?_
     refine aSeq ?_
     refine aReg ?_
     refine sp (pFb fd_142_3) ?_
     refine sr (rB1 ty_3) ?_
     refine sp pB ?_
     refine sp pM ?_
     refine oSplitDec 41 rfl (fun c41 => ?_) (fun c41 => ?_)
     ·skip
      refine gp (pFb fd_142_3) ?_
      refine gr (rB1 ty_3) ?_
      refine gp pB ?_
      refine sp pK ?_
      refine oNil ?_
      refine aCondDec rfl (fun c45 => ?_) (fun c45 => ?_)
      ·skip
       refine aReg ?_
       refine sp (pFb fd_142_3) ?_
       refine sr (rB1 ty_3) ?_
       refine sp pM ?_
       refine sp pAd ?_
       refine sp (pFb fd_142_3) ?_
       refine sa ?_
       refine oStB rfl rfl rfl rfl (by repeat constructor) ty_3 rfl (Nat.le_of_ble_eq_true rfl) rfl ?_
       refine oNil ?_
       refine aSeq ?_
       refine aSeq ?_
       refine aWeak (weak_box (b := b10) (cs' := pgC (partPg p b (partsN b.length) i)) (by repeat constructor) (by
         first
           | (have hE : partPg p b (partsN b.length) i = ⟨p.kind, p.gen, p.mark, p.index + i, i, (partsN b.length), (b.drop (488 * i)).take 488⟩ := by unfold partPg; rw [if_pos (by first | (simp_all; done) | (simp_all; omega))]
              rw [hE]; rfl)
           | (have hE : partPg p b (partsN b.length) i = ⟨p.kind, p.gen, p.mark, p.index, i, (partsN b.length), (b.drop (488 * i)).take 488⟩ := by unfold partPg; rw [if_neg (by first | (simp_all; done) | (simp_all; omega))]
              rw [hE]; rfl))) ?_
       refine aReg ?_
       refine sr (by first | exact rBWa ty_142 | exact rBW ty_142 | exact rBA ty_142) ?_
       refine sq ?_
       refine ci rfl rfl rfl (rec_right (p := partPg p b (partsN b.length) i) (by show ((b.drop (488 * i)).take 488).length ≤ 1000000; rw [List.length_take]; omega) (partPg_ok hk _ _)) ?_
       refine sp pNo ?_
       refine oNil ?_
       refine aCondNot rfl (fun c53 => ?_) (fun c53 => ?_)
       ·skip
        refine aSeq ?_
        have hbad : mayPg (partPg p b (partsN b.length) i) = false := by simp_all
        refine aWeak (weak_nil 142 7) ?_
        refine aReg ?_
        refine sp pMa ?_
        refine sp pMa ?_
        refine oNil ?_
        have hE : splitE p b = 1 := splitE_bad h0 (by omega) hbad
        have hR : splitR p b = [] := by unfold splitR; rw [hE]; rfl
        rw [hE, hR]
        refine aRet ?_
        exact ⟨_, [.sl none 0 142 7 []], _, rfl, .cons (by repeat constructor) .nil, none, 0, rfl, rfl⟩
       ·skip
        refine aSkip ?_
        refine aDrawT rec_SplitO_r14_t rec_SplitO_r14_b [3] 9 #[false, false, false, false, false, false, false, false, false] (by kernel_rfl) rfl rfl (fun HT => ?_)
        refine dp HT 0 rfl pM ?_
        refine dr HT 1 rfl (by first | exact rBWa ty_142 | exact rBW ty_142 | exact rBA ty_142) ?_
        refine dp HT 4 rfl pM ?_
        refine dp HT 5 rfl pM ?_
        refine dp HT 6 rfl (pSlice rfl rfl es_50 (bdI rfl) (bdN rfl) (by first | omega | (simp only [List.length_map]; omega)) (by first | omega | (simp only [List.length_map]; omega))) ?_
        rw [part_next]
        refine dGo ?_
        refine e1 HT 2 rfl ?_
        refine qLit (l := [_]) rfl rfl (by decide) us_288 ty_142 ze_142 rfl (by decide) (by decide) rfl rfl rfl (fun b56 => ?_)
        refine eLast ?_
        refine f1 HT 3 rfl ?_
        refine oAppT ([partPg p b (partsN b.length) i] : List Pg) rfl rfl (by repeat constructor) (srcOwn rfl (by repeat constructor) rfl) el_288 sl_288 (fun g57 k57 => ?_)
        refine fp HT 7 rfl pMa ?_
        refine fp HT 8 rfl pMa ?_
        refine fE HT ?_
        clear HT
        refine aReg ?_
        refine sp pAd ?_
        refine sp pM ?_
        refine oNil ?_
        refine ⟨(i + 1, _, _, _), ?_, by (try dsimp only); omega, ⟨gInt rfl (by first | rfl | omega | simp), rfl, gLen rfl (by first | rfl | simp | (simp; omega)), rfl, rfl, rfl, trivial⟩, _, (by repeat constructor)⟩
        refine ⟨by omega, by rw [pgsL_step, ← hl], fun j hj => ?_⟩
        by_cases hji : j = i
        ·subst hji; simp_all
        ·exact hm j (by omega)
      ·skip
       refine aSkip ?_
       refine aSeq ?_
       refine aSeq ?_
       refine aWeak (weak_box (b := b10) (cs' := pgC (partPg p b (partsN b.length) i)) (by repeat constructor) (by
         first
           | (have hE : partPg p b (partsN b.length) i = ⟨p.kind, p.gen, p.mark, p.index + i, i, (partsN b.length), (b.drop (488 * i)).take 488⟩ := by unfold partPg; rw [if_pos (by first | (simp_all; done) | (simp_all; omega))]
              rw [hE]; rfl)
           | (have hE : partPg p b (partsN b.length) i = ⟨p.kind, p.gen, p.mark, p.index, i, (partsN b.length), (b.drop (488 * i)).take 488⟩ := by unfold partPg; rw [if_neg (by first | (simp_all; done) | (simp_all; omega))]
              rw [hE]; rfl))) ?_
       refine aReg ?_
       refine sr (by first | exact rBWa ty_142 | exact rBW ty_142 | exact rBA ty_142) ?_
       refine sq ?_
       refine ci rfl rfl rfl (rec_right (p := partPg p b (partsN b.length) i) (by show ((b.drop (488 * i)).take 488).length ≤ 1000000; rw [List.length_take]; omega) (partPg_ok hk _ _)) ?_
       refine sp pNo ?_
       refine oNil ?_
       refine aCondNot rfl (fun c53 => ?_) (fun c53 => ?_)
       ·skip
        refine aSeq ?_
        have hbad : mayPg (partPg p b (partsN b.length) i) = false := by simp_all
        refine aWeak (weak_nil 142 7) ?_
        refine aReg ?_
        refine sp pMa ?_
        refine sp pMa ?_
        refine oNil ?_
        have hE : splitE p b = 1 := splitE_bad h0 (by omega) hbad
        have hR : splitR p b = [] := by unfold splitR; rw [hE]; rfl
        rw [hE, hR]
        refine aRet ?_
        exact ⟨_, [.sl none 0 142 7 []], _, rfl, .cons (by repeat constructor) .nil, none, 0, rfl, rfl⟩
       ·skip
        refine aSkip ?_
        refine aDrawT rec_SplitO_r14_t rec_SplitO_r14_b [3] 9 #[false, false, false, false, false, false, false, false, false] (by kernel_rfl) rfl rfl (fun HT => ?_)
        refine dp HT 0 rfl pM ?_
        refine dr HT 1 rfl (by first | exact rBWa ty_142 | exact rBW ty_142 | exact rBA ty_142) ?_
        refine dp HT 4 rfl pM ?_
        refine dp HT 5 rfl pM ?_
        refine dp HT 6 rfl (pSlice rfl rfl es_50 (bdI rfl) (bdN rfl) (by first | omega | (simp only [List.length_map]; omega)) (by first | omega | (simp only [List.length_map]; omega))) ?_
        rw [part_next]
        refine dGo ?_
        refine e1 HT 2 rfl ?_
        refine qLit (l := [_]) rfl rfl (by decide) us_288 ty_142 ze_142 rfl (by decide) (by decide) rfl rfl rfl (fun b56 => ?_)
        refine eLast ?_
        refine f1 HT 3 rfl ?_
        refine oAppT ([partPg p b (partsN b.length) i] : List Pg) rfl rfl (by repeat constructor) (srcOwn rfl (by repeat constructor) rfl) el_288 sl_288 (fun g57 k57 => ?_)
        refine fp HT 7 rfl pMa ?_
        refine fp HT 8 rfl pMa ?_
        refine fE HT ?_
        clear HT
        refine aReg ?_
        refine sp pAd ?_
        refine sp pM ?_
        refine oNil ?_
        refine ⟨(i + 1, _, _, _), ?_, by (try dsimp only); omega, ⟨gInt rfl (by first | rfl | omega | simp), rfl, gLen rfl (by first | rfl | simp | (simp; omega)), rfl, rfl, rfl, trivial⟩, _, (by repeat constructor)⟩
        refine ⟨by omega, by rw [pgsL_step, ← hl], fun j hj => ?_⟩
        by_cases hji : j = i
        ·subst hji; simp_all
        ·exact hm j (by omega)
     ·skip
      refine gf ?_
      refine gf ?_
      refine gf ?_
      refine sp pK ?_
      refine oNil ?_
      refine aCondF rfl ?_
      refine aSkip ?_
      refine aSeq ?_
      refine aSeq ?_
      refine aWeak (weak_box (b := b10) (cs' := pgC (partPg p b (partsN b.length) i)) (by repeat constructor) (by
        first
          | (have hE : partPg p b (partsN b.length) i = ⟨p.kind, p.gen, p.mark, p.index + i, i, (partsN b.length), (b.drop (488 * i)).take 488⟩ := by unfold partPg; rw [if_pos (by first | (simp_all; done) | (simp_all; omega))]
             rw [hE]; rfl)
          | (have hE : partPg p b (partsN b.length) i = ⟨p.kind, p.gen, p.mark, p.index, i, (partsN b.length), (b.drop (488 * i)).take 488⟩ := by unfold partPg; rw [if_neg (by first | (simp_all; done) | (simp_all; omega))]
             rw [hE]; rfl))) ?_
      refine aReg ?_
      refine sr (by first | exact rBWa ty_142 | exact rBW ty_142 | exact rBA ty_142) ?_
      refine sq ?_
      refine ci rfl rfl rfl (rec_right (p := partPg p b (partsN b.length) i) (by show ((b.drop (488 * i)).take 488).length ≤ 1000000; rw [List.length_take]; omega) (partPg_ok hk _ _)) ?_
      refine sp pNo ?_
      refine oNil ?_
      refine aCondNot rfl (fun c53 => ?_) (fun c53 => ?_)
      ·skip
       refine aSeq ?_
       have hbad : mayPg (partPg p b (partsN b.length) i) = false := by simp_all
       refine aWeak (weak_nil 142 7) ?_
       refine aReg ?_
       refine sp pMa ?_
       refine sp pMa ?_
       refine oNil ?_
       have hE : splitE p b = 1 := splitE_bad h0 (by omega) hbad
       have hR : splitR p b = [] := by unfold splitR; rw [hE]; rfl
       rw [hE, hR]
       refine aRet ?_
       exact ⟨_, [.sl none 0 142 7 []], _, rfl, .cons (by repeat constructor) .nil, none, 0, rfl, rfl⟩
      ·skip
       refine aSkip ?_
       refine aDrawT rec_SplitO_r14_t rec_SplitO_r14_b [3] 9 #[false, false, false, false, false, false, false, false, false] (by kernel_rfl) rfl rfl (fun HT => ?_)
       refine dp HT 0 rfl pM ?_
       refine dr HT 1 rfl (by first | exact rBWa ty_142 | exact rBW ty_142 | exact rBA ty_142) ?_
       refine dp HT 4 rfl pM ?_
       refine dp HT 5 rfl pM ?_
       refine dp HT 6 rfl (pSlice rfl rfl es_50 (bdI rfl) (bdN rfl) (by first | omega | (simp only [List.length_map]; omega)) (by first | omega | (simp only [List.length_map]; omega))) ?_
       rw [part_next]
       refine dGo ?_
       refine e1 HT 2 rfl ?_
       refine qLit (l := [_]) rfl rfl (by decide) us_288 ty_142 ze_142 rfl (by decide) (by decide) rfl rfl rfl (fun b56 => ?_)
       refine eLast ?_
       refine f1 HT 3 rfl ?_
       refine oAppT ([partPg p b (partsN b.length) i] : List Pg) rfl rfl (by repeat constructor) (srcOwn rfl (by repeat constructor) rfl) el_288 sl_288 (fun g57 k57 => ?_)
       refine fp HT 7 rfl pMa ?_
       refine fp HT 8 rfl pMa ?_
       refine fE HT ?_
       clear HT
       refine aReg ?_
       refine sp pAd ?_
       refine sp pM ?_
       refine oNil ?_
       refine ⟨(i + 1, _, _, _), ?_, by (try dsimp only); omega, ⟨gInt rfl (by first | rfl | omega | simp), rfl, gLen rfl (by first | rfl | simp | (simp; omega)), rfl, rfl, rfl, trivial⟩, _, (by repeat constructor)⟩
       refine ⟨by omega, by rw [pgsL_step, ← hl], fun j hj => ?_⟩
       by_cases hji : j = i
       ·subst hji; simp_all
       ·exact hm j (by omega)
   ·skip
    refine aExit rfl ?_
    refine aSeq ?_
    refine aReg ?_
    refine sp pM ?_
    refine sp pMa ?_
    refine sp pMa ?_
    refine oNil ?_
    have hE : splitE p b = 0 := splitE_ok h0 (fun j hj => hm j (by omega))
    have hR : splitR p b = pgsL p b (partsN b.length) i := by
      unfold splitR
      rw [hE, if_pos rfl]
      unfold splitL
      rw [show (partsN b.length).toNat = i by omega]
      rfl
    rw [hE, hR, ← hl]
    refine aRet ?_
    exact ⟨_, [.sl g c 142 7 (l.map pgC)], _, rfl, .cons (by repeat constructor) .nil, g, c, rfl, rfl⟩
end A
end Go.Proofs.YthkgdhamnpiagaaGreat
namespace Go.Proofs.YthkgdhamnpiagaaGreat
namespace A
theorem es_288 : elemSize Tryz.prog 288 = some 7 := by kernel_rfl
theorem bdE {N : Nat} {env : Env} {y : Operand} {k : IntKind} {z m : Nat} {n : Int} (h : ev env y = some (.v (.int k n))) (e : n = (m : Int)) : BoundIs env (some y) z m := by subst e; exact bdI h
theorem rec_Split {p : Pg} {b : BS} (hb : b.length ≤ 1000000) (hk : BOk b) : Triple Tryz.prog 175 [.agg (pgC p), .sl 1 (b.map by1)] [] (Is (.tup [.sl 7 ((splitR p b).map pgC), .int (splitE p b)]) []) :=
 (rec_SplitO (p := p) hb hk).deep fun q h' ⟨g, c, hq, hh⟩ => ⟨_, [.sl g c 142 7 ((splitR p b).map pgC)], [], by subst hh; exact .cons .hd .nil, by subst hq; exact .tup (.sl List.mem_cons_self (by rw [List.length_map]) Deep.refl (.same (.row .nil))) (.row .nil), rfl, rfl⟩
def joinV (l : List Pg) : List AV := match joinR l with
 | none => [bsA [], .int 0, .v (.bool false)]
 | some q => [bsA q.1, .int (q.2 : Nat), .v (.bool true)]
theorem concB_len : ∀ {l : List Pg}, (∀ p ∈ l, p.b.length ≤ 488) → (concB l).length ≤ 488 * l.length
 | [], _ => by simp [concB]
 | p :: t, h => by
   have h1 := concB_len (l := t) fun q hq => h q (by simp [hq])
   have h2 := h p (by simp)
   unfold concB at *
   simp only [List.flatMap_cons, List.length_append, List.length_cons]
   omega
theorem joinV_none {l : List Pg} (h : joinR l = none) : joinV l = [bsA [], .int 0, .v (.bool false)] := by unfold joinV; rw [h]
theorem joinV_some {l : List Pg} {q : BS × Nat} (h : joinR l = some q) : joinV l = [bsA q.1, .int (q.2 : Nat), .v (.bool true)] := by unfold joinV; rw [h]
/- record.Join -/
set_option maxRecDepth 100000 in
set_option maxHeartbeats 400000 in
theorem rec_Join0  : Triple Tryz.prog 259 [.sl 7 (([] : List Pg).map pgC)] [] (Is (.tup (joinV [])) []) := by
 refine triple_of Tryz.func259 rfl (by kernel_rfl) rfl (by simp) ?_
 refine aSeq ?_
 refine aReg ?_
 refine sp pMa ?_
 refine sp pMa ?_
 refine sp pMa ?_
 refine oNil ?_
 refine aSeq ?_
 refine aSeq ?_
 refine aReg ?_
 refine sp pM ?_
 refine sp (by first | exact pLm sl_288 | exact pLs sl_288) ?_
 refine sp pB ?_
 refine sp pM ?_
 refine gf ?_
 refine gf ?_
 refine gf ?_
 refine gf ?_
 refine gf ?_
 refine sp pK ?_
 refine sp pM ?_
 refine gf ?_
 refine gf ?_
 refine gf ?_
 refine gf ?_
 refine gf ?_
 refine gf ?_
 refine gf ?_
 refine sp pK ?_
 refine oNil ?_
 refine aCondT rfl ?_
 refine aSeq ?_
 refine aReg ?_
 refine sp pMa ?_
 refine sp pMa ?_
 refine sp pMa ?_
 refine oNil ?_
 have hJ : joinR ([] : List Pg) = none := rfl
 rw [joinV_none hJ]
 refine aWeak (weak_cast (k := 2) (b := .sl 1 []) rfl cast_nil) ?_
 refine aRet ?_
 exact finIs rfl rfl
/- record.Join -/
def rec_JoinC_r8_T : Bool × List (List Nat × List Nat) := (true, [([], []), ([0], [0]), ([1], [1]), ([], []), ([], []), ([2, 3, 4], [2, 3, 4]), ([5], [5])])
def rec_JoinC_r8_B : List Nat := [0, 1, 3, 0, 0, 31, 63]
theorem rec_JoinC_r8_t : Go.Proofs.YthkgdhamnpiagaaGreatW.PrintLast.rtab .any (Go.Proofs.YthkgdhamnpiagaaGreatW.PrintLast.opsOf Tryz.f259 8) = rec_JoinC_r8_T := by kernel_rfl
theorem rec_JoinC_r8_b : Go.Proofs.YthkgdhamnpiagaaGreatW.PrintLast.waitsOk rec_JoinC_r8_T.2 rec_JoinC_r8_B = true := by kernel_rfl
set_option maxRecDepth 100000 in
set_option maxHeartbeats 4000000 in
theorem rec_JoinC {f : Pg} {t : List Pg} (hl : (f :: t).length ≤ 1000000) (hb : ∀ p ∈ f :: t, p.b.length ≤ 488) (hk : ∀ p ∈ f :: t, BOk p.b) : Triple Tryz.prog 259 [.sl 7 ((f :: t).map pgC)] [] (Is (.tup (joinV (f :: t))) []) := by
 have hl0 : (f :: t)[(0 : Int).toNat]? = some f := rfl
 have hfb := hb f (by simp)
 have hfk := hk f (by simp)
 refine triple_of Tryz.func259 rfl (by kernel_rfl) rfl (by simp) ?_
 refine aSeq ?_
 refine aReg ?_
 refine sp pMa ?_
 refine sp pMa ?_
 refine sp pMa ?_
 refine oNil ?_
 refine aSeq ?_
 refine aSeq ?_
 refine aReg ?_
 refine sp pM ?_
 refine sp (by first | exact pLm sl_288 | exact pLs sl_288) ?_
 refine sp (pBl (by exact pB) (show _ = false from by simp; omega)) ?_
 refine sp pM ?_
 refine gp pM ?_
 first | refine gp (pIx es_288) ?_ | refine gp (pIo es_288) ?_
 refine gr (by first | exact rSW ty_142 rfl | exact rSA ty_142) ?_
 refine ga ?_
 refine (ci rfl rfl rfl (rec_right (p := f) (by omega) hfk) ?_).op
 refine gp pNo ?_
 refine sp pK ?_
 refine sp pM ?_
 refine oSplitNot 19 rfl (fun c19 => ?_) (fun c19 => ?_)
 ·skip
  refine gf ?_
  refine gf ?_
  refine gf ?_
  refine gf ?_
  refine gf ?_
  refine gf ?_
  refine gf ?_
  refine sp pK ?_
  refine oNil ?_
  refine aCondT rfl ?_
  refine aSeq ?_
  refine aReg ?_
  refine sp pMa ?_
  refine sp pMa ?_
  refine sp pMa ?_
  refine oNil ?_
  have hJ : joinR (f :: t) = none := joinR_no (by
    cases hm : mayPg f with
    | false => exact .inl rfl
    | true => right; first | (simp_all; done) | (simp_all; omega))
  rw [joinV_none hJ]
  refine aWeak (weak_cast (k := 2) (b := .sl 1 []) rfl cast_nil) ?_
  refine aRet ?_
  exact finIs rfl rfl
 ·skip
  refine gp pM ?_
  refine gp (by first | exact pLm sl_288 | exact pLs sl_288) ?_
  refine gp pM ?_
  first | refine gp (pIx es_288) ?_ | refine gp (pIo es_288) ?_
  refine gp (pFs fd_142_5) ?_
  refine gr (rS1 ty_3) ?_
  refine gp pB ?_
  refine sp pK ?_
  refine oNil ?_
  refine aCondDec rfl (fun c27 => ?_) (fun c27 => ?_)
  ·skip
   refine aSeq ?_
   refine aReg ?_
   refine sp pMa ?_
   refine sp pMa ?_
   refine sp pMa ?_
   refine oNil ?_
   have hJ : joinR (f :: t) = none := joinR_no (by
     cases hm : mayPg f with
     | false => exact .inl rfl
     | true => right; first | (simp_all; done) | (simp_all; omega))
   rw [joinV_none hJ]
   refine aWeak (weak_cast (k := 2) (b := .sl 1 []) rfl cast_nil) ?_
   refine aRet ?_
   exact finIs rfl rfl
  ·skip
   refine aSkip ?_
   refine aSeq ?_
   have hmy : mayPg f = true := by simp_all
   have hnl : ¬ ((f :: t).length : Int) < f.parts := by first | (simp_all; done) | (simp_all; omega)
   have ho := mayPg_iff.1 hmy
   obtain ⟨q1, q2, q3, q4, q5, q6, q7⟩ := ho
   have hLl : ((f :: t).take f.parts.toNat).length = f.parts.toNat := by rw [List.length_take]; omega
   obtain ⟨L, hL⟩ : ∃ z, ((f :: t).take f.parts.toNat) = z := ⟨_, rfl⟩
   rw [hL] at hLl
   refine aReg ?_
   refine sp pM ?_
   first | refine sp (pIx es_288) ?_ | refine sp (pIo es_288) ?_
   refine sp (pFs fd_142_5) ?_
   refine sr (rS1 ty_3) ?_
   refine sp pMa ?_
   refine oNil ?_
   refine aSeq ?_
   refine aReg ?_
   refine sp pMa ?_
   refine oNil ?_
   refine aSeq ?_
   refine aSeq ?_
   refine aWeak (weak_nil 5 1) ?_
   refine aReg ?_
   refine sp pM ?_
   refine sp pM ?_
   refine sp (pSlice rfl rfl es_288 (bdN rfl) (bdE (N := 0) (m := f.parts.toNat) rfl (by omega)) (by first | omega | (simp only [List.length_map]; omega)) (by first | omega | (simp only [List.length_map]; omega))) ?_
   rw [show (((f :: t).map pgC).drop 0).take (f.parts.toNat - 0) = L.map pgC by rw [← hL, List.drop_zero, Nat.sub_zero, List.map_take]]
   refine sp (by first | exact pLm sl_288 | exact pLs sl_288 | exact pLv sl_288) ?_
   refine sp pM ?_
   refine oNil ?_
   refine aBlock ?_
   refine loopF (α := Nat × BS × Option Nat × Nat) (kept := [(0, _), (5, _), (34, _), (35, _)]) (fun (i, out, g, c) => i ≤ L.length ∧ out = concB (L.take i) ∧ ∀ (j : Nat) (q : Pg), j < i → L[j]? = some q → followB f q j = true) (fun (i, out, g, c) => [(36, .int i), (6, .v (slV g out.length c))]) (fun (i, out, g, c) => [.sl g c 5 1 (out.map by1)]) (fun (i, out, g, c) => L.length - i) (0, [], _, _) ?_ ⟨gInt rfl (by first | rfl | omega | simp), gLen rfl (by first | rfl | simp | (simp; omega)), rfl, rfl, rfl, rfl, trivial⟩ (by repeat constructor) ?_
   ·skip
    exact ⟨by omega, rfl, fun j q hj => by omega⟩
   ·rintro ⟨i, out, g, c⟩ ⟨hi, ho, hfo⟩
    refine aSeq ?_
    refine aReg ?_
    refine sp pB ?_
    refine oNil ?_
    refine aSeq ?_
    refine aCondDec rfl (fun c37 => ?_) (fun c37 => ?_)
    ·skip
     refine aSkip ?_
     refine aSeq ?_
     refine aBlock ?_
     refine aSeq ?_
     obtain ⟨p, hp⟩ : ∃ z, L[i]? = some z := ⟨_, List.getElem?_eq_getElem (by omega)⟩
     have hpm : p ∈ f :: t := List.mem_of_mem_take (by rw [hL]; exact List.mem_of_getElem? hp)
     have hpb := hb p hpm
     have hpk := hk p hpm
     have hol : out.length ≤ 488 * i := by
       have := concB_len (l := L.take i) (fun q hq => hb q (List.mem_of_mem_take (by rw [hL]; exact List.mem_of_mem_take hq)))
       rw [← ho, List.length_take] at this
       omega
     refine aReg ?_
     refine sp pM ?_
     first | refine sp (pIx es_288) ?_ | (refine obtSN 34 36 rfl rfl (by omega) (fun x39 hx39 => ?_); refine sp (pIs es_288 hx39) ?_) | (refine obtS 34 36 rfl rfl (by omega) (by omega) (fun x39 hx39 => ?_); refine sp (pIs es_288 hx39) ?_) | refine sp (pIo es_288) ?_
     refine sr (by first | exact rSW ty_142 rfl | exact rSA ty_142 | exact rBWa ty_142 | exact rBW ty_142 | exact rBA ty_142 | exact rArA ty_142 (fun _ => rfl)) ?_
     refine sq ?_
     refine qAlloc rfl rfl (by decide) ze_142 rfl (fun b8 => ?_)
     refine sp pMa ?_
     refine sa ?_
     refine oStW rfl rfl rfl rfl (by repeat constructor) ty_142 ?_
     refine oNil ?_
     refine aSeq ?_
     refine aSeq ?_
     refine aDrawT rec_JoinC_r8_t rec_JoinC_r8_b [] 7 #[false, false, false, false, false, false, false] (by kernel_rfl) rfl rfl (fun HT => ?_)
     refine dp HT 0 rfl pM ?_
     first | refine dp HT 1 rfl (pIx es_288) ?_ | refine dp HT 1 rfl (pIo es_288) ?_
     refine dr HT 2 rfl (by first | exact rSW ty_142 rfl | exact rSA ty_142) ?_
     refine dr HT 3 rfl (by first | exact rBWa ty_142 | exact rBW ty_142 | exact rBA ty_142) ?_
     refine dp HT 4 rfl pM ?_
     refine dGo ?_
     refine e1 HT 5 rfl ?_
     refine ci rfl rfl rfl (rec_follows (f := f) (p := p) (i := i) (by omega) hpk (by omega)) ?_
     refine ef HT 6 rfl pNo ?_
     refine eE HT ?_
     clear HT
     refine aCondNot rfl (fun c47 => ?_) (fun c47 => ?_)
     ·skip
      refine aSeq ?_
      refine aReg ?_
      refine sp pMa ?_
      refine sp pMa ?_
      refine sp pMa ?_
      refine oNil ?_
      have hJ : joinR (f :: t) = none := joinR_bad (i := i) (p := p) (by rw [hL]; exact hp) (by simp_all)
      rw [joinV_none hJ]
      refine aWeak (weak_cast (k := 2) (b := .sl 1 []) rfl cast_nil) ?_
      refine aRet ?_
      exact finIs rfl rfl
     ·skip
      refine aSkip ?_
      refine aReg ?_
      refine sp pM ?_
      refine sp (pFb fd_142_6) ?_
      refine sr (rB1 ty_50) ?_
      refine sa ?_
      first | refine oAppT _ rfl rfl (by repeat constructor) (.inl rfl) el_50 sl_50 (fun g51 k51 => ?_) | refine oAppT _ rfl rfl (by repeat constructor) (srcOwn rfl (by repeat constructor) (by first | rfl | simp)) el_50 sl_50 (fun g51 k51 => ?_)
      refine sp pMa ?_
      refine oNil ?_
      refine aReg ?_
      refine sp pAd ?_
      refine sp pM ?_
      refine oNil ?_
      refine ⟨(i + 1, _, _, _), ?_, by (try dsimp only); omega, ⟨gInt rfl (by first | rfl | omega | simp), gLen rfl (by first | rfl | simp | (simp; omega)), rfl, rfl, rfl, rfl, trivial⟩, _, (by repeat constructor)⟩
      refine ⟨by omega, by rw [concB_step hp, ← ho], fun j q hj hq => ?_⟩
      by_cases hji : j = i
      ·subst hji
       rw [hp] at hq
       cases hq
       simp_all
      ·exact hfo j q (by omega) hq
    ·skip
     refine aExit rfl ?_
     refine aSeq ?_
     refine aSeq ?_
     obtain rfl : i = L.length := by omega
     rw [List.take_length] at ho
     have hJ := joinR_ok hmy hnl (fun j q hq => hfo j q (by rw [hL] at hq; exact (List.getElem?_eq_some_iff.1 hq).1) (by rw [← hL]; exact hq))
     rw [hL, ← ho] at hJ
     refine aReg ?_
     refine sp pM ?_
     refine sp (by first | exact pLm sl_50 | exact pLs sl_50 | exact pLv sl_50) ?_
     refine sq ?_
     refine ci rfl rfl rfl (rec_Parts (n := (out.length : Nat))) ?_
     refine sp pM ?_
     refine sp pB ?_
     refine oNil ?_
     refine aCondNe rfl (fun c57 => ?_) (fun c57 => ?_)
     ·skip
      refine aSeq ?_
      refine aReg ?_
      refine sp pMa ?_
      refine sp pMa ?_
      refine sp pMa ?_
      refine oNil ?_
      rw [if_neg (by first | (simp_all; done) | (simp_all; omega))] at hJ
      rw [joinV_none hJ]
      refine aWeak (weak_cast (k := 2) (b := .sl 1 []) rfl cast_nil) ?_
      refine aRet ?_
      exact finIs rfl rfl
     ·skip
      refine aSkip ?_
      refine aSeq ?_
      refine aReg ?_
      refine sp pM ?_
      refine sp pM ?_
      refine oWeak (weak_settle (k := 58) rfl (by repeat constructor) (by simp)) ?_
      refine sp pMa ?_
      refine sp pMa ?_
      refine sp pMa ?_
      refine oNil ?_
      rw [if_pos (by first | (simp_all; done) | (simp_all; omega))] at hJ
      rw [joinV_some hJ]
      refine aRet ?_
      exact finIs rfl (by show AV.tup [_, _, _] = AV.tup [_, _, _]; congr 2; congr 1; congr 1; omega)
theorem rec_Join {l : List Pg} (hl : l.length ≤ 1000000) (hb : ∀ p ∈ l, p.b.length ≤ 488) (hk : ∀ p ∈ l, BOk p.b) : Triple Tryz.prog 259 [.sl 7 (l.map pgC)] [] (Is (.tup (joinV l)) []) := by
 cases l with
 | nil => exact rec_Join0
 | cons f t => exact rec_JoinC hl hb hk
end A
end Go.Proofs.YthkgdhamnpiagaaGreat
namespace Go.Proofs.YthkgdhamnpiagaaGreat
namespace A
theorem eq_272 : eqType Tryz.prog 272 = some [(0, .i), (1, .i), (2, .i)] := by kernel_rfl
theorem fd_272_0 : fieldOf Tryz.prog 272 0 = some (0, 1, false) := by kernel_rfl
theorem fd_272_1 : fieldOf Tryz.prog 272 1 = some (1, 1, false) := by kernel_rfl
theorem fd_272_2 : fieldOf Tryz.prog 272 2 = some (2, 1, false) := by kernel_rfl
theorem st_272 : structPlaces Tryz.prog 272 = some [(0, 1), (1, 1), (2, 1)] := by kernel_rfl
theorem ty_272 : tyOf Tryz.prog 272 = some (3, true) := by kernel_rfl
theorem ze_272 : zeroOf Tryz.prog 272 = some (.agg #[.int .i64 0, .int .i64 0, .int .i64 0]) := by kernel_rfl
structure PltOk (p : Plt) (n : Nat) : Prop where
 eq : p = plotM n
 h1 : 6 ≤ n
 h2 : n ≤ 1024
theorem PltOk.f {p : Plt} {n : Nat} (h : PltOk p n) : p.slot = min ((n : Int) / 4) 16 ∧ p.fr = 2 * p.slot ∧ p.log = n - 2 * p.slot ∧ 1 ≤ p.slot ∧ p.slot ≤ 16 ∧ 2 ≤ p.log := by
 have h1 := h.h1
 have h2 := h.h2
 have hd : (n : Int).tdiv 4 = (n : Int) / 4 := Int.tdiv_eq_ediv_of_nonneg (by omega)
 have e1 : p.slot = min ((n : Int) / 4) 16 := by rw [h.eq, ← hd]; rfl
 have e2 : p.fr = 2 * p.slot := by rw [h.eq]; rfl
 have e3 : p.log = n - 2 * p.slot := by rw [h.eq]; rfl
 omega
theorem PltOk.e {p : Plt} {n : Nat} (h : PltOk p n) : plotE n = 0 := by
 have h1 := h.h1
 have h2 := h.h2
 unfold plotE
 rw [if_neg (by omega)]
def plt0 : Plt := ⟨0, 0, 0⟩
theorem tmod2 {g : Int} (h : 0 ≤ g) : g.tmod 2 = 0 ∨ g.tmod 2 = 1 := by
 rw [Int.tmod_eq_emod_of_nonneg h]
 omega
theorem slotFr_rng {p : Plt} {n : Nat} (h : PltOk p n) {g : Int} (hg : 0 ≤ g) : 0 ≤ slotFr p g ∧ slotFr p g ≤ p.slot := by
 have := h.f
 unfold slotFr
 rcases tmod2 hg with e | e <;> rw [e] <;> omega
/- plot.Make -/
set_option maxRecDepth 100000 in
set_option maxHeartbeats 400000 in
theorem plot_Make {n : Int} : Triple Tryz.prog 152 [.int n] [] (Is (.tup [.agg (pltC (if plotE n = 0 then plotM n else plt0)), .int (plotE n)]) []) := by
 refine triple_ofR Tryz.func152 rfl (by kernel_rfl) rfl (by simp) ?_
 refine aSeq ?_
 refine aReg ?_
 refine sq ?_
 refine qAlloc rfl rfl (by decide) ze_272 rfl (fun b2 => ?_)
 refine sp pMa ?_
 refine oNil ?_
 refine aSeq ?_
 refine aSeq ?_
 refine aReg ?_
 refine sp pM ?_
 refine sp pB ?_
 refine sp pM ?_
 refine oSplitDec 7 rfl (fun c7 => ?_) (fun c7 => ?_)
 ·skip
  refine gf ?_
  refine gf ?_
  refine sp pK ?_
  refine oNil ?_
  refine aCondT rfl ?_
  refine aSeq ?_
  refine aReg ?_
  refine sp (pBuild rfl st_272 ze_272 rfl rfl rfl rfl) ?_
  refine sa ?_
  refine oStW rfl rfl rfl rfl (by repeat constructor) ty_272 ?_
  refine sp pMa ?_
  refine oNil ?_
  have hE : plotE n = 1 := by unfold plotE; rw [if_pos (by first | (simp_all; done) | (simp_all; omega))]
  rw [hE]
  refine aRet ?_
  refine finRIs (l := [.agg (pltC plt0), .int 1]) (.cons (.cellA rfl (by repeat (first | exact List.mem_cons_self | apply List.mem_cons_of_mem)) ty_272) (.cons (.tmp rfl) .nil)) rfl
 ·skip
  refine gp pM ?_
  refine gp pB ?_
  refine sp pK ?_
  refine oNil ?_
  refine aCondDec rfl (fun c10 => ?_) (fun c10 => ?_)
  ·skip
   refine aSeq ?_
   refine aReg ?_
   refine sp (pBuild rfl st_272 ze_272 rfl rfl rfl rfl) ?_
   refine sa ?_
   refine oStW rfl rfl rfl rfl (by repeat constructor) ty_272 ?_
   refine sp pMa ?_
   refine oNil ?_
   have hE : plotE n = 1 := by unfold plotE; rw [if_pos (by first | (simp_all; done) | (simp_all; omega))]
   rw [hE]
   refine aRet ?_
   refine finRIs (l := [.agg (pltC plt0), .int 1]) (.cons (.cellA rfl (by repeat (first | exact List.mem_cons_self | apply List.mem_cons_of_mem)) ty_272) (.cons (.tmp rfl) .nil)) rfl
  ·skip
   refine aSkip ?_
   refine aSeq ?_
   have hq1 : 0 ≤ n.tdiv 4 ∧ n.tdiv 4 ≤ 256 := by rw [Int.tdiv_eq_ediv_of_nonneg (by first | omega | (simp_all; omega))]; first | omega | (simp_all; omega)
   refine aReg ?_
   refine sp pM ?_
   refine sp (pQuoI rfl rfl rfl (by omega) (by omega) (by omega)) ?_
   refine sp pMin ?_
   refine sp pMa ?_
   refine oNil ?_
   refine aSeq ?_
   refine aReg ?_
   refine sp pM ?_
   refine sp pM ?_
   refine sp pMu ?_
   refine sp pM ?_
   refine sp pM ?_
   refine sp pMu ?_
   refine sp pSu ?_
   refine sp (pBuild rfl st_272 ze_272 rfl rfl rfl rfl) ?_
   refine sa ?_
   refine oStW rfl rfl rfl rfl (by repeat constructor) ty_272 ?_
   refine sp pMa ?_
   refine oNil ?_
   have hE : plotE n = 0 := by unfold plotE; rw [if_neg (by first | (simp_all; done) | (simp_all; omega))]
   rw [hE, if_pos rfl]
   refine aRet ?_
   refine finRIs (l := [.agg (pltC (plotM n)), .int 0]) (.cons (.cellA rfl (by repeat (first | exact List.mem_cons_self | apply List.mem_cons_of_mem)) ty_272) (.cons (.tmp rfl) .nil)) rfl
/- plot.may -/
set_option maxRecDepth 100000 in
set_option maxHeartbeats 400000 in
theorem plot_may {p : Plt} {n : Nat} (h : PltOk p n) : Triple Tryz.prog 271 [.agg (pltC p)] [] (Is (.v (.bool true)) []) := by
 have hf := h.f
 have h1 := h.h1
 have h2 := h.h2
 refine triple_of Tryz.func271 rfl (by kernel_rfl) rfl (by simp) ?_
 refine aSeq ?_
 refine aReg ?_
 refine sq ?_
 refine qBox rfl rfl (by decide) rfl rfl (fun b1 => ?_)
 refine sp pMa ?_
 refine oNil ?_
 refine aSeq ?_
 refine aSeq ?_
 refine aReg ?_
 refine sp (pFb fd_272_2) ?_
 refine sr (rB1 ty_3) ?_
 refine sp (pBl (by exact pB) (show _ = false from decide_eq_false (by omega))) ?_
 refine sp pM ?_
 refine gp (pFb fd_272_2) ?_
 refine gr (rB1 ty_3) ?_
 refine gp (pBl (by exact pB) (show _ = false from decide_eq_false (by omega))) ?_
 refine sp pK ?_
 refine sp pM ?_
 refine gp (pFb fd_272_1) ?_
 refine gr (rB1 ty_3) ?_
 refine gp (pBl (by exact pB) (show _ = false from decide_eq_false (by omega))) ?_
 refine sp pK ?_
 refine sp pM ?_
 refine gp (pFb fd_272_1) ?_
 refine gr (rB1 ty_3) ?_
 refine gp (pBl (by exact pB) (show _ = false from decide_eq_false (by omega))) ?_
 refine sp pK ?_
 refine oNil ?_
 refine aCondF rfl ?_
 refine aSkip ?_
 refine aSeq ?_
 refine aReg ?_
 refine sp (pFb fd_272_1) ?_
 refine sr (rB1 ty_3) ?_
 refine sp (pFb fd_272_2) ?_
 refine sr (rB1 ty_3) ?_
 refine sp pAd ?_
 rw [show p.fr + p.log = ((n : Nat) : Int) by omega]
 refine sq ?_
 refine ci rfl rfl rfl (plot_Make (n := n)) ?_
 rw [h.e, if_pos rfl, ← h.eq]
 refine sp pM ?_
 refine sp pX ?_
 refine sp pX ?_
 refine sq ?_
 refine qAlloc rfl rfl (by decide) ze_272 rfl (fun b3 => ?_)
 refine sa ?_
 refine oStW rfl rfl rfl rfl (by repeat constructor) ty_272 ?_
 refine sp pMa ?_
 refine oNil ?_
 refine aSeq ?_
 refine aReg ?_
 refine sp pM ?_
 refine sp pB ?_
 refine sp pM ?_
 refine gr (by first | exact rBWa ty_272 | exact rBW ty_272 | exact rBA ty_272) ?_
 refine gr (by first | exact rBWa ty_272 | exact rBW ty_272 | exact rBA ty_272) ?_
 refine gp (pBl (by exact pEqAe eq_272) (show _ = true from by simp)) ?_
 refine sp pK ?_
 refine sp pMa ?_
 refine oNil ?_
 refine aRet ?_
 refine finIs rfl ?_
 rfl
/- plot.Slot -/
def plot_Slot_r4_T : Bool × List (List Nat × List Nat) := (true, [([], []), ([], []), ([], []), ([2], [2]), ([1, 3], [1, 3]), ([0, 0, 1], [0, 1]), ([4, 5, 0, 1, 2, 3, 4, 5], [4])])
def plot_Slot_r4_B : List Nat := [0, 0, 0, 4, 14, 3, 63]
theorem plot_Slot_r4_t : Go.Proofs.YthkgdhamnpiagaaGreatW.PrintLast.rtab .any (Go.Proofs.YthkgdhamnpiagaaGreatW.PrintLast.opsOf Tryz.f252 4) = plot_Slot_r4_T := by kernel_rfl
theorem plot_Slot_r4_b : Go.Proofs.YthkgdhamnpiagaaGreatW.PrintLast.waitsOk plot_Slot_r4_T.2 plot_Slot_r4_B = true := by kernel_rfl
set_option maxRecDepth 100000 in
set_option maxHeartbeats 400000 in
theorem plot_Slot {p : Plt} {n : Nat} {gen : Int} (h : PltOk p n) (hg : 0 ≤ gen) : Triple Tryz.prog 252 [.agg (pltC p), .int gen] [] (Is (.tup [.int (slotFr p gen), .int (slotFr p gen + p.slot)]) []) := by
 have hf := h.f
 have hsf := slotFr_rng h hg
 have hm := tmod2 hg
 refine triple_of Tryz.func252 rfl (by kernel_rfl) rfl (by simp) ?_
 refine aSeq ?_
 refine aReg ?_
 refine sq ?_
 refine qBox rfl rfl (by decide) rfl rfl (fun b2 => ?_)
 refine sp pMa ?_
 refine sp pMa ?_
 refine oNil ?_
 refine aSeq ?_
 refine aSeq ?_
 refine aReg ?_
 refine sr (by first | exact rBWa ty_272 | exact rBW ty_272 | exact rBA ty_272) ?_
 refine sq ?_
 refine cv rfl rfl rfl (lents_refl _) (plot_may h) ?_
 refine sp pNo ?_
 refine sp pM ?_
 refine gp pM ?_
 refine gp (pBl (by exact pB) (show _ = false from decide_eq_false (by omega))) ?_
 refine sp pK ?_
 refine oNil ?_
 refine aCondF rfl ?_
 refine aSkip ?_
 refine aSeq ?_
 refine aReg ?_
 refine sp pM ?_
 refine sp (pRem rfl rfl rfl (by first | decide | omega)) ?_
 refine sp (pFb fd_272_0) ?_
 refine sr (rB1 ty_3) ?_
 refine sp (pMul rfl rfl rfl (by rcases hm with e | e <;> rw [e] <;> omega) (by rcases hm with e | e <;> rw [e] <;> omega)) ?_
 rw [show gen.tmod 2 * p.slot = slotFr p gen from rfl]
 refine sp pMa ?_
 refine oNil ?_
 refine aSeq ?_
 refine aDrawT plot_Slot_r4_t plot_Slot_r4_b [] 7 #[false, false, false, false, false, false, false] (by kernel_rfl) rfl rfl (fun HT => ?_)
 refine dp HT 0 rfl pM ?_
 refine dp HT 1 rfl pM ?_
 refine dp HT 2 rfl (pFb fd_272_0) ?_
 refine dr HT 3 rfl (rB1 ty_3) ?_
 refine dp HT 4 rfl pAd ?_
 refine dp HT 5 rfl pMa ?_
 refine dp HT 6 rfl pMa ?_
 refine dE HT ?_
 clear HT
 refine aRet ?_
 refine finIs rfl ?_
 rfl
/- plot.At -/
set_option maxRecDepth 100000 in
set_option maxHeartbeats 400000 in
theorem plot_At {p : Plt} {n : Nat} {i : Int} (h : PltOk p n) (h0 : 0 ≤ i) (h1 : i < p.log) : Triple Tryz.prog 179 [.agg (pltC p), .int i] [] (Is (.int (p.fr + i)) []) := by
 have hf := h.f
 have hn := h.h2
 refine triple_of Tryz.func179 rfl (by kernel_rfl) rfl (by simp) ?_
 refine aSeq ?_
 refine aReg ?_
 refine sq ?_
 refine qBox rfl rfl (by decide) rfl rfl (fun b2 => ?_)
 refine sp pMa ?_
 refine oNil ?_
 refine aSeq ?_
 refine aSeq ?_
 refine aReg ?_
 refine sr (by first | exact rBWa ty_272 | exact rBW ty_272 | exact rBA ty_272) ?_
 refine sq ?_
 refine cv rfl rfl rfl (lents_refl _) (plot_may h) ?_
 refine sp pNo ?_
 refine sp pM ?_
 refine gp pM ?_
 refine gp (pBl (by exact pB) (show _ = false from decide_eq_false (by omega))) ?_
 refine sp pK ?_
 refine sp pM ?_
 refine gp pM ?_
 refine gp (pFb fd_272_2) ?_
 refine gr (rB1 ty_3) ?_
 refine gp (pBl (by exact pB) (show _ = false from decide_eq_false (by omega))) ?_
 refine sp pK ?_
 refine oNil ?_
 refine aCondF rfl ?_
 refine aSkip ?_
 refine aSeq ?_
 refine aReg ?_
 refine sp (pFb fd_272_1) ?_
 refine sr (rB1 ty_3) ?_
 refine sp pM ?_
 refine sp pAd ?_
 refine sp pMa ?_
 refine oNil ?_
 refine aRet ?_
 refine finIs rfl ?_
 rfl
theorem getPg_bok {s : BS} {p : Pg} (hk : BOk s) (h : getPg s = some p) : BOk p.b := by
 unfold getPg at h
 split at h
 ·cases h
 ·rename_i b hb
  have hio := openB_ok hk
  rw [hb] at hio
  split at h
  ·cases h
  ·simp only at h
   split at h
   ·cases h
   ·cases h
    have k0 : BOk (gS0 b).b := fun x hx => hio.1 x (List.mem_of_mem_drop hx)
    exact (RS.text_ok (RS.num_ok 1 (RS.num_ok 1 (RS.num_ok 4 (RS.num_ok 4 (RS.num_ok 4 (RS.num_ok 1 k0))))))).2
theorem pagesL_all : ∀ {l : List BS} {p : Pg}, (∀ s ∈ l, BOk s) → p ∈ pagesL l → PgOk p ∧ BOk p.b
 | [], p, _, h => by simp [pagesL] at h
 | s :: t, p, hk, h => by
   unfold pagesL at h
   split at h
   ·simp at h
   ·rename_i q hq
    rcases List.mem_cons.1 h with rfl | h
    ·exact ⟨(getPg_some hq).1, getPg_bok (hk s (by simp)) hq⟩
    ·exact pagesL_all (fun x hx => hk x (by simp [hx])) h
theorem pagesL_len : ∀ (l : List BS), (pagesL l).length ≤ l.length
 | [] => Nat.le_refl _
 | s :: t => by
   unfold pagesL
   split
   ·simp
   ·have := pagesL_len t; simp; omega
theorem pagesL_step {l : List BS} {i : Nat} {s : BS} (h : l[i]? = some s) : pagesL (l.drop i) = match getPg s with | none => [] | some p => p :: pagesL (l.drop (i + 1)) := by rw [drop_step h]; rfl
def bs0 : Bs := ⟨0, []⟩
theorem cast_bs0 : Cast (.agg [.int 0, .v (.slice none 0 0)]) (.agg (bsC bs0)) := cast_ag (.cons .refl (.cons cast_nil .nil))
theorem joinV_eq (l : List Pg) : joinV l = [bsA ((joinR l).getD ([], 0)).1, .int (((joinR l).getD ([], 0)).2 : Nat), .v (.bool (joinR l).isSome)] := by
 unfold joinV
 cases joinR l <;> rfl
theorem markL_step {l : List BS} {i : Nat} {s : BS} (h : l[i]? = some s) : markL (l.take (i + 1)) = match getPg s with | none => markL (l.take i) | some p => max (markL (l.take i)) p.mark := by
 unfold markL
 rw [take_step h, List.foldl_append]
 rfl
theorem markL_rng : ∀ (l : List BS), 0 ≤ markL l ∧ markL l ≤ 2147483648 := by
 have key : ∀ (l : List BS) (m : Int), 0 ≤ m → m ≤ 2147483648 → 0 ≤ l.foldl (fun m s => match getPg s with | none => m | some p => max m p.mark) m ∧ l.foldl (fun m s => match getPg s with | none => m | some p => max m p.mark) m ≤ 2147483648 := fun l => by
   induction l with
   | nil => exact fun m h1 h2 => ⟨h1, h2⟩
   | cons s t ih =>
     intro m h1 h2
     rw [List.foldl_cons]
     split
     ·exact ih m h1 h2
     ·rename_i p hp
      have := (getPg_some hp).1.mark
      exact ih _ (Int.le_trans h1 (Int.le_max_left _ _)) (Int.max_le.2 ⟨h2, this.2⟩)
 exact fun l => key l 0 (by decide) (by decide)
/- slot.pages -/
set_option maxRecDepth 100000 in
set_option maxHeartbeats 400000 in
theorem slot_pagesO {l : List BS} (hl : l.length ≤ 1000000) (hb : ∀ s ∈ l, s.length ≤ 900000) (hk : ∀ s ∈ l, BOk s) : Triple Tryz.prog 316 [.sl 1 (l.map rowC)] [] (Own 142 7 ((pagesL l).map pgC) []) := by
 refine triple_of Tryz.func316 rfl (by kernel_rfl) rfl (by simp) ?_
 refine aSeq ?_
 refine aReg ?_
 refine sp pMa ?_
 refine oNil ?_
 refine aSeq ?_
 refine aReg ?_
 refine sp pMa ?_
 refine oNil ?_
 refine aSeq ?_
 refine aSeq ?_
 refine aWeak (weak_nil 142 7) ?_
 refine aReg ?_
 refine sp pM ?_
 refine sp (by first | exact pLm sl_177 | exact pLs sl_177) ?_
 refine sp pM ?_
 refine oNil ?_
 refine aBlock ?_
 refine loopF (α := Nat × List Pg × Option Nat × Nat) (kept := [(8, _), (9, _)]) (fun (i, out, g, c) => i ≤ l.length ∧ pagesL l = out ++ pagesL (l.drop i)) (fun (i, out, g, c) => [(10, .int i), (3, .v (slV g out.length c))]) (fun (i, out, g, c) => [.sl g c 142 7 (out.map pgC)]) (fun (i, out, g, c) => l.length - i) (0, [], _, _) ?_ ⟨gInt rfl (by first | rfl | omega | simp), gLen rfl (by first | rfl | simp | (simp; omega)), rfl, rfl, trivial⟩ (by repeat constructor) ?_
 ·skip
  exact ⟨by omega, by simp⟩
 ·rintro ⟨i, out, g, c⟩ ⟨hi, ho⟩
  refine aSeq ?_
  refine aReg ?_
  refine sp pB ?_
  refine oNil ?_
  refine aSeq ?_
  refine aCondDec rfl (fun c11 => ?_) (fun c11 => ?_)
  ·skip
   refine aSkip ?_
   refine aSeq ?_
   refine aBlock ?_
   refine aSeq ?_
   obtain ⟨s, hs⟩ : ∃ z, l[i]? = some z := ⟨_, List.getElem?_eq_getElem (by omega)⟩
   have hsm := List.mem_of_getElem? hs
   have hst := pagesL_step hs
   have hpl := pagesL_len l
   have hol : out.length ≤ l.length := by rw [ho, List.length_append] at hpl; omega
   refine aReg ?_
   first | refine sp (pIx es_177) ?_ | (refine obtSN 8 10 rfl rfl (by omega) (fun x12 hx12 => ?_); refine sp (pIs es_177 hx12) ?_) | (refine obtS 8 10 rfl rfl (by omega) (by omega) (fun x12 hx12 => ?_); refine sp (pIs es_177 hx12) ?_) | refine sp (pIo es_177) ?_
   refine sr (rS1 ty_50) ?_
   refine sp pMa ?_
   refine oNil ?_
   refine aSeq ?_
   refine aReg ?_
   refine sp pM ?_
   refine sq ?_
   refine ci rfl rfl rfl (pg_Get (s := s) (hb s hsm) (hk s hsm)) ?_
   refine sp pM ?_
   refine sp pX ?_
   refine sp pX ?_
   refine sq ?_
   refine qAlloc rfl rfl (by decide) ze_142 rfl (fun b6 => ?_)
   refine sa ?_
   refine oStW rfl rfl rfl rfl (by repeat constructor) ty_142 ?_
   refine sp pMa ?_
   refine oNil ?_
   refine aSeq ?_
   refine aSeq ?_
   refine aReg ?_
   refine sp pM ?_
   refine sp pB ?_
   refine oNil ?_
   refine aCondNe rfl (fun c20 => ?_) (fun c20 => ?_)
   ·skip
    refine aExit rfl ?_
    refine aSeq ?_
    refine aReg ?_
    refine sp pM ?_
    refine sp pMa ?_
    refine oNil ?_
    refine aRet ?_
    refine finOwn rfl ?_
    rcases Nat.lt_or_ge i l.length with hlt | hge
    ·first
       | (exfalso; omega)
       | (have hg : getPg s = none := by
            cases hg : getPg s with
            | none => rfl
            | some p => simp_all
          rw [hg] at hst
          rw [ho, hst, List.append_nil]
          done)
    ·obtain rfl : i = l.length := by omega
     rw [ho, List.drop_length]
     simp [pagesL]
   ·skip
    refine aSkip ?_
    refine aReg ?_
    refine sp pM ?_
    refine sr (by first | exact rBWa ty_142 | exact rBW ty_142 | exact rBA ty_142) ?_
    refine sq ?_
    refine qLit (l := [_]) rfl rfl (by decide) us_288 ty_142 ze_142 rfl (by decide) (by decide) rfl rfl rfl (fun b23 => ?_)
    refine sa ?_
    refine oAppT ([(getPg s).getD pg0] : List Pg) rfl rfl (by repeat constructor) (srcOwn rfl (by repeat constructor) rfl) el_288 sl_288 (fun g24 k24 => ?_)
    refine sp pMa ?_
    refine oNil ?_
    refine aReg ?_
    refine sp pAd ?_
    refine sp pM ?_
    refine oNil ?_
    refine ⟨(i + 1, _, _, _), ?_, by (try dsimp only); omega, ⟨gInt rfl (by first | rfl | omega | simp), gLen rfl (by first | rfl | simp | (simp; omega)), rfl, rfl, trivial⟩, _, (by repeat constructor)⟩
    refine ⟨by omega, ?_⟩
    cases hg : getPg s with
    | none => simp_all
    | some p =>
      rw [hg] at hst
      rw [ho, hst, List.append_assoc]
      rfl
  ·skip
   refine aExit rfl ?_
   refine aSeq ?_
   refine aReg ?_
   refine sp pM ?_
   refine sp pMa ?_
   refine oNil ?_
   refine aRet ?_
   refine finOwn rfl ?_
   rcases Nat.lt_or_ge i l.length with hlt | hge
   ·first
      | (exfalso; omega)
      | (have hg : getPg s = none := by
           cases hg : getPg s with
           | none => rfl
           | some p => simp_all
         rw [hg] at hst
         rw [ho, hst, List.append_nil]
         done)
   ·obtain rfl : i = l.length := by omega
    rw [ho, List.drop_length]
    simp [pagesL]
theorem slot_pages {l : List BS} (hl : l.length ≤ 1000000) (hb : ∀ s ∈ l, s.length ≤ 900000) (hk : ∀ s ∈ l, BOk s) : Triple Tryz.prog 316 [.sl 1 (l.map rowC)] [] (Is (.sl 7 ((pagesL l).map pgC)) []) := (slot_pagesO hl hb hk).settle
end A
end Go.Proofs.YthkgdhamnpiagaaGreat
namespace Go.Proofs.YthkgdhamnpiagaaGreat
namespace A
theorem el_177 : elemOf Tryz.prog 177 = some (50, 1, 24) := by kernel_rfl
theorem fd_281_0 : fieldOf Tryz.prog 281 0 = some (0, 1, false) := by kernel_rfl
theorem fd_281_1 : fieldOf Tryz.prog 281 1 = some (1, 1, false) := by kernel_rfl
theorem st_281 : structPlaces Tryz.prog 281 = some [(0, 1), (1, 1)] := by kernel_rfl
theorem ty_281 : tyOf Tryz.prog 281 = some (2, true) := by kernel_rfl
theorem ze_281 : zeroOf Tryz.prog 281 = some (.agg #[.int .i64 0, .slice none 0 0]) := by kernel_rfl
theorem loadL_none {l : List BS} (h : joinR (pagesL l) = none) : loadL l = none := by
 unfold loadL
 cases hp : pagesL l with
 | nil => rfl
 | cons f t => simp only; rw [← hp, h]
theorem loadL_some {l : List BS} {q : BS × Nat} {f : Pg} (h : joinR (pagesL l) = some q) (hf : (pagesL l)[(0 : Int).toNat]? = some f) : loadL l = if f.kind ≠ 1 ∨ f.index ≠ 0 then none else some ⟨f.gen, q.1⟩ := by
 unfold loadL
 cases hp : pagesL l with
 | nil => rw [hp] at hf; simp at hf
 | cons g t =>
   rw [hp] at hf
   simp at hf
   subst hf
   simp only
   rw [← hp, h]
theorem joinR_head {l : List Pg} (h : (joinR l).isSome = true) : ∃ f, l[(0 : Int).toNat]? = some f := by
 cases l with
 | nil => cases h
 | cons f t => exact ⟨f, rfl⟩
/- slot.Load -/
set_option maxRecDepth 100000 in
set_option maxHeartbeats 2000000 in
theorem slot_Load {l : List BS} (hl : l.length ≤ 1000000) (hb : ∀ s ∈ l, s.length ≤ 900000) (hk : ∀ s ∈ l, BOk s) : Triple Tryz.prog 251 [.sl 1 (l.map rowC)] [] (Is (.tup [.agg (bsC ((loadL l).getD bs0)), .v (.bool (loadL l).isSome)]) []) := by
 have hpl := pagesL_len l
 have hpa := fun p hp => pagesL_all (l := l) (p := p) hk hp
 refine triple_ofR Tryz.func251 rfl (by kernel_rfl) rfl (by simp) ?_
 refine aSeq ?_
 refine aReg ?_
 refine sq ?_
 refine qAlloc rfl rfl (by decide) ze_281 rfl (fun b2 => ?_)
 refine sp pMa ?_
 refine oNil ?_
 refine aSeq ?_
 refine aReg ?_
 refine sp pM ?_
 refine sq ?_
 refine ci rfl rfl rfl (slot_pages hl hb hk) ?_
 refine sp pMa ?_
 refine oNil ?_
 refine aSeq ?_
 refine aReg ?_
 refine sp pM ?_
 refine sq ?_
 refine ci rfl rfl rfl (rec_Join (l := pagesL l) (by omega) (fun p hp => (hpa p hp).1.len) (fun p hp => (hpa p hp).2)) ?_
 rw [joinV_eq]
 refine sp pM ?_
 refine sp pX ?_
 refine sp pX ?_
 refine sp pX ?_
 refine sp pMa ?_
 refine sp pMa ?_
 refine sp pMa ?_
 refine oNil ?_
 refine aSeq ?_
 refine aSeq ?_
 refine aReg ?_
 refine sp pM ?_
 refine sp pNo ?_
 refine sp pM ?_
 refine oSplitNot 18 rfl (fun c18 => ?_) (fun c18 => ?_)
 ·skip
  refine gf ?_
  refine gf ?_
  refine gf ?_
  refine gf ?_
  refine gf ?_
  refine sp pK ?_
  refine sp pM ?_
  refine gf ?_
  refine gf ?_
  refine gf ?_
  refine gf ?_
  refine gf ?_
  refine sp pK ?_
  refine oNil ?_
  refine aCondT rfl ?_
  refine aSeq ?_
  refine aReg ?_
  refine sp (pBuild rfl st_281 ze_281 rfl rfl rfl rfl) ?_
  refine sa ?_
  refine oStW rfl rfl rfl rfl (by repeat constructor) ty_281 ?_
  refine sp pMa ?_
  refine oNil ?_
  have hN : loadL l = none := by
    cases hj : joinR (pagesL l) with
    | none => exact loadL_none hj
    | some q =>
      obtain ⟨f2, hf2⟩ := joinR_head (l := pagesL l) (by rw [hj]; rfl)
      rw [loadL_some hj hf2, if_pos (by simp_all)]
  rw [hN]
  refine aRet ?_
  refine finRIs (l := [.agg (bsC bs0), .v (.bool false)]) (.cons (.cast (a := .agg [.int 0, .v (.slice none 0 0)]) (.cellA rfl (by repeat (first | exact List.mem_cons_self | apply List.mem_cons_of_mem)) ty_281) cast_bs0) (.cons (.tmp rfl) .nil)) rfl
 ·skip
  refine gp pM ?_
  obtain ⟨f, hf⟩ := joinR_head (l := pagesL l) (by simp_all)
  first | refine gp (pIx es_288) ?_ | refine gp (pIo es_288) ?_
  refine gp (by first | exact pFb fd_142_0 | exact pFs fd_142_0) ?_
  refine gr (by first | exact rS1 ty_3 | exact rB1 ty_3 | exact rAr ty_3 | exact rArL ty_3 | exact rArR2 ty_3) ?_
  refine gp pB ?_
  refine sp pK ?_
  refine sp pM ?_
  refine oSplitNe 25 rfl (fun c25 => ?_) (fun c25 => ?_)
  ·skip
   refine gf ?_
   refine gf ?_
   refine gf ?_
   refine gf ?_
   refine gf ?_
   refine sp pK ?_
   refine oNil ?_
   refine aCondT rfl ?_
   refine aSeq ?_
   refine aReg ?_
   refine sp (pBuild rfl st_281 ze_281 rfl rfl rfl rfl) ?_
   refine sa ?_
   refine oStW rfl rfl rfl rfl (by repeat constructor) ty_281 ?_
   refine sp pMa ?_
   refine oNil ?_
   have hN : loadL l = none := by
     cases hj : joinR (pagesL l) with
     | none => exact loadL_none hj
     | some q =>
       obtain ⟨f2, hf2⟩ := joinR_head (l := pagesL l) (by rw [hj]; rfl)
       rw [loadL_some hj hf2, if_pos (by simp_all)]
   rw [hN]
   refine aRet ?_
   refine finRIs (l := [.agg (bsC bs0), .v (.bool false)]) (.cons (.cast (a := .agg [.int 0, .v (.slice none 0 0)]) (.cellA rfl (by repeat (first | exact List.mem_cons_self | apply List.mem_cons_of_mem)) ty_281) cast_bs0) (.cons (.tmp rfl) .nil)) rfl
  ·skip
   refine gp pM ?_
   first | refine gp (pIx es_288) ?_ | refine gp (pIo es_288) ?_
   refine gp (by first | exact pFb fd_142_3 | exact pFs fd_142_3) ?_
   refine gr (by first | exact rS1 ty_3 | exact rB1 ty_3 | exact rAr ty_3 | exact rArL ty_3 | exact rArR2 ty_3) ?_
   refine gp pB ?_
   refine sp pK ?_
   refine oNil ?_
   refine aCondNe rfl (fun c31 => ?_) (fun c31 => ?_)
   ·skip
    refine aSeq ?_
    refine aReg ?_
    refine sp (pBuild rfl st_281 ze_281 rfl rfl rfl rfl) ?_
    refine sa ?_
    refine oStW rfl rfl rfl rfl (by repeat constructor) ty_281 ?_
    refine sp pMa ?_
    refine oNil ?_
    have hN : loadL l = none := by
      cases hj : joinR (pagesL l) with
      | none => exact loadL_none hj
      | some q =>
        obtain ⟨f2, hf2⟩ := joinR_head (l := pagesL l) (by rw [hj]; rfl)
        rw [loadL_some hj hf2, if_pos (by simp_all)]
    rw [hN]
    refine aRet ?_
    refine finRIs (l := [.agg (bsC bs0), .v (.bool false)]) (.cons (.cast (a := .agg [.int 0, .v (.slice none 0 0)]) (.cellA rfl (by repeat (first | exact List.mem_cons_self | apply List.mem_cons_of_mem)) ty_281) cast_bs0) (.cons (.tmp rfl) .nil)) rfl
   ·skip
    refine aSkip ?_
    refine aSeq ?_
    refine aReg ?_
    refine sp pM ?_
    first | refine sp (pIx es_288) ?_ | refine sp (pIo es_288) ?_
    refine sp (by first | exact pFb fd_142_1 | exact pFs fd_142_1) ?_
    refine sr (by first | exact rS1 ty_3 | exact rB1 ty_3 | exact rAr ty_3 | exact rArL ty_3 | exact rArR2 ty_3) ?_
    refine sp pM ?_
    refine sp (pBuild rfl st_281 ze_281 rfl rfl rfl rfl) ?_
    refine sa ?_
    refine oStW rfl rfl rfl rfl (by repeat constructor) ty_281 ?_
    refine sp pMa ?_
    refine oNil ?_
    obtain ⟨q, hj⟩ : ∃ q, joinR (pagesL l) = some q := Option.isSome_iff_exists.1 (by simp_all)
    have hN : loadL l = some ⟨f.gen, q.1⟩ := by rw [loadL_some hj hf, if_neg (by simp_all)]
    rw [hN, hj]
    refine aRet ?_
    refine finRIs (l := [.agg (bsC ⟨f.gen, q.1⟩), .v (.bool true)]) (.cons (.cellA rfl (by repeat (first | exact List.mem_cons_self | apply List.mem_cons_of_mem)) ty_281) (.cons (.tmp rfl) .nil)) rfl
/- slot.Better -/
set_option maxRecDepth 100000 in
set_option maxHeartbeats 2000000 in
theorem slot_Better {l l2 : List BS} (hl : l.length ≤ 1000000) (hb : ∀ s ∈ l, s.length ≤ 900000) (hk : ∀ s ∈ l, BOk s) (hl2 : l2.length ≤ 1000000) (hb2 : ∀ s ∈ l2, s.length ≤ 900000) (hk2 : ∀ s ∈ l2, BOk s) : Triple Tryz.prog 156 [.sl 1 (l.map rowC), .sl 1 (l2.map rowC)] [] (Is (.tup [.agg (bsC ((betterL l l2).getD bs0)), .v (.bool (betterL l l2).isSome)]) []) := by
 refine triple_ofR Tryz.func156 rfl (by kernel_rfl) rfl (by simp) ?_
 refine aSeq ?_
 refine aReg ?_
 refine sq ?_
 refine qAlloc rfl rfl (by decide) ze_281 rfl (fun b4 => ?_)
 refine sp pMa ?_
 refine oNil ?_
 refine aSeq ?_
 refine aReg ?_
 refine sp pM ?_
 refine sq ?_
 refine ci rfl rfl rfl (slot_Load hl hb hk) ?_
 refine sp pM ?_
 refine sp pX ?_
 refine sp pX ?_
 refine sq ?_
 refine qAlloc rfl rfl (by decide) ze_281 rfl (fun b6 => ?_)
 refine sa ?_
 refine oStW rfl rfl rfl rfl (by repeat constructor) ty_281 ?_
 refine sp pMa ?_
 refine oNil ?_
 refine aSeq ?_
 refine aReg ?_
 refine sp pM ?_
 refine sq ?_
 refine ci rfl rfl rfl (slot_Load hl2 hb2 hk2) ?_
 refine sp pM ?_
 refine sp pX ?_
 refine sp pX ?_
 refine sq ?_
 refine qAlloc rfl rfl (by decide) ze_281 rfl (fun b8 => ?_)
 refine sa ?_
 refine oStW rfl rfl rfl rfl (by repeat constructor) ty_281 ?_
 refine sp pMa ?_
 refine oNil ?_
 refine aSeq ?_
 refine aSeq ?_
 refine aReg ?_
 refine sp pM ?_
 refine sp pM ?_
 refine oSplit 21 rfl (fun c21 => ?_) (fun c21 => ?_)
 ·skip
  refine gp pM ?_
  refine gp pNo ?_
  refine gp pM ?_
  refine oSplitNot 24 rfl (fun c24 => ?_) (fun c24 => ?_)
  ·skip
   refine gf ?_
   refine gf ?_
   refine gf ?_
   refine gf ?_
   refine gf ?_
   refine gp pK ?_
   refine sp pK ?_
   refine oNil ?_
   refine aCondT rfl ?_
   refine aSeq ?_
   refine aReg ?_
   refine sr (by first | exact rBWa ty_281 | exact rBW ty_281 | exact rBA ty_281) ?_
   refine sa ?_
   refine oStW rfl rfl rfl rfl (by repeat constructor) ty_281 ?_
   refine sp pMa ?_
   refine oNil ?_
   obtain ⟨y, hy⟩ : ∃ y, loadL l2 = some y := Option.isSome_iff_exists.1 (by simp_all)
   have hB : betterL l l2 = some y := by
     unfold betterL
     cases hx : loadL l with
     | none => rw [hy]
     | some x => rw [hy]; simp only; rw [if_pos (by simp_all [bsC])]
   rw [hB, hy]
   refine aRet ?_
   refine finRIs (l := [.agg (bsC y), .v (.bool true)]) (.cons (.cellA rfl (by repeat (first | exact List.mem_cons_self | apply List.mem_cons_of_mem)) ty_281) (.cons (.tmp rfl) .nil)) rfl
  ·skip
   refine gp (pFb fd_281_0) ?_
   refine gr (rB1 ty_3) ?_
   refine gp (pFb fd_281_0) ?_
   refine gr (rB1 ty_3) ?_
   refine gp pB ?_
   refine gp pK ?_
   refine sp pK ?_
   refine oNil ?_
   refine aCondDec rfl (fun c31 => ?_) (fun c31 => ?_)
   ·skip
    refine aSeq ?_
    refine aReg ?_
    refine sr (by first | exact rBWa ty_281 | exact rBW ty_281 | exact rBA ty_281) ?_
    refine sa ?_
    refine oStW rfl rfl rfl rfl (by repeat constructor) ty_281 ?_
    refine sp pMa ?_
    refine oNil ?_
    obtain ⟨y, hy⟩ : ∃ y, loadL l2 = some y := Option.isSome_iff_exists.1 (by simp_all)
    have hB : betterL l l2 = some y := by
      unfold betterL
      cases hx : loadL l with
      | none => rw [hy]
      | some x => rw [hy]; simp only; rw [if_pos (by simp_all [bsC])]
    rw [hB, hy]
    refine aRet ?_
    refine finRIs (l := [.agg (bsC y), .v (.bool true)]) (.cons (.cellA rfl (by repeat (first | exact List.mem_cons_self | apply List.mem_cons_of_mem)) ty_281) (.cons (.tmp rfl) .nil)) rfl
   ·skip
    refine aSkip ?_
    refine aSeq ?_
    refine aReg ?_
    refine sr (by first | exact rBWa ty_281 | exact rBW ty_281 | exact rBA ty_281) ?_
    refine sp pM ?_
    refine sa ?_
    refine oStW rfl rfl rfl rfl (by repeat constructor) ty_281 ?_
    refine sp pMa ?_
    refine oNil ?_
    have hB : betterL l l2 = loadL l := by
      unfold betterL
      cases hx : loadL l with
      | none =>
        cases hy : loadL l2 with
        | none => rfl
        | some y => simp_all
      | some x =>
        cases hy : loadL l2 with
        | none => rfl
        | some y => simp only; rw [if_neg (by simp_all [bsC])]
    rw [hB]
    refine aRet ?_
    refine finRIs (l := [.agg (bsC ((loadL l).getD bs0)), .v (.bool (loadL l).isSome)]) (.cons (.cellA rfl (by repeat (first | exact List.mem_cons_self | apply List.mem_cons_of_mem)) ty_281) (.cons (.tmp rfl) .nil)) rfl
 ·skip
  refine gf ?_
  refine gf ?_
  refine gf ?_
  refine gf ?_
  refine gf ?_
  refine gf ?_
  refine gf ?_
  refine gf ?_
  refine gf ?_
  refine sp pK ?_
  refine oNil ?_
  refine aCondF rfl ?_
  refine aSkip ?_
  refine aSeq ?_
  refine aReg ?_
  refine sr (by first | exact rBWa ty_281 | exact rBW ty_281 | exact rBA ty_281) ?_
  refine sp pM ?_
  refine sa ?_
  refine oStW rfl rfl rfl rfl (by repeat constructor) ty_281 ?_
  refine sp pMa ?_
  refine oNil ?_
  have hB : betterL l l2 = loadL l := by
    unfold betterL
    cases hx : loadL l with
    | none =>
      cases hy : loadL l2 with
      | none => rfl
      | some y => simp_all
    | some x =>
      cases hy : loadL l2 with
      | none => rfl
      | some y => simp only; rw [if_neg (by simp_all [bsC])]
  rw [hB]
  refine aRet ?_
  refine finRIs (l := [.agg (bsC ((loadL l).getD bs0)), .v (.bool (loadL l).isSome)]) (.cons (.cellA rfl (by repeat (first | exact List.mem_cons_self | apply List.mem_cons_of_mem)) ty_281) (.cons (.tmp rfl) .nil)) rfl
/- slot.Mark -/
set_option maxRecDepth 100000 in
set_option maxHeartbeats 2000000 in
theorem slot_Mark {l : List BS} (hl : l.length ≤ 1000000) (hb : ∀ s ∈ l, s.length ≤ 900000) (hk : ∀ s ∈ l, BOk s) : Triple Tryz.prog 155 [.sl 1 (l.map rowC)] [] (Is (.int (markL l)) []) := by
 refine triple_of Tryz.func155 rfl (by kernel_rfl) rfl (by simp) ?_
 refine aSeq ?_
 refine aReg ?_
 refine sp pMa ?_
 refine oNil ?_
 refine aSeq ?_
 refine aReg ?_
 refine sp pMa ?_
 refine oNil ?_
 refine aSeq ?_
 refine aSeq ?_
 refine aReg ?_
 refine sp pM ?_
 refine sp (by first | exact pLm sl_177 | exact pLs sl_177) ?_
 refine sp pM ?_
 refine oNil ?_
 refine aBlock ?_
 refine loopF (α := Nat × Int) (kept := [(8, _), (9, _)]) (fun (i, m) => i ≤ l.length ∧ m = markL (l.take i)) (fun (i, m) => [(10, .int i), (3, .int m)]) (fun (i, m) => []) (fun (i, m) => l.length - i) (0, 0) ?_ ⟨gInt rfl (by first | rfl | omega | simp), gInt rfl (by first | rfl | omega | simp), rfl, rfl, trivial⟩ (by repeat constructor) ?_
 ·skip
  exact ⟨by omega, rfl⟩
 ·rintro ⟨i, m⟩ ⟨hi, hm⟩
  refine aSeq ?_
  refine aReg ?_
  refine sp pB ?_
  refine oNil ?_
  refine aSeq ?_
  refine aCondDec rfl (fun c11 => ?_) (fun c11 => ?_)
  ·skip
   refine aSkip ?_
   refine aSeq ?_
   refine aBlock ?_
   refine aSeq ?_
   obtain ⟨s, hs⟩ : ∃ z, l[i]? = some z := ⟨_, List.getElem?_eq_getElem (by omega)⟩
   have hsm := List.mem_of_getElem? hs
   have hst := markL_step hs
   refine aReg ?_
   first | refine sp (pIx es_177) ?_ | (refine obtSN 8 10 rfl rfl (by omega) (fun x12 hx12 => ?_); refine sp (pIs es_177 hx12) ?_) | (refine obtS 8 10 rfl rfl (by omega) (by omega) (fun x12 hx12 => ?_); refine sp (pIs es_177 hx12) ?_) | refine sp (pIo es_177) ?_
   refine sr (rS1 ty_50) ?_
   refine sp pMa ?_
   refine oNil ?_
   refine aSeq ?_
   refine aReg ?_
   refine sp pM ?_
   refine sq ?_
   refine ci rfl rfl rfl (pg_Get (s := s) (hb s hsm) (hk s hsm)) ?_
   refine sp pM ?_
   refine sp pX ?_
   refine sp pX ?_
   refine sq ?_
   refine qAlloc rfl rfl (by decide) ze_142 rfl (fun b6 => ?_)
   refine sa ?_
   refine oStW rfl rfl rfl rfl (by repeat constructor) ty_142 ?_
   refine sp pMa ?_
   refine oNil ?_
   refine aSeq ?_
   refine aReg ?_
   refine sp pM ?_
   refine sp pB ?_
   refine oNil ?_
   refine aCondEq rfl (fun c20 => ?_) (fun c20 => ?_)
   ·skip
    refine aReg ?_
    refine sp pM ?_
    refine sp (pFb fd_142_2) ?_
    refine sr (rB1 ty_3) ?_
    refine sp pMax ?_
    refine sp pMa ?_
    refine oNil ?_
    refine aReg ?_
    refine sp pAd ?_
    refine sp pM ?_
    refine oNil ?_
    refine ⟨(i + 1, _), ?_, by (try dsimp only); omega, ⟨gInt rfl (by first | rfl | omega | simp), gInt rfl (by first | rfl | omega | simp), rfl, rfl, trivial⟩, _, (by repeat constructor)⟩
    refine ⟨by omega, ?_⟩
    cases hg : getPg s <;> rw [hg] at hst <;> simp_all
   ·skip
    refine aSkip ?_
    refine aReg ?_
    refine sp pAd ?_
    refine sp pM ?_
    refine oNil ?_
    refine ⟨(i + 1, _), ?_, by (try dsimp only); omega, ⟨gInt rfl (by first | rfl | omega | simp), gInt rfl (by first | rfl | omega | simp), rfl, rfl, trivial⟩, _, (by repeat constructor)⟩
    refine ⟨by omega, ?_⟩
    cases hg : getPg s <;> rw [hg] at hst <;> simp_all
  ·skip
   refine aExit rfl ?_
   refine aSeq ?_
   refine aReg ?_
   refine sp pM ?_
   refine sp pMa ?_
   refine oNil ?_
   refine aRet ?_
   refine finIs rfl ?_
   obtain rfl : i = l.length := by omega
   rw [List.take_length] at hm
   rw [hm]
   rfl
def sectR (x : Bs) (mark most : Int) : List BS := if sectE x mark most = 0 then sectL x mark else []
theorem splitR_ok {p : Pg} {b : BS} (hb : BOk b) (q : Pg) (hq : q ∈ splitR p b) : mayPg q = true ∧ BOk q.b := by
 unfold splitR at hq
 split at hq
 ·rename_i hE
  unfold splitE at hE
  split at hE
  ·omega
  ·split at hE
   ·rename_i h1 h2
    refine ⟨List.all_eq_true.1 h2 q hq, ?_⟩
    obtain ⟨i, _, rfl⟩ := List.mem_map.1 hq
    exact partPg_ok hb _ _
   ·omega
 ·simp at hq
theorem splitR_len (p : Pg) (b : BS) : (splitR p b).length ≤ 16 := by
 unfold splitR
 split
 ·unfold splitL
  have := partsN_rng b.length
  rw [List.length_map, List.length_range]
  omega
 ·simp
theorem sectE_pos {x : Bs} {mark most : Int} (h : ¬ most < partsN x.b.length) : sectE x mark most = splitE (baseP x.gen mark) x.b := by unfold sectE; rw [if_neg h]
/- slot.Sectors -/
set_option maxRecDepth 100000 in
set_option maxHeartbeats 2000000 in
theorem slot_SectorsO {x : Bs} {mark most : Int} (hb : x.b.length ≤ 900000) (hk : BOk x.b) : Triple Tryz.prog 258 [.agg (bsC x), .int mark, .int most] [] (fun q h' => ∃ g c, q = .tup [.v (slV g (sectR x mark most).length c), .int (sectE x mark most)] ∧ h' = [.sl g c 50 1 ((sectR x mark most).map rowC)]) := by
 have hrl := splitR_len (baseP x.gen mark) x.b
 refine triple_of Tryz.func258 rfl (by kernel_rfl) rfl (by simp) ?_
 refine aSeq ?_
 refine aReg ?_
 refine sq ?_
 refine qBox rfl rfl (by decide) rfl rfl (fun b3 => ?_)
 refine sp pMa ?_
 refine sp pMa ?_
 refine oNil ?_
 refine aSeq ?_
 refine aReg ?_
 refine sp (pFb fd_281_0) ?_
 refine sr (rB1 ty_3) ?_
 refine sp pM ?_
 refine sp (pBuild rfl st_142 ze_142 rfl rfl rfl rfl) ?_
 refine sp (pFb fd_281_1) ?_
 refine sr (rB1 ty_50) ?_
 refine oWeak (weak_cast (k := 19) (b := .agg (pgC (baseP x.gen mark))) rfl (cast_ag (.cons .refl (.cons .refl (.cons .refl (.cons .refl (.cons .refl (.cons .refl (.cons cast_nil .nil)))))))) ) ?_
 refine sq ?_
 refine ci rfl rfl rfl (rec_Split (p := baseP x.gen mark) (by omega) hk) ?_
 refine sp pM ?_
 refine sp pX ?_
 refine sp pX ?_
 refine sp pMa ?_
 refine sp pMa ?_
 refine oNil ?_
 refine aSeq ?_
 refine aBlock ?_
 refine aSeq ?_
 refine aReg ?_
 refine sp (pFb fd_281_1) ?_
 refine sr (rB1 ty_50) ?_
 refine sp (by first | exact pLm sl_50 | exact pLs sl_50 | exact pLv sl_50) ?_
 refine sq ?_
 refine ci rfl rfl rfl (rec_Parts (n := x.b.length)) ?_
 refine sp pM ?_
 refine sp pB ?_
 refine sp pMa ?_
 refine oNil ?_
 refine aCondDec rfl (fun c25 => ?_) (fun c25 => ?_)
 ·skip
  refine aSeq ?_
  refine aWeak (weak_nil 50 1) ?_
  refine aReg ?_
  refine sp pMa ?_
  refine sp pMa ?_
  refine oNil ?_
  have hE : sectE x mark most = 5 := by unfold sectE; rw [if_pos (by first | (simp_all; done) | (simp_all; omega))]
  have hR : sectR x mark most = [] := by unfold sectR; rw [hE]; rfl
  rw [hE, hR]
  refine aRet ?_
  exact ⟨_, [.sl none 0 50 1 []], _, rfl, .cons (by repeat constructor) .nil, none, 0, rfl, rfl⟩
 ·skip
  refine aSeq ?_
  refine aReg ?_
  refine sp pM ?_
  refine sp pB ?_
  refine sp pMa ?_
  refine oNil ?_
  refine aCondNe rfl (fun c32 => ?_) (fun c32 => ?_)
  ·skip
   refine aSeq ?_
   refine aWeak (weak_nil 50 1) ?_
   refine aReg ?_
   refine sp pM ?_
   refine sp pMa ?_
   refine sp pMa ?_
   refine oNil ?_
   have hse := sectE_pos (x := x) (mark := mark) (most := most) (by first | (simp_all; done) | (simp_all; omega))
   have hn : sectE x mark most ≠ 0 := by rw [hse]; simp_all
   have hR : sectR x mark most = [] := by unfold sectR; rw [if_neg hn]
   rw [hse, hR]
   refine aRet ?_
   exact ⟨_, [.sl none 0 50 1 []], _, rfl, .cons (by repeat constructor) .nil, none, 0, rfl, rfl⟩
  ·skip
   refine aSkip ?_
   refine aSeq ?_
   have hse := sectE_pos (x := x) (mark := mark) (most := most) (by first | (simp_all; done) | (simp_all; omega))
   have h0 : splitE (baseP x.gen mark) x.b = 0 := by simp_all
   refine aWeak (weak_nil 50 1) ?_
   refine aReg ?_
   refine sp pMa ?_
   refine oNil ?_
   refine aSeq ?_
   refine aSeq ?_
   refine aReg ?_
   refine sp pM ?_
   refine sp (by first | exact pLm sl_288 | exact pLs sl_288 | exact pLv sl_288) ?_
   refine sp pM ?_
   refine oNil ?_
   refine aBlock ?_
   refine loopF (α := Nat × List BS × Option Nat × Nat) (kept := [(36, _), (37, _)]) (fun (i, out, g, c) => i ≤ (splitR (baseP x.gen mark) x.b).length ∧ out = ((splitR (baseP x.gen mark) x.b).take i).map putPg) (fun (i, out, g, c) => [(38, .int i), (10, .v (slV g out.length c))]) (fun (i, out, g, c) => [.sl g c 50 1 (out.map rowC)]) (fun (i, out, g, c) => (splitR (baseP x.gen mark) x.b).length - i) (0, [], _, _) ?_ ⟨gInt rfl (by first | rfl | omega | simp), gLen rfl (by first | rfl | simp | (simp; omega)), rfl, rfl, trivial⟩ (by repeat constructor) ?_
   ·skip
    exact ⟨by omega, rfl⟩
   ·rintro ⟨i, out, g, c⟩ ⟨hi, ho⟩
    refine aSeq ?_
    refine aReg ?_
    refine sp pB ?_
    refine oNil ?_
    refine aSeq ?_
    refine aCondDec rfl (fun c39 => ?_) (fun c39 => ?_)
    ·skip
     refine aSkip ?_
     refine aSeq ?_
     refine aBlock ?_
     refine aSeq ?_
     obtain ⟨p, hp⟩ : ∃ z, (splitR (baseP x.gen mark) x.b)[i]? = some z := ⟨_, List.getElem?_eq_getElem (by omega)⟩
     have hpo := splitR_ok hk p (List.mem_of_getElem? hp)
     have hol : out.length ≤ 16 := by rw [ho, List.length_map, List.length_take]; omega
     refine aReg ?_
     first | refine sp (pIx es_288) ?_ | (refine obtSN 36 38 rfl rfl (by omega) (fun x40 hx40 => ?_); refine sp (pIs es_288 hx40) ?_) | (refine obtS 36 38 rfl rfl (by omega) (by omega) (fun x40 hx40 => ?_); refine sp (pIs es_288 hx40) ?_) | refine sp (pIo es_288) ?_
     refine sr (by first | exact rSW ty_142 rfl | exact rSA ty_142 | exact rBWa ty_142 | exact rBW ty_142 | exact rBA ty_142 | exact rArA ty_142 (fun _ => rfl)) ?_
     refine sq ?_
     refine qAlloc rfl rfl (by decide) ze_142 rfl (fun b12 => ?_)
     refine sa ?_
     refine oStW rfl rfl rfl rfl (by repeat constructor) ty_142 ?_
     refine oNil ?_
     refine aSeq ?_
     refine aReg ?_
     refine sr (by first | exact rBWa ty_142 | exact rBW ty_142 | exact rBA ty_142) ?_
     refine sq ?_
     refine ci rfl rfl rfl (pg_Put (p := p) (by have := (mayPg_iff.1 hpo.1).len; omega) hpo.2) ?_
     rw [hpo.1, if_pos rfl, if_pos rfl]
     refine sp pM ?_
     refine sp pX ?_
     refine sp pX ?_
     refine sp pMa ?_
     refine sp pMa ?_
     refine oNil ?_
     refine aReg ?_
     refine sp pM ?_
     refine sp pM ?_
     refine sq ?_
     refine qLit (l := [_]) rfl rfl (by decide) us_177 ty_50 ze_50 rfl (by decide) (by decide) rfl rfl rfl (fun b49 => ?_)
     refine sa ?_
     refine oAppT ([putPg p] : List BS) rfl rfl (by repeat constructor) (srcOwn rfl (by repeat constructor) rfl) el_177 sl_177 (fun g50 k50 => ?_)
     refine sp pMa ?_
     refine oNil ?_
     refine aReg ?_
     refine sp pAd ?_
     refine sp pM ?_
     refine oNil ?_
     refine ⟨(i + 1, _, _, _), ?_, by (try dsimp only); omega, ⟨gInt rfl (by first | rfl | omega | simp), gLen rfl (by first | rfl | simp | (simp; omega)), rfl, rfl, trivial⟩, _, (by repeat constructor)⟩
     exact ⟨by omega, by rw [take_step hp, List.map_append, ← ho]; rfl⟩
    ·skip
     refine aExit rfl ?_
     refine aSeq ?_
     refine aReg ?_
     refine sp pM ?_
     refine sp pMa ?_
     refine sp pMa ?_
     refine oNil ?_
     obtain rfl : i = (splitR (baseP x.gen mark) x.b).length := by omega
     rw [List.take_length] at ho
     have hE : sectE x mark most = 0 := by rw [hse, h0]
     have hR : sectR x mark most = out := by
       unfold sectR
       rw [if_pos hE, ho]
       unfold sectL splitR
       rw [if_pos h0]
     rw [hE, hR]
     refine aRet ?_
     exact ⟨_, [.sl g c 50 1 (out.map rowC)], _, rfl, .cons (by repeat constructor) .nil, g, c, rfl, rfl⟩
end A
end Go.Proofs.YthkgdhamnpiagaaGreat
namespace Go.Proofs.YthkgdhamnpiagaaGreat
namespace A
def secE (D : DW) : Int := if D.dead then 7 else 0
def secV (D : DW) (n : Nat) : List BS := if D.dead then [] else secL D n
theorem secL_step (D : DW) (i : Nat) : secL D (i + 1) = secL D i ++ [D.get i] := by
 unfold secL
 rw [List.range_succ, List.map_append]
 rfl
theorem secL_len (D : DW) (i : Nat) : (secL D i).length = i := by simp [secL]
theorem tailL_len : ∀ (g : Int) (i : Nat) (l : List BS), (tailL g i l).length ≤ l.length
 | _, _, [] => Nat.le_refl _
 | g, i, s :: t => by
   unfold tailL
   split
   ·simp
   ·split
    ·have := tailL_len g (i + 1) t; simp; omega
    ·simp
theorem tailL_all : ∀ {g : Int} {i : Nat} {l : List BS} {p : Pg}, (∀ s ∈ l, BOk s) → p ∈ tailL g i l → PgOk p ∧ BOk p.b
 | _, _, [], p, _, h => by simp [tailL] at h
 | g, i, s :: t, p, hk, h => by
   unfold tailL at h
   split at h
   ·simp at h
   ·rename_i q hq
    split at h
    ·rcases List.mem_cons.1 h with rfl | h
     ·exact ⟨(getPg_some hq).1, getPg_bok (hk s (by simp)) hq⟩
     ·exact tailL_all (fun x hx => hk x (by simp [hx])) h
    ·simp at h
theorem tailL_step {g : Int} {l : List BS} {i : Nat} {s : BS} (h : l[i]? = some s) : tailL g i (l.drop i) = match getPg s with | none => [] | some x => if x.kind = 2 ∧ x.gen = g ∧ x.index = i then x :: tailL g (i + 1) (l.drop (i + 1)) else [] := by rw [drop_step h]; rfl
theorem joinR_pos {l : List Pg} {q : BS × Nat} (h : joinR l = some q) : 1 ≤ q.2 ∧ q.2 ≤ l.length := by
 cases l with
 | nil => cases h
 | cons f t =>
   rw [joinR_cons] at h
   split at h
   ·cases h
   ·rename_i h1
    simp only [Bool.or_eq_true, Bool.not_eq_true', decide_eq_true_eq, not_or, Bool.not_eq_false] at h1
    have := (mayPg_iff.1 h1.1).parts
    split at h
    ·cases h
     simp only
     omega
    ·cases h
theorem recsG_fix : ∀ (n : Nat) {k k' : Nat} {l : List Pg}, l.length ≤ n → l.length < k → l.length < k' → recsG k l = recsG k' l
 | n, 0, _, l, _, h, _ => by omega
 | n, _, 0, l, _, _, h => by omega
 | n, k + 1, k' + 1, l, hn, h, h' => by
   unfold recsG
   cases hj : joinR l with
   | none => rfl
   | some q =>
     have hq := joinR_pos hj
     simp only
     cases n with
     | zero => omega
     | succ n => rw [recsG_fix n (k := k) (k' := k') (l := l.drop q.2) (by rw [List.length_drop]; omega) (by rw [List.length_drop]; omega) (by rw [List.length_drop]; omega)]
theorem recsG_step {l : List Pg} {q : BS × Nat} (h : joinR l = some q) : recsG (l.length + 1) l = (q.1 :: (recsG ((l.drop q.2).length + 1) (l.drop q.2)).1, q.2 + (recsG ((l.drop q.2).length + 1) (l.drop q.2)).2) := by
 have hq := joinR_pos h
 have e : recsG (l.length + 1) l = (q.1 :: (recsG l.length (l.drop q.2)).1, q.2 + (recsG l.length (l.drop q.2)).2) := by
   rw [recsG, h]
 rw [e, recsG_fix l.length (k := l.length) (k' := (l.drop q.2).length + 1) (by rw [List.length_drop]; omega) (by rw [List.length_drop]; omega) (by omega)]
theorem recsG_none {l : List Pg} {k : Nat} (h : joinR l = none) : recsG (k + 1) l = ([], 0) := by rw [recsG, h]
/- wal.sectors -/
set_option maxRecDepth 100000 in
set_option maxHeartbeats 2000000 in
theorem wal_sectors (db bs bw n : Nat) (S W : List (Int × BS)) (D : DW) (r : Rel n S W D) : Triple Tryz.prog 154 [.v (.pointer (some ⟨db, 0, none⟩))] [.box db [.int n, .v (.map (some bs)), .v (.map (some bw)), .int D.armed, .v (.bool D.dead)], .map bs (kvA S), .map bw (kvA W)] (Is (.tup [.sl 1 ((secV D n).map rowC), .int (secE D)]) [.box db [.int n, .v (.map (some bs)), .v (.map (some bw)), .int D.armed, .v (.bool D.dead)], .map bs (kvA S), .map bw (kvA W)]) := by
 have hn1 := r.n1
 have hn2 := r.n2
 have hsn := r.sn
 refine triple_of Tryz.func154 rfl (by kernel_rfl) rfl (by simp) ?_
 refine aSeq ?_
 refine aReg ?_
 refine sp pMa ?_
 refine sp pMa ?_
 refine oNil ?_
 refine aSeq ?_
 refine aReg ?_
 refine sp pMa ?_
 refine oNil ?_
 refine aSeq ?_
 refine aSeq ?_
 refine aWeak (weak_nil 50 1) ?_
 refine aReg ?_
 refine sp pM ?_
 refine sa ?_
 refine aCall rfl rfl (by decide) rfl rfl (.cons (by repeat constructor) .nil) (disk_Size _ _ _ _ _ _) ?_
 rintro _ _ ⟨rfl, rfl⟩
 refine sp pM ?_
 refine oNil ?_
 refine aBlock ?_
 refine loopF (α := Nat × List BS × Option Nat × Nat) (kept := [(0, _), (9, _)]) (fun (i, out, g, c) => i ≤ n ∧ out = secL D i ∧ (0 < i → D.dead = false)) (fun (i, out, g, c) => [(10, .int i), (4, .v (slV g out.length c))]) (fun (i, out, g, c) => (.sl g c 50 1 (out.map rowC) :: [.box db [.int n, .v (.map (some bs)), .v (.map (some bw)), .int D.armed, .v (.bool D.dead)], .map bs (kvA S), .map bw (kvA W)])) (fun (i, out, g, c) => n - i) (0, [], _, _) ?_ ⟨gInt rfl (by first | rfl | omega | simp), gLen rfl (by first | rfl | simp | (simp; omega)), rfl, rfl, trivial⟩ (by repeat constructor) ?_
 ·skip
  exact ⟨by omega, rfl, fun h => by omega⟩
 ·rintro ⟨i, out, g, c⟩ ⟨hi, ho, hdd⟩
  refine aSeq ?_
  refine aReg ?_
  refine sp pB ?_
  refine oNil ?_
  refine aSeq ?_
  refine aCondDec rfl (fun c11 => ?_) (fun c11 => ?_)
  ·skip
   refine aSkip ?_
   refine aSeq ?_
   refine aBlock ?_
   refine aSeq ?_
   refine aReg ?_
   refine sp pM ?_
   refine sp pMa ?_
   refine oNil ?_
   refine aSeq ?_
   refine aReg ?_
   refine sp pM ?_
   refine sp pM ?_
   refine sa ?_
   refine ca rfl rfl rfl (disk_Read db bs bw n i S W D r) ?_
   rintro _ _ ⟨gr, cr, rfl, rfl⟩
   refine sp pM ?_
   refine sp pX ?_
   refine sp pX ?_
   refine sp pMa ?_
   refine sp pMa ?_
   refine oNil ?_
   refine aSeq ?_
   refine aSeq ?_
   refine aReg ?_
   refine sp pM ?_
   refine sp pB ?_
   refine oNil ?_
   refine aCondNe rfl (fun c20 => ?_) (fun c20 => ?_)
   ·skip
    refine aSeq ?_
    have hd : D.dead = true := by
      cases hd : D.dead with
      | true => rfl
      | false => rw [read_ok hd (by omega) (by omega)] at *; simp_all
    refine aReg ?_
    refine sp pM ?_
    refine sp pMa ?_
    refine sp pMa ?_
    refine oNil ?_
    have hE : D.read i = ([], 7) := read_dead hd
    rw [show secV D n = [] by unfold secV; rw [hd]; rfl, show secE D = 7 by unfold secE; rw [hd]; rfl]
    refine aWeak (weak_cast (k := 2) (b := .sl 1 []) rfl cast_nil) ?_
    refine aRet ?_
    exact finIs rfl (by rw [hE]; rfl)
   ·skip
    refine aSkip ?_
    have hd : D.dead = false := by
      cases hd : D.dead with
      | false => rfl
      | true => rw [read_dead hd] at *; simp_all
    rw [read_ok hd (by omega) (by omega)]
    have hol := secL_len D i
    rw [← ho] at hol
    refine aWeak (weak_settle (k := 6) rfl (by repeat constructor) (by first | rfl | (simp; done) | (simp; omega) | (simp_all; done))) ?_
    refine aReg ?_
    refine sp pM ?_
    refine sp pM ?_
    refine sq ?_
    refine qLit (l := [_]) rfl rfl (by decide) us_177 ty_50 ze_50 rfl (by decide) (by decide) rfl rfl rfl (fun b24 => ?_)
    refine sa ?_
    refine oAppT ([D.get i] : List BS) rfl rfl (by repeat constructor) (srcOwn rfl (by repeat constructor) rfl) el_177 sl_177 (fun g25 k25 => ?_)
    refine sp pMa ?_
    refine oNil ?_
    refine aReg ?_
    refine sp pAd ?_
    refine sp pM ?_
    refine oNil ?_
    refine ⟨(i + 1, _, _, _), ?_, by (try dsimp only); omega, ⟨gInt rfl (by first | rfl | omega | simp), gLen rfl (by first | rfl | simp | (simp; omega)), rfl, rfl, trivial⟩, _, (by repeat constructor)⟩
    exact ⟨by omega, by rw [secL_step, ← ho], fun _ => hd⟩
  ·skip
   refine aExit rfl ?_
   refine aSeq ?_
   refine aReg ?_
   refine sp pM ?_
   refine sp pMa ?_
   refine sp pMa ?_
   refine oNil ?_
   obtain rfl : i = n := by omega
   have hd := hdd (by omega)
   rw [show secV D i = out by unfold secV; rw [hd, ho]; rfl, show secE D = 0 by unfold secE; rw [hd]; rfl]
   refine aWeak (weak_settle (k := 2) rfl (by repeat constructor) (by simp)) ?_
   refine aRet ?_
   exact finIs rfl rfl
end A
end Go.Proofs.YthkgdhamnpiagaaGreat
namespace Go.Proofs.YthkgdhamnpiagaaGreat
namespace A
theorem partL_len (p : Plt) (l : List BS) (g : Int) : (partL p l g).length ≤ l.length := by
 unfold partL
 rw [List.length_drop, List.length_take]
 omega
theorem partL_mem {p : Plt} {l : List BS} {g : Int} {s : BS} (h : s ∈ partL p l g) : s ∈ l := List.mem_of_mem_take (List.mem_of_mem_drop h)
theorem drop_take' {α : Type} (l : List α) (a b : Nat) : (l.drop a).take (b - a) = (l.take b).drop a := by rw [List.drop_take]
/- wal.part -/
set_option maxRecDepth 100000 in
set_option maxHeartbeats 400000 in
theorem wal_part {p : Plt} {l : List BS} {g : Int} (h : PltOk p l.length) (hg : 0 ≤ g) : Triple Tryz.prog 157 [.agg (pltC p), .sl 1 (l.map rowC), .int g] [] (Is (.sl 1 ((partL p l g).map rowC)) []) := by
 have hf := h.f
 have hsf := slotFr_rng h hg
 have hh1 := h.h1
 have hh2 := h.h2
 refine triple_of Tryz.func157 rfl (by kernel_rfl) rfl (by simp) ?_
 refine aSeq ?_
 refine aReg ?_
 refine sq ?_
 refine qBox rfl rfl (by decide) rfl rfl (fun b3 => ?_)
 refine sp pMa ?_
 refine oNil ?_
 refine aSeq ?_
 refine aReg ?_
 refine sr (by first | exact rBWa ty_272 | exact rBW ty_272 | exact rBA ty_272) ?_
 refine sp pM ?_
 refine sq ?_
 refine ci rfl rfl rfl (plot_Slot h hg) ?_
 refine sp pM ?_
 refine sp pX ?_
 refine sp pX ?_
 refine sp pMa ?_
 refine sp pMa ?_
 refine oNil ?_
 refine aSeq ?_
 refine aReg ?_
 refine sp pM ?_
 refine sp pM ?_
 refine sp pM ?_
 refine sp (pSlice rfl rfl es_177 (bdE (N := 0) (m := (slotFr p g).toNat) rfl (by omega)) (bdE (N := 0) (m := (slotFr p g + p.slot).toNat) rfl (by omega)) (by first | omega | (simp only [List.length_map]; omega)) (by first | omega | (simp only [List.length_map]; omega))) ?_
 rw [show ((l.map rowC).drop (slotFr p g).toNat).take ((slotFr p g + p.slot).toNat - (slotFr p g).toNat) = (partL p l g).map rowC by rw [drop_take', ← List.map_take, ← List.map_drop]; rfl]
 refine sp pMa ?_
 refine oNil ?_
 refine aRet ?_
 refine finIs rfl ?_
 rfl
/- wal.tail -/
set_option maxRecDepth 100000 in
set_option maxHeartbeats 2000000 in
theorem wal_tailO {p : Plt} {l : List BS} {gen : Int} (h : PltOk p l.length) (hb : ∀ s ∈ l, s.length ≤ 900000) (hk : ∀ s ∈ l, BOk s) : Triple Tryz.prog 161 [.agg (pltC p), .sl 1 (l.map rowC), .int gen] [] (Own 142 7 ((tailL gen 0 (l.drop p.fr.toNat)).map pgC) []) := by
 have hf := h.f
 have hh1 := h.h1
 have hh2 := h.h2
 obtain ⟨L, hL⟩ : ∃ z, (l.drop p.fr.toNat) = z := ⟨_, rfl⟩
 have hLl : L.length = l.length - p.fr.toNat := by rw [← hL, List.length_drop]
 rw [hL]
 refine triple_of Tryz.func161 rfl (by kernel_rfl) rfl (by simp) ?_
 refine aSeq ?_
 refine aReg ?_
 refine sq ?_
 refine qBox rfl rfl (by decide) rfl rfl (fun b3 => ?_)
 refine sp pMa ?_
 refine oNil ?_
 refine aSeq ?_
 refine aWeak (weak_nil 142 7) ?_
 refine aReg ?_
 refine sp pMa ?_
 refine oNil ?_
 refine aSeq ?_
 refine aSeq ?_
 refine aReg ?_
 refine sp pM ?_
 refine sp (pFb fd_272_1) ?_
 refine sr (rB1 ty_3) ?_
 refine sp (pSlice rfl rfl es_177 (bdE (N := 0) (m := p.fr.toNat) rfl (by omega)) (bdN rfl) (by first | omega | (simp only [List.length_map]; omega)) (by first | omega | (simp only [List.length_map]; omega))) ?_
 rw [show ((l.map rowC).drop p.fr.toNat).take ((l.map rowC).length - p.fr.toNat) = L.map rowC by rw [← List.map_drop, hL, List.take_of_length_le]; simp [hLl]]
 refine sp (by first | exact pLm sl_177 | exact pLs sl_177 | exact pLv sl_177) ?_
 refine sp pM ?_
 refine oNil ?_
 refine aBlock ?_
 refine loopF (α := Nat × List Pg × Option Nat × Nat) (kept := [(2, _), (15, _), (16, _)]) (fun (i, out, g, c) => i ≤ L.length ∧ tailL gen 0 L = out ++ tailL gen i (L.drop i)) (fun (i, out, g, c) => [(17, .int i), (7, .v (slV g out.length c))]) (fun (i, out, g, c) => [.sl g c 142 7 (out.map pgC)]) (fun (i, out, g, c) => L.length - i) (0, [], _, _) ?_ ⟨gInt rfl (by first | rfl | omega | simp), gLen rfl (by first | rfl | simp | (simp; omega)), rfl, rfl, rfl, trivial⟩ (by repeat constructor) ?_
 ·skip
  exact ⟨by omega, by simp⟩
 ·rintro ⟨i, out, g, c⟩ ⟨hi, ho⟩
  refine aSeq ?_
  refine aReg ?_
  refine sp pB ?_
  refine oNil ?_
  refine aSeq ?_
  refine aCondDec rfl (fun c18 => ?_) (fun c18 => ?_)
  ·skip
   refine aSkip ?_
   refine aSeq ?_
   refine aBlock ?_
   refine aSeq ?_
   obtain ⟨s, hs⟩ : ∃ z, L[i]? = some z := ⟨_, List.getElem?_eq_getElem (by omega)⟩
   have hsm := List.mem_of_getElem? hs
   have hsl : s ∈ l := List.mem_of_mem_drop (by rw [hL]; exact hsm)
   have hst := tailL_step (g := gen) hs
   have hpl := tailL_len gen 0 L
   have hol : out.length ≤ L.length := by rw [ho, List.length_append] at hpl; omega
   refine aReg ?_
   refine sp pM ?_
   first | refine sp (pIx es_177) ?_ | (refine obtSN 15 17 rfl rfl (by omega) (fun x20 hx20 => ?_); refine sp (pIs es_177 hx20) ?_) | (refine obtS 15 17 rfl rfl (by omega) (by omega) (fun x20 hx20 => ?_); refine sp (pIs es_177 hx20) ?_) | refine sp (pIo es_177) ?_
   refine sr (by first | exact rS1 ty_50 | exact rB1 ty_50 | exact rAr ty_50 | exact rArL ty_50 | exact rArR2 ty_50) ?_
   refine sp pMa ?_
   refine sp pMa ?_
   refine oNil ?_
   refine aSeq ?_
   refine aReg ?_
   refine sp pM ?_
   refine sq ?_
   refine ci rfl rfl rfl (pg_Get (s := s) (hb s hsl) (hk s hsl)) ?_
   refine sp pM ?_
   refine sp pX ?_
   refine sp pX ?_
   refine sq ?_
   refine qAlloc rfl rfl (by decide) ze_142 rfl (fun b10 => ?_)
   refine sa ?_
   refine oStW rfl rfl rfl rfl (by repeat constructor) ty_142 ?_
   refine sp pMa ?_
   refine oNil ?_
   refine aSeq ?_
   refine aSeq ?_
   refine aReg ?_
   refine sp pM ?_
   refine sp pB ?_
   refine sp pM ?_
   refine oSplitNe 29 rfl (fun c29 => ?_) (fun c29 => ?_)
   ·skip
    refine gf ?_
    refine gf ?_
    refine gf ?_
    refine sp pK ?_
    refine sp pM ?_
    refine gf ?_
    refine gf ?_
    refine gf ?_
    refine gf ?_
    refine sp pK ?_
    refine sp pM ?_
    refine gf ?_
    refine gf ?_
    refine gf ?_
    refine gf ?_
    refine sp pK ?_
    refine oNil ?_
    refine aCondT rfl ?_
    refine aExit rfl ?_
    refine aSeq ?_
    refine aReg ?_
    refine sp pM ?_
    refine sp pMa ?_
    refine oNil ?_
    refine aRet ?_
    refine finOwn rfl ?_
    rcases Nat.lt_or_ge i L.length with hlt | hge
    ·first
       | (exfalso; omega)
       | (have hg : tailL gen i (L.drop i) = [] := by
            cases hg : getPg s with
            | none => rw [hst, hg]
            | some p =>
              rw [hst, hg]
              simp only
              rw [if_neg (by simp_all [pgC])]
          rw [ho, hg, List.append_nil]
          done)
    ·obtain rfl : i = L.length := by omega
     rw [ho, List.drop_length]
     simp [tailL]
   ·skip
    refine gp (pFb fd_142_0) ?_
    refine gr (rB1 ty_3) ?_
    refine gp pB ?_
    refine sp pK ?_
    refine sp pM ?_
    refine oSplitNe 34 rfl (fun c34 => ?_) (fun c34 => ?_)
    ·skip
     refine gf ?_
     refine gf ?_
     refine gf ?_
     refine gf ?_
     refine sp pK ?_
     refine sp pM ?_
     refine gf ?_
     refine gf ?_
     refine gf ?_
     refine gf ?_
     refine sp pK ?_
     refine oNil ?_
     refine aCondT rfl ?_
     refine aExit rfl ?_
     refine aSeq ?_
     refine aReg ?_
     refine sp pM ?_
     refine sp pMa ?_
     refine oNil ?_
     refine aRet ?_
     refine finOwn rfl ?_
     rcases Nat.lt_or_ge i L.length with hlt | hge
     ·first
        | (exfalso; omega)
        | (have hg : tailL gen i (L.drop i) = [] := by
             cases hg : getPg s with
             | none => rw [hst, hg]
             | some p =>
               rw [hst, hg]
               simp only
               rw [if_neg (by simp_all [pgC])]
           rw [ho, hg, List.append_nil]
           done)
     ·obtain rfl : i = L.length := by omega
      rw [ho, List.drop_length]
      simp [tailL]
    ·skip
     refine gp (pFb fd_142_1) ?_
     refine gr (rB1 ty_3) ?_
     refine gp pM ?_
     refine gp pB ?_
     refine sp pK ?_
     refine sp pM ?_
     refine oSplitNe 40 rfl (fun c40 => ?_) (fun c40 => ?_)
     ·skip
      refine gf ?_
      refine gf ?_
      refine gf ?_
      refine gf ?_
      refine sp pK ?_
      refine oNil ?_
      refine aCondT rfl ?_
      refine aExit rfl ?_
      refine aSeq ?_
      refine aReg ?_
      refine sp pM ?_
      refine sp pMa ?_
      refine oNil ?_
      refine aRet ?_
      refine finOwn rfl ?_
      rcases Nat.lt_or_ge i L.length with hlt | hge
      ·first
         | (exfalso; omega)
         | (have hg : tailL gen i (L.drop i) = [] := by
              cases hg : getPg s with
              | none => rw [hst, hg]
              | some p =>
                rw [hst, hg]
                simp only
                rw [if_neg (by simp_all [pgC])]
            rw [ho, hg, List.append_nil]
            done)
      ·obtain rfl : i = L.length := by omega
       rw [ho, List.drop_length]
       simp [tailL]
     ·skip
      refine gp (pFb fd_142_3) ?_
      refine gr (rB1 ty_3) ?_
      refine gp pM ?_
      refine gp pB ?_
      refine sp pK ?_
      refine oNil ?_
      refine aCondNe rfl (fun c45 => ?_) (fun c45 => ?_)
      ·skip
       refine aExit rfl ?_
       refine aSeq ?_
       refine aReg ?_
       refine sp pM ?_
       refine sp pMa ?_
       refine oNil ?_
       refine aRet ?_
       refine finOwn rfl ?_
       rcases Nat.lt_or_ge i L.length with hlt | hge
       ·first
          | (exfalso; omega)
          | (have hg : tailL gen i (L.drop i) = [] := by
               cases hg : getPg s with
               | none => rw [hst, hg]
               | some p =>
                 rw [hst, hg]
                 simp only
                 rw [if_neg (by simp_all [pgC])]
             rw [ho, hg, List.append_nil]
             done)
       ·obtain rfl : i = L.length := by omega
        rw [ho, List.drop_length]
        simp [tailL]
      ·skip
       refine aSkip ?_
       refine aReg ?_
       refine sp pM ?_
       refine sr (by first | exact rBWa ty_142 | exact rBW ty_142 | exact rBA ty_142) ?_
       refine sq ?_
       refine qLit (l := [_]) rfl rfl (by decide) us_288 ty_142 ze_142 rfl (by decide) (by decide) rfl rfl rfl (fun b48 => ?_)
       refine sa ?_
       refine oAppT [_] rfl rfl (by repeat constructor) (srcOwn rfl (by repeat constructor) rfl) el_288 sl_288 (fun g49 k49 => ?_)
       refine sp pMa ?_
       refine oNil ?_
       refine aReg ?_
       refine sp pAd ?_
       refine sp pM ?_
       refine oNil ?_
       refine ⟨(i + 1, _, _, _), ?_, by (try dsimp only); omega, ⟨gInt rfl (by first | rfl | omega | simp), gLen rfl (by first | rfl | simp | (simp; omega)), rfl, rfl, rfl, trivial⟩, _, (by repeat constructor)⟩
       refine ⟨by omega, ?_⟩
       cases hg : getPg s with
       | none => simp_all
       | some p =>
         rw [hg] at hst
         simp only at hst
         rw [if_pos (by simp_all [pgC])] at hst
         rw [ho, hst, List.append_assoc]
         rfl
  ·skip
   refine aExit rfl ?_
   refine aSeq ?_
   refine aReg ?_
   refine sp pM ?_
   refine sp pMa ?_
   refine oNil ?_
   refine aRet ?_
   refine finOwn rfl ?_
   rcases Nat.lt_or_ge i L.length with hlt | hge
   ·first
      | (exfalso; omega)
      | (have hg : tailL gen i (L.drop i) = [] := by
           cases hg : getPg s with
           | none => rw [hst, hg]
           | some p =>
             rw [hst, hg]
             simp only
             rw [if_neg (by simp_all [pgC])]
         rw [ho, hg, List.append_nil]
         done)
   ·obtain rfl : i = L.length := by omega
    rw [ho, List.drop_length]
    simp [tailL]
theorem wal_tail {p : Plt} {l : List BS} {gen : Int} (h : PltOk p l.length) (hb : ∀ s ∈ l, s.length ≤ 900000) (hk : ∀ s ∈ l, BOk s) : Triple Tryz.prog 161 [.agg (pltC p), .sl 1 (l.map rowC), .int gen] [] (Is (.sl 7 ((tailL gen 0 (l.drop p.fr.toNat)).map pgC)) []) := (wal_tailO h hb hk).settle
def recsL (l : List Pg) : List BS × Nat := recsG (l.length + 1) l
/- wal.records -/
set_option maxRecDepth 100000 in
set_option maxHeartbeats 2000000 in
theorem wal_records {l : List Pg} (hl : l.length ≤ 1000000) (hb : ∀ p ∈ l, p.b.length ≤ 488) (hk : ∀ p ∈ l, BOk p.b) : Triple Tryz.prog 160 [.sl 7 (l.map pgC)] [] (Is (.tup [.sl 1 ((recsL l).1.map rowC), .int ((recsL l).2 : Nat)]) []) := by
 refine triple_of Tryz.func160 rfl (by kernel_rfl) rfl (by simp) ?_
 refine aSeq ?_
 refine aReg ?_
 refine sp pMa ?_
 refine sp pMa ?_
 refine oNil ?_
 refine aSeq ?_
 refine aWeak (weak_nil 50 1) ?_
 refine aReg ?_
 refine sp pMa ?_
 refine oNil ?_
 refine aSeq ?_
 refine aReg ?_
 refine sp pMa ?_
 refine oNil ?_
 refine aBlock ?_
 refine loopF (α := Nat × List BS × Option Nat × Nat) (kept := [(0, _)]) (fun (k, out, g, c) => k ≤ l.length ∧ out.length ≤ k ∧ recsL l = (out ++ (recsL (l.drop k)).1, k + (recsL (l.drop k)).2)) (fun (k, out, g, c) => [(5, .int k), (4, .v (slV g out.length c))]) (fun (k, out, g, c) => [.sl g c 50 1 (out.map rowC)]) (fun (k, out, g, c) => l.length - k) (0, [], _, _) ?_ ⟨gInt rfl (by first | rfl | omega | simp), gLen rfl (by first | rfl | simp | (simp; omega)), rfl, trivial⟩ (by repeat constructor) ?_
 ·skip
  exact ⟨by omega, by simp, by simp⟩
 ·rintro ⟨k, out, g, c⟩ ⟨hi, hol, ho⟩
  refine aBlock ?_
  refine aSeq ?_
  refine aReg ?_
  refine sp pM ?_
  refine sp pM ?_
  refine sp (pSlice rfl rfl es_288 (bdI rfl) (bdN rfl) (by first | omega | (simp only [List.length_map]; omega)) (by first | omega | (simp only [List.length_map]; omega))) ?_
  rw [show ((l.map pgC).drop k).take ((l.map pgC).length - k) = (l.drop k).map pgC by rw [← List.map_drop, List.take_of_length_le]; simp]
  refine sq ?_
  refine ci rfl rfl rfl (rec_Join (l := l.drop k) (by rw [List.length_drop]; omega) (fun p hp => hb p (List.mem_of_mem_drop hp)) (fun p hp => hk p (List.mem_of_mem_drop hp))) ?_
  rw [joinV_eq]
  refine sp pM ?_
  refine sp pX ?_
  refine sp pX ?_
  refine sp pX ?_
  refine sp pMa ?_
  refine sp pMa ?_
  refine sp pMa ?_
  refine oNil ?_
  refine aSeq ?_
  refine aSeq ?_
  refine aReg ?_
  refine sp pM ?_
  refine sp pNo ?_
  refine oNil ?_
  refine aCondNot rfl (fun c18 => ?_) (fun c18 => ?_)
  ·skip
   refine aSeq ?_
   have hj : joinR (l.drop k) = none := by
     cases hj : joinR (l.drop k) with
     | none => rfl
     | some q => simp_all
   refine aReg ?_
   refine sp pM ?_
   refine sp pM ?_
   refine sp pMa ?_
   refine sp pMa ?_
   refine oNil ?_
   have hR : recsL l = (out, k) := by rw [ho, show recsL (l.drop k) = ([], 0) by unfold recsL; rw [recsG_none hj]]; simp
   rw [hR]
   refine aWeak (weak_settle (k := 2) rfl (by repeat constructor) (by simp)) ?_
   refine aRet ?_
   exact finIs rfl rfl
  ·skip
   refine aSkip ?_
   refine aSeq ?_
   obtain ⟨q, hj⟩ : ∃ q, joinR (l.drop k) = some q := Option.isSome_iff_exists.1 (by simp_all)
   have hq := joinR_pos hj
   rw [List.length_drop] at hq
   simp only [hj, Option.getD_some]
   refine aReg ?_
   refine sp pM ?_
   refine sp pM ?_
   refine sq ?_
   refine qLit (l := [_]) rfl rfl (by decide) us_177 ty_50 ze_50 rfl (by decide) (by decide) rfl rfl rfl (fun b23 => ?_)
   refine sa ?_
   refine oAppT [_] rfl rfl (by repeat constructor) (srcOwn rfl (by repeat constructor) rfl) el_177 sl_177 (fun g24 k24 => ?_)
   refine sp pMa ?_
   refine oNil ?_
   refine aReg ?_
   refine sp pM ?_
   refine sp pM ?_
   refine sp pAd ?_
   refine sp pMa ?_
   refine oNil ?_
   refine ⟨(k + q.2, _, _, _), ?_, by (try dsimp only); omega, ⟨gInt rfl (by first | rfl | omega | simp), gLen rfl (by first | rfl | simp | (simp; omega)), rfl, trivial⟩, _, (by repeat constructor)⟩
   refine ⟨by omega, by rw [List.length_append]; simp only [List.length_cons, List.length_nil]; omega, ?_⟩
   rw [ho]
   unfold recsL
   rw [recsG_step hj, List.drop_drop, List.append_assoc, Nat.add_assoc]
   rfl
end A
end Go.Proofs.YthkgdhamnpiagaaGreat
namespace Go.Proofs.YthkgdhamnpiagaaGreat
namespace A
theorem es_440 : elemSize Tryz.prog 440 = some 1 := by kernel_rfl
theorem sl_440 : isSl Tryz.prog 440 = true := by kernel_rfl
theorem ty_177 : tyOf Tryz.prog 177 = some (1, false) := by kernel_rfl
theorem us_440 : Tryz.prog.underlying 440 = some (.slice 177) := by kernel_rfl
theorem ze_177 : zeroOf Tryz.prog 177 = some (.slice none 0 0) := by kernel_rfl
def rwC (x : List BS) : List AV := [.sl 1 (x.map rowC)]
theorem catR_step {l : List (List BS)} {i : Nat} {b : List BS} (h : l[i]? = some b) : (l.take (i + 1)).flatten = (l.take i).flatten ++ b := by
 rw [take_step h, List.flatten_append]
 simp
theorem catR_len {l : List (List BS)} (i : Nat) (hb : (l.flatten).length ≤ 1000000) : ((l.take i).flatten).length ≤ 1000000 := by
 have : l.flatten = (l.take i).flatten ++ (l.drop i).flatten := by rw [← List.flatten_append, List.take_append_drop]
 rw [this, List.length_append] at hb
 omega
theorem anyR_idx {α : Type} (p : α → Bool) (l : List α) : decide (0 ≤ idxF p l) = l.any p := by
 rcases idxF_cases p l with ⟨h1, h2⟩ | ⟨i, x, h1, h2, h3⟩
 ·rw [h1]
  have : l.any p = false := by
    rw [List.any_eq_false]
    exact fun x hx => by simpa using List.find?_eq_none.1 h2 x hx
  rw [this]
  rfl
 ·rw [h1]
  have : l.any p = true := List.any_eq_true.2 ⟨x, List.mem_of_getElem? h2, List.find?_some h3⟩
  rw [this, decide_eq_true_eq]
  omega
/- slices.Grow[[][]byte,[]byte] -/
set_option maxRecDepth 100000 in
set_option maxHeartbeats 400000 in
theorem grow_R0 {n : Nat} (hn : n ≤ 10000000) : Triple Tryz.prog 318 [.v (.slice none 0 0), .int n] [] (Own 50 1 (([] : List BS).map rowC) []) := by
 refine triple_of Tryz.func318 rfl (by kernel_rfl) rfl (by simp) ?_
 refine aSeq ?_
 refine aReg ?_
 refine sp pMa ?_
 refine oNil ?_
 refine aSeq ?_
 refine aSeq ?_
 refine aReg ?_
 refine sp pM ?_
 refine sp (pBl (by exact pB) (show _ = false from decide_eq_false (by omega))) ?_
 refine oNil ?_
 refine aCondF rfl ?_
 refine aSkip ?_
 refine aSeq ?_
 refine aSeq ?_
 refine aWeak (weak_nil 50 1) ?_
 refine aReg ?_
 refine sp pM ?_
 refine sp pM ?_
 refine sp (pCap sl_177) ?_
 refine sp pM ?_
 refine sp (by first | exact pLm sl_177 | exact pLs sl_177 | exact pLv sl_177) ?_
 refine sp pSu ?_
 refine sp pSu ?_
 rw [show ((n : Int) - (((0 : Nat) : Int) - ((0 : Nat) : Int))) = (n : Int) by omega]
 refine sp pMa ?_
 refine oNil ?_
 refine aSeq ?_
 refine aReg ?_
 refine sp pM ?_
 refine sp pB ?_
 refine oNil ?_
 refine aCondDec rfl (fun c16 => ?_) (fun c16 => ?_)
 ·skip
  refine aReg ?_
  refine sp pM ?_
  refine sp pM ?_
  refine sp (pCap sl_177) ?_
  refine sp (pSlHi (g := none) (n := 0) (c := 0) rfl rfl es_177 (bdI rfl) (by omega)) ?_
  refine sp pM ?_
  refine sa ?_
  refine oAppNilZ (m := n) [.v (.slice none 0 0)] rfl rfl (by decide) rfl rfl (by repeat constructor) el_177 ik_3 ze_50 rfl rfl (fun F w j av x hj hx => by match j with | 0 => (simp at hj; simp [Value.cells] at hx; subst hj; subst hx; exact .v _) | j + 1 => simp at hj) (by omega) (by omega) (by omega) (fun g22 k22 => ?_)
  refine sp pM ?_
  refine sp (by first | exact pLm sl_177 | exact pLs sl_177 | exact pLv sl_177) ?_
  refine sp (pSlHi rfl rfl es_177 (bdI rfl) (by omega)) ?_
  refine sp pMa ?_
  refine oNil ?_
  refine aSeq ?_
  refine aReg ?_
  refine sp pM ?_
  refine sp pMa ?_
  refine oNil ?_
  refine aWeak (weak_cut 0 (by repeat constructor)) ?_
  refine aRet ?_
  refine finOwn rfl ?_
  simp
 ·skip
  refine aSkip ?_
  refine aSeq ?_
  refine aReg ?_
  refine sp pM ?_
  refine sp pMa ?_
  refine oNil ?_
  refine aWeak (weak_cut 0 (by repeat constructor)) ?_
  refine aRet ?_
  refine finOwn rfl ?_
  simp
/- slices.Concat[[][]byte,[]byte] -/
set_option maxRecDepth 100000 in
set_option maxHeartbeats 400000 in
theorem concat_R {l : List (List BS)} (hl : l.length ≤ 1000000 := by omega) (hb : l.flatten.length ≤ 1000000) : Triple Tryz.prog 254 [.sl 1 (l.map rwC)] [] (Own 50 1 (l.flatten.map rowC) []) := by
 refine triple_of Tryz.func254 rfl (by kernel_rfl) rfl (by simp) ?_
 refine aSeq ?_
 refine aReg ?_
 refine sp pMa ?_
 refine oNil ?_
 refine aSeq ?_
 refine aReg ?_
 refine sp pMa ?_
 refine oNil ?_
 refine aSeq ?_
 refine aSeq ?_
 refine aReg ?_
 refine sp pM ?_
 refine sp (by first | exact pLm sl_440 | exact pLs sl_440) ?_
 refine sp pM ?_
 refine oNil ?_
 refine aBlock ?_
 refine loopF (α := Nat) (kept := [(0, _), (9, _), (10, _)]) (fun i => i ≤ l.length) (fun i => [(11, .int i), (3, .int (l.take i).flatten.length)]) (fun i => []) (fun i => l.length - i) 0 ?_ ⟨gInt rfl (by first | rfl | omega | simp), gInt rfl (by first | rfl | (rw [catR_step hx, List.length_append]; omega)), rfl, rfl, rfl, trivial⟩ (by repeat constructor) ?_
 ·skip
  omega
 ·rintro i hi
  refine aSeq ?_
  refine aReg ?_
  refine sp pB ?_
  refine oNil ?_
  refine aSeq ?_
  refine aCondDec rfl (fun c12 => ?_) (fun c12 => ?_)
  ·skip
   refine aSkip ?_
   refine aSeq ?_
   refine aBlock ?_
   refine aSeq ?_
   obtain ⟨x, hx⟩ : ∃ z, l[i]? = some z := ⟨_, List.getElem?_eq_getElem (by omega)⟩
   have hcl := catR_len (i + 1) hb
   rw [catR_step hx, List.length_append] at hcl
   refine aReg ?_
   first | refine sp (pIx es_440) ?_ | (refine obtSN 9 11 rfl rfl (by omega) (fun x13 hx13 => ?_); refine sp (pIs es_440 hx13) ?_) | (refine obtS 9 11 rfl rfl (by omega) (by omega) (fun x13 hx13 => ?_); refine sp (pIs es_440 hx13) ?_) | refine sp (pIo es_440) ?_
   refine sr (rS1 ty_177) ?_
   refine sp pMa ?_
   refine oNil ?_
   refine aSeq ?_
   refine aReg ?_
   refine sp pM ?_
   refine sp pM ?_
   refine sp (by first | exact pLm sl_177 | exact pLs sl_177 | exact pLv sl_177) ?_
   refine sp pAd ?_
   refine sp pMa ?_
   refine oNil ?_
   refine aSeq ?_
   refine aReg ?_
   refine sp pM ?_
   refine sp (pBl (by exact pB) (show _ = false from decide_eq_false (by omega))) ?_
   refine oNil ?_
   refine aCondF rfl ?_
   refine aSkip ?_
   refine aReg ?_
   refine sp pAd ?_
   refine sp pM ?_
   refine oNil ?_
   refine ⟨i + 1, ?_, by (try dsimp only); omega, ⟨gInt rfl (by first | rfl | omega | simp), gInt rfl (by first | rfl | (rw [catR_step hx, List.length_append]; omega)), rfl, rfl, rfl, trivial⟩, _, (by repeat constructor)⟩
   omega
  ·skip
   refine aExit rfl ?_
   refine aSeq ?_
   have hcl := catR_len i hb
   refine aReg ?_
   refine sp pM ?_
   refine sa ?_
   first | refine coM rfl rfl rfl (grow_R0 (n := (l.take i).flatten.length) (by omega)) (fun g24 k24 => ?_) | refine co rfl rfl rfl (grow_R0 (n := (l.take i).flatten.length) (by omega)) (fun g24 k24 => ?_)
   refine sp pMa ?_
   refine oNil ?_
   refine aSeq ?_
   refine aSeq ?_
   refine aReg ?_
   refine sp pM ?_
   refine sp (by first | exact pLm sl_440 | exact pLs sl_440) ?_
   refine sp pM ?_
   refine oNil ?_
   refine aBlock ?_
   refine loopF (α := Nat × List BS × Option Nat × Nat) (kept := [(25, _), (26, _)]) (fun (i, out, g, c) => i ≤ l.length ∧ out = (l.take i).flatten) (fun (i, out, g, c) => [(27, .int i), (6, .v (slV g out.length c))]) (fun (i, out, g, c) => [.sl g c 50 1 (out.map rowC)]) (fun (i, out, g, c) => l.length - i) (0, [], _, _) ?_ ⟨gInt rfl (by first | rfl | omega | simp), gLen rfl (by first | rfl | simp | (simp; omega)), rfl, rfl, trivial⟩ (by repeat constructor) ?_
   ·skip
    exact ⟨by omega, rfl⟩
   ·rintro ⟨i, out, g, c⟩ ⟨hi, ho⟩
    refine aSeq ?_
    refine aReg ?_
    refine sp pB ?_
    refine oNil ?_
    refine aSeq ?_
    refine aCondDec rfl (fun c28 => ?_) (fun c28 => ?_)
    ·skip
     refine aSkip ?_
     refine aSeq ?_
     refine aBlock ?_
     refine aSeq ?_
     obtain ⟨x, hx⟩ : ∃ z, l[i]? = some z := ⟨_, List.getElem?_eq_getElem (by omega)⟩
     have hcl := catR_len (i + 1) hb
     rw [catR_step hx, List.length_append, ← ho] at hcl
     refine aReg ?_
     first | refine sp (pIx es_440) ?_ | (refine obtSN 25 27 rfl rfl (by omega) (fun x29 hx29 => ?_); refine sp (pIs es_440 hx29) ?_) | (refine obtS 25 27 rfl rfl (by omega) (by omega) (fun x29 hx29 => ?_); refine sp (pIs es_440 hx29) ?_) | refine sp (pIo es_440) ?_
     refine sr (rS1 ty_177) ?_
     refine sp pMa ?_
     refine oNil ?_
     refine aReg ?_
     refine sp pM ?_
     refine sp pM ?_
     refine sa ?_
     first | refine oAppT _ rfl rfl (by repeat constructor) (.inl rfl) el_177 sl_177 (fun g33 k33 => ?_) | refine oAppT _ rfl rfl (by repeat constructor) (srcOwn rfl (by repeat constructor) (by first | rfl | simp)) el_177 sl_177 (fun g33 k33 => ?_)
     refine sp pMa ?_
     refine oNil ?_
     refine aReg ?_
     refine sp pAd ?_
     refine sp pM ?_
     refine oNil ?_
     refine ⟨(i + 1, _, _, _), ?_, by (try dsimp only); omega, ⟨gInt rfl (by first | rfl | omega | simp), gLen rfl (by first | rfl | simp | (simp; omega)), rfl, rfl, trivial⟩, _, (by repeat constructor)⟩
     exact ⟨by omega, by rw [catR_step hx, ← ho]⟩
    ·skip
     refine aExit rfl ?_
     refine aSeq ?_
     refine aReg ?_
     refine sp pM ?_
     refine sp pMa ?_
     refine oNil ?_
     refine aRet ?_
     refine finOwn rfl ?_
     obtain rfl : i = l.length := by omega
     rw [ho, List.take_length]
/- slices.IndexFunc[[][]byte,[]byte] -/
set_option maxRecDepth 100000 in
set_option maxHeartbeats 400000 in
theorem index_R {f : FuncId} {caps : List AV} {p : BS → Bool} {l : List BS} (hf : ∀ x ∈ l, Triple Tryz.prog f ([bsA x] ++ caps) [] (Is (.v (.bool (p x))) [])) (hl : l.length ≤ 1000000) : Triple Tryz.prog 317 [.sl 1 (l.map rowC), .fn (.func f) caps] [] (Is (.v (.int .i64 (idxF p l))) []) := by
 refine triple_of Tryz.func317 rfl (by kernel_rfl) rfl (by simp) ?_
 refine aSeq ?_
 refine aReg ?_
 refine sp pMa ?_
 refine oNil ?_
 refine aSeq ?_
 refine aSeq ?_
 refine aReg ?_
 refine sp pM ?_
 refine sp (by first | exact pLm sl_177 | exact pLs sl_177) ?_
 refine sp pM ?_
 refine oNil ?_
 refine aBlock ?_
 refine loopF (α := Nat) (kept := [(0, _), (1, _), (7, _)]) (fun i => i ≤ l.length ∧ ∀ y ∈ l.take i, p y = false) (fun i => [(8, .int i)]) (fun i => []) (fun i => l.length - i) 0 ?_ ⟨gInt rfl (by first | rfl | omega | simp), rfl, rfl, rfl, trivial⟩ (by repeat constructor) ?_
 ·skip
  exact ⟨by omega, fun y hy => by simp at hy⟩
 ·rintro i ⟨hi, hv⟩
  refine aSeq ?_
  refine aReg ?_
  refine sp pB ?_
  refine oNil ?_
  refine aSeq ?_
  refine aCondDec rfl (fun c9 => ?_) (fun c9 => ?_)
  ·skip
   refine aSkip ?_
   refine aSeq ?_
   refine aBlock ?_
   refine aSeq ?_
   refine aReg ?_
   refine sp pM ?_
   refine sp pMa ?_
   refine oNil ?_
   refine aSeq ?_
   obtain ⟨x, hx⟩ : ∃ x, l[i]? = some x := ⟨_, List.getElem?_eq_getElem (by omega)⟩
   refine aReg ?_
   refine sp pM ?_
   refine sp pM ?_
   refine sp pM ?_
   first | refine sp (pIx es_177) ?_ | (refine obtSN 12 13 rfl rfl (by omega) (fun x14 hx14 => ?_); refine sp (pIs es_177 hx14) ?_) | (refine obtS 12 13 rfl rfl (by omega) (by omega) (fun x14 hx14 => ?_); refine sp (pIs es_177 hx14) ?_) | refine sp (pIo es_177) ?_
   refine sr (rS1 ty_50) ?_
   refine sq ?_
   refine cv rfl rfl rfl (lents_refl _) (hf x (List.mem_of_getElem? hx)) ?_
   refine oNil ?_
   refine aCond rfl (fun c16 => ?_) (fun c16 => ?_)
   ·skip
    refine aSeq ?_
    refine aReg ?_
    refine sp pM ?_
    refine sp pMa ?_
    refine oNil ?_
    refine aRet ?_
    refine finIs rfl ?_
    show AV.int _ = AV.int _
    rw [(idxF_at hv hx (by simp_all)).1]
   ·skip
    refine aSkip ?_
    refine aReg ?_
    refine sp pAd ?_
    refine sp pM ?_
    refine oNil ?_
    refine ⟨i + 1, ?_, by (try dsimp only); omega, ⟨gInt rfl (by first | rfl | omega | simp), rfl, rfl, rfl, trivial⟩, _, (by repeat constructor)⟩
    refine ⟨by omega, fun y hy => ?_⟩
    rw [take_step hx] at hy
    rcases List.mem_append.1 hy with hy | hy
    ·exact hv y hy
    ·rw [List.mem_singleton.1 hy]; simp_all
  ·skip
   refine aExit rfl ?_
   refine aSeq ?_
   refine aReg ?_
   refine sp pMa ?_
   refine oNil ?_
   refine aRet ?_
   refine finIs rfl ?_
   show AV.int _ = AV.int _
   rw [take_all (by omega)] at hv
   rw [(idxF_no hv).1]
/- slices.ContainsFunc[[][]byte,[]byte] -/
set_option maxRecDepth 100000 in
set_option maxHeartbeats 400000 in
theorem contains_R {f : FuncId} {caps : List AV} {p : BS → Bool} {l : List BS} (hf : ∀ x ∈ l, Triple Tryz.prog f ([bsA x] ++ caps) [] (Is (.v (.bool (p x))) [])) (hl : l.length ≤ 1000000) : Triple Tryz.prog 253 [.sl 1 (l.map rowC), .fn (.func f) caps] [] (Is (.v (.bool (l.any p))) []) := by
 refine triple_of Tryz.func253 rfl (by kernel_rfl) rfl (by simp) ?_
 refine aSeq ?_
 refine aReg ?_
 refine sp pMa ?_
 refine oNil ?_
 refine aSeq ?_
 refine aReg ?_
 refine sp pM ?_
 refine sp pM ?_
 refine sq ?_
 refine cv rfl rfl rfl (lents_refl _) (index_R hf hl) ?_
 refine sp pB ?_
 refine sp pMa ?_
 refine oNil ?_
 refine aRet ?_
 refine finIs rfl ?_
 rw [← anyR_idx]
 rfl
/- wal.fresh$1 -/
set_option maxRecDepth 100000 in
set_option maxHeartbeats 400000 in
theorem wal_fresh1 {b : BS} (hb : b.length ≤ 1000000 := by omega) : Triple Tryz.prog 255 [bsA b] [] (Is (.v (.bool (!blankB b))) []) := by
 refine triple_of Tryz.func255 rfl (by kernel_rfl) rfl (by simp) ?_
 refine aSeq ?_
 refine aReg ?_
 refine sp pMa ?_
 refine oNil ?_
 refine aSeq ?_
 refine aReg ?_
 refine sp pM ?_
 refine sq ?_
 refine cv rfl rfl rfl (lents_refl _) (pg_Blank hb) ?_
 refine sp pNo ?_
 refine sp pMa ?_
 refine oNil ?_
 refine aRet ?_
 refine finIs rfl ?_
 simp [retOf]
/- wal.fresh -/
def wal_fresh_r2_T : Bool × List (List Nat × List Nat) := (true, [([], []), ([], []), ([0, 1], [0, 1]), ([], []), ([], []), ([3, 4], [3, 4]), ([2, 5], [2, 5]), ([6], [6]), ([7, 7], [7]), ([8], [8]), ([9, 8, 0, 1, 2, 3, 4, 5, 6, 7, 8, 9], [9])])
def wal_fresh_r2_B : List Nat := [0, 0, 3, 0, 0, 24, 63, 127, 255, 511, 1023]
theorem wal_fresh_r2_t : Go.Proofs.YthkgdhamnpiagaaGreatW.PrintLast.rtab .any (Go.Proofs.YthkgdhamnpiagaaGreatW.PrintLast.opsOf Tryz.f158 2) = wal_fresh_r2_T := by kernel_rfl
theorem wal_fresh_r2_b : Go.Proofs.YthkgdhamnpiagaaGreatW.PrintLast.waitsOk wal_fresh_r2_T.2 wal_fresh_r2_B = true := by kernel_rfl
set_option maxRecDepth 100000 in
set_option maxHeartbeats 400000 in
theorem wal_fresh {p : Plt} {l : List BS} (h : PltOk p l.length) (hb : ∀ s ∈ l, s.length ≤ 900000) : Triple Tryz.prog 158 [.agg (pltC p), .sl 1 (l.map rowC)] [] (Is (.v (.bool (freshB p l))) []) := by
 have hf := h.f
 have hsf := slotFr_rng h (g := 1) (by decide)
 have hh1 := h.h1
 have hh2 := h.h2
 obtain ⟨A, hA⟩ : ∃ z, l.take (slotFr p 1).toNat = z := ⟨_, rfl⟩
 obtain ⟨B, hB⟩ : ∃ z, l.drop (slotFr p 1 + p.slot).toNat = z := ⟨_, rfl⟩
 have hAl : A.length ≤ l.length := by rw [← hA, List.length_take]; omega
 have hBl : B.length ≤ l.length := by rw [← hB, List.length_drop]; omega
 have hAB : ∀ s ∈ A ++ B, s ∈ l := fun s hs => by
   rcases List.mem_append.1 hs with hs | hs
   ·exact List.mem_of_mem_take (by rw [hA]; exact hs)
   ·exact List.mem_of_mem_drop (by rw [hB]; exact hs)
 have hfr : freshB p l = (A ++ B).all blankB := by unfold freshB; rw [hA, hB]
 refine triple_of Tryz.func158 rfl (by kernel_rfl) rfl (by simp) ?_
 refine aSeq ?_
 refine aReg ?_
 refine sq ?_
 refine qBox rfl rfl (by decide) rfl rfl (fun b2 => ?_)
 refine sp pMa ?_
 refine oNil ?_
 refine aSeq ?_
 refine aReg ?_
 refine sr (by first | exact rBWa ty_272 | exact rBW ty_272 | exact rBA ty_272) ?_
 refine sq ?_
 refine ci rfl rfl rfl (plot_Slot h (gen := 1) (by decide)) ?_
 refine sp pM ?_
 refine sp pX ?_
 refine sp pX ?_
 refine sp pMa ?_
 refine sp pMa ?_
 refine oNil ?_
 refine aSeq ?_
 refine aDrawT wal_fresh_r2_t wal_fresh_r2_b [] 11 #[false, false, false, false, false, false, false, false, false, false, false] (by kernel_rfl) rfl rfl (fun HT => ?_)
 refine dp HT 0 rfl pM ?_
 refine dp HT 1 rfl pM ?_
 refine dp HT 2 rfl (pSlice rfl rfl es_177 (bdN rfl) (bdE (N := 0) (m := (slotFr p 1).toNat) rfl (by omega)) (by first | omega | (simp only [List.length_map]; omega)) (by first | omega | (simp only [List.length_map]; omega))) ?_
 rw [show ((l.map rowC).drop 0).take ((slotFr p 1).toNat - 0) = A.map rowC by rw [List.drop_zero, Nat.sub_zero, ← List.map_take, hA]]
 refine dp HT 3 rfl pM ?_
 refine dp HT 4 rfl pM ?_
 refine dp HT 5 rfl (pSlice rfl rfl es_177 (bdE (N := 0) (m := (slotFr p 1 + p.slot).toNat) rfl (by omega)) (bdN rfl) (by first | omega | (simp only [List.length_map]; omega)) (by first | omega | (simp only [List.length_map]; omega))) ?_
 rw [show ((l.map rowC).drop (slotFr p 1 + p.slot).toNat).take ((l.map rowC).length - (slotFr p 1 + p.slot).toNat) = B.map rowC by rw [← List.map_drop, hB, List.take_of_length_le]; rw [List.length_map, List.length_map, ← hB, List.length_drop]; omega]
 refine dGo ?_
 refine e1 HT 6 rfl ?_
 refine qLit (l := [_, _]) rfl rfl (by decide) us_440 ty_177 ze_177 rfl (by decide) (by decide) rfl rfl rfl (fun b18 => ?_)
 refine eWeak (weak_settle (k := 18) rfl (by repeat constructor) (by first | (simp; done) | rfl)) (fun b hb => by simp [owns, HA.own] at hb ⊢; first | (rcases hb with h | h | h | h <;> simp [h]; done) | (rcases hb with h | h | h <;> simp [h]; done) | (rcases hb with h | h <;> simp [h]; done) | (simp [hb]; done)) ?_
 refine eOneS (i := 7) #[true, true, true, true, true, true, true, true, false, false, false] rfl (HT.one (by kernel_rfl)) (by decide) ?_
 ·skip
  refine stA (hx := []) (wantN rfl) (fun t ht => by cases ht <;> decide) .nil (by repeat constructor) ?_
  first | refine coM rfl rfl rfl (concat_R (l := [A, B]) (by simp) (by simp only [List.flatten_cons, List.flatten_nil, List.append_nil, List.length_append]; omega)) (fun g19 k19 => ?_) | refine co rfl rfl rfl (concat_R (l := [A, B]) (by simp) (by simp only [List.flatten_cons, List.flatten_nil, List.append_nil, List.length_append]; omega)) (fun g19 k19 => ?_)
  refine eWeak (weak_settle (k := 19) rfl (by repeat constructor) (by first | (simp; done) | rfl)) (fun b hb => by simp [owns, HA.own] at hb ⊢; first | (rcases hb with h | h | h | h <;> simp [h]; done) | (rcases hb with h | h | h <;> simp [h]; done) | (rcases hb with h | h <;> simp [h]; done) | (simp [hb]; done)) ?_
  refine undel (d := 19) rfl ?_
  try dsimp only [List.cons_append, List.nil_append]
  rw [show [A, B].flatten = A ++ B by simp]
  refine e1 HT 8 rfl ?_
  refine cv rfl rfl rfl (lents_refl _) (contains_R (f := 255) (caps := []) (p := fun b => !blankB b) (l := A ++ B) (fun x hx => wal_fresh1 (by have := hb x (hAB x hx); omega)) (by rw [List.length_append]; omega)) ?_
  refine ef HT 9 rfl pNo ?_
  refine ePure (i := 10) #[true, true, true, true, true, true, true, true, true, true, true] rfl rfl rfl (HT.any (by kernel_rfl)) (by exact pMa) (by decide) ?_
  refine eE HT ?_
  clear HT
  refine aRet ?_
  refine finIs rfl ?_
  rw [hfr]
  simp [retOf, List.all_eq_not_any_not]
end A
end Go.Proofs.YthkgdhamnpiagaaGreat
namespace Go.Proofs.YthkgdhamnpiagaaGreat
namespace A
theorem fd_279_0 : fieldOf Tryz.prog 279 0 = some (0, 1, false) := by kernel_rfl
theorem fd_279_1 : fieldOf Tryz.prog 279 1 = some (1, 3, true) := by kernel_rfl
theorem fd_279_4 : fieldOf Tryz.prog 279 4 = some (6, 1, false) := by kernel_rfl
theorem fd_279_5 : fieldOf Tryz.prog 279 5 = some (7, 1, false) := by kernel_rfl
theorem pt_176 : isPtrT Tryz.prog 176 = true := by kernel_rfl
theorem ty_25 : tyOf Tryz.prog 25 = some (1, false) := by kernel_rfl
def wsC (db : Nat) (W : WS) : List AV := [.v (.pointer (some ⟨db, 0, none⟩)), .int W.p.slot, .int W.p.fr, .int W.p.log, .int W.gen, .int W.mark, .int W.next, .v (.bool W.broken)]
/- wal.Wal).is -/
set_option maxRecDepth 100000 in
set_option maxHeartbeats 400000 in
theorem wal_is {wb db : Nat} {V : WS} : Triple Tryz.prog 174 [.v (.pointer (some ⟨wb, 0, none⟩))] [HA.box wb (wsC db V)] (Is (.v (.bool (!V.broken))) [HA.box wb (wsC db V)]) := by
 refine triple_of Tryz.func174 rfl (by kernel_rfl) rfl (by simp) ?_
 refine aSeq ?_
 refine aReg ?_
 refine sp pMa ?_
 refine oNil ?_
 refine aSeq ?_
 refine aReg ?_
 refine sp pM ?_
 refine sp (by first | exact pPtrNil rfl (.inr rfl) rfl pt_176 rfl rfl | exact pSpNil rfl (.inr rfl) rfl pt_176 rfl) ?_
 refine sp pM ?_
 refine gp pM ?_
 refine gp pNv ?_
 refine gp (pFb fd_279_0) ?_
 refine gr (rB1 ty_25) ?_
 refine gp (by first | exact pPtrNil rfl (.inr rfl) rfl pt_25 rfl rfl | exact pSpNil rfl (.inr rfl) rfl pt_25 rfl) ?_
 refine sp pK ?_
 refine sp pM ?_
 refine gp pM ?_
 refine gp pNv ?_
 refine gp (pFb fd_279_5) ?_
 refine gr (rB1 ty_4) ?_
 refine gp pNo ?_
 refine sp pK ?_
 refine sp pMa ?_
 refine oNil ?_
 refine aRet ?_
 refine finIs rfl ?_
 rfl
/- wal.Wal).Free -/
def wal_Free_r3_T : Bool × List (List Nat × List Nat) := (true, [([], []), ([0], [0]), ([1], [1]), ([2], [2]), ([3], [3]), ([], []), ([5], [5]), ([6], [6]), ([7], [7]), ([4, 8], [4, 8]), ([9, 0, 1, 2, 3, 4, 5, 6, 7, 8, 9], [9])])
def wal_Free_r3_B : List Nat := [0, 1, 3, 7, 15, 0, 32, 96, 224, 511, 1023]
theorem wal_Free_r3_t : Go.Proofs.YthkgdhamnpiagaaGreatW.PrintLast.rtab .any (Go.Proofs.YthkgdhamnpiagaaGreatW.PrintLast.opsOf Tryz.f176 3) = wal_Free_r3_T := by kernel_rfl
theorem wal_Free_r3_b : Go.Proofs.YthkgdhamnpiagaaGreatW.PrintLast.waitsOk wal_Free_r3_T.2 wal_Free_r3_B = true := by kernel_rfl
set_option maxRecDepth 100000 in
set_option maxHeartbeats 400000 in
theorem wal_Free {wb db : Nat} {V : WS} (h1 : 0 ≤ V.p.log ∧ V.p.log ≤ 100000) (h2 : 0 ≤ V.next ∧ V.next ≤ 100000) : Triple Tryz.prog 176 [.v (.pointer (some ⟨wb, 0, none⟩))] [HA.box wb (wsC db V)] (Is (.int (V.p.log - V.next)) [HA.box wb (wsC db V)]) := by
 refine triple_of Tryz.func176 rfl (by kernel_rfl) rfl (by simp) ?_
 refine aSeq ?_
 refine aReg ?_
 refine sp pMa ?_
 refine oNil ?_
 refine aSeq ?_
 refine aSeq ?_
 refine aReg ?_
 refine sp pM ?_
 refine sp (by first | exact pPtrNil rfl (.inl rfl) rfl pt_176 rfl rfl | exact pSpNil rfl (.inl rfl) rfl pt_176 rfl) ?_
 refine oNil ?_
 refine aCondF rfl ?_
 refine aSkip ?_
 refine aSeq ?_
 refine aDrawT wal_Free_r3_t wal_Free_r3_b [] 11 #[false, false, false, false, false, false, false, false, false, false, false] (by kernel_rfl) rfl rfl (fun HT => ?_)
 refine dp HT 0 rfl pM ?_
 refine dp HT 1 rfl pNv ?_
 refine dp HT 2 rfl (pFb fd_279_1) ?_
 refine dp HT 3 rfl (pFb fd_272_2) ?_
 refine dr HT 4 rfl (rB1 ty_3) ?_
 refine dp HT 5 rfl pM ?_
 refine dp HT 6 rfl pNv ?_
 refine dp HT 7 rfl (pFb fd_279_4) ?_
 refine dr HT 8 rfl (rB1 ty_3) ?_
 refine dp HT 9 rfl pSu ?_
 refine dp HT 10 rfl pMa ?_
 refine dE HT ?_
 clear HT
 refine aRet ?_
 refine finIs rfl ?_
 rfl
/- wal.Wal).Broken -/
set_option maxRecDepth 100000 in
set_option maxHeartbeats 400000 in
theorem wal_Broken {wb db : Nat} {V : WS} : Triple Tryz.prog 167 [.v (.pointer (some ⟨wb, 0, none⟩))] [HA.box wb (wsC db V)] (Is (.v (.bool V.broken)) [HA.box wb (wsC db V)]) := by
 refine triple_of Tryz.func167 rfl (by kernel_rfl) rfl (by simp) ?_
 refine aSeq ?_
 refine aReg ?_
 refine sp pMa ?_
 refine oNil ?_
 refine aSeq ?_
 refine aReg ?_
 refine sp pM ?_
 refine sp (by first | exact pPtrNil rfl (.inl rfl) rfl pt_176 rfl rfl | exact pSpNil rfl (.inl rfl) rfl pt_176 rfl) ?_
 refine sp pM ?_
 refine gp pM ?_
 refine gp pNv ?_
 refine gp (pFb fd_279_0) ?_
 refine gr (rB1 ty_25) ?_
 refine gp (by first | exact pPtrNil rfl (.inl rfl) rfl pt_25 rfl rfl | exact pSpNil rfl (.inl rfl) rfl pt_25 rfl) ?_
 refine sp pK ?_
 refine sp pM ?_
 refine gp pM ?_
 refine gp pNv ?_
 refine gp (pFb fd_279_5) ?_
 refine gr (rB1 ty_4) ?_
 refine sp pK ?_
 refine sp pMa ?_
 refine oNil ?_
 refine aRet ?_
 refine finIs rfl ?_
 rfl
theorem writeAll_step {D : DW} {fr : Int} {l : List BS} {i : Nat} {b : BS} (h : l[i]? = some b) : writeAll D (fr + i) (l.drop i) = if (D.write (fr + i) b).2 = 0 then writeAll (D.write (fr + i) b).1 (fr + (i + 1 : Nat)) (l.drop (i + 1)) else D.write (fr + i) b := by
 rw [drop_step h, writeAll, show fr + (i : Int) + 1 = fr + (i + 1 : Nat) by omega]
/- wal.Wal).write -/
set_option maxRecDepth 100000 in
set_option maxHeartbeats 2000000 in
theorem wal_write {wb db bs bw n : Nat} {V : WS} {fr : Int} {l : List BS} {S W : List (Int × BS)} {D : DW} (r : Rel n S W D) (hl : l.length ≤ 100000) (hf : 0 ≤ fr ∧ fr ≤ 100000) : Triple Tryz.prog 178 [.v (.pointer (some ⟨wb, 0, none⟩)), .int fr, .sl 1 (l.map rowC)] (HA.box wb (wsC db V) :: [.box db [.int n, .v (.map (some bs)), .v (.map (some bw)), .int D.armed, .v (.bool D.dead)], .map bs (kvA S), .map bw (kvA W)]) (fun q h' => q = .int (writeAll D fr l).2 ∧ ∃ S' W', Rel n S' W' (writeAll D fr l).1 ∧ h' = HA.box wb (wsC db { V with broken := decide ((writeAll D fr l).2 ≠ 0) }) :: [.box db [.int n, .v (.map (some bs)), .v (.map (some bw)), .int (writeAll D fr l).1.armed, .v (.bool (writeAll D fr l).1.dead)], .map bs (kvA S'), .map bw (kvA W')]) := by
 refine triple_of Tryz.func178 rfl (by kernel_rfl) rfl (by simp) ?_
 refine aSeq ?_
 refine aReg ?_
 refine sp pMa ?_
 refine oNil ?_
 refine aSeq ?_
 refine aSeq ?_
 refine aReg ?_
 refine sp pM ?_
 refine sp (by first | exact pLm sl_177 | exact pLs sl_177) ?_
 refine sp pM ?_
 refine oNil ?_
 refine aBlock ?_
 refine loopF (α := Nat × List (Int × BS) × DW) (kept := [(0, _), (1, _), (11, _), (12, _)]) (fun (i, X, E) => i ≤ l.length ∧ Rel n S X E ∧ writeAll D fr l = writeAll E (fr + i) (l.drop i)) (fun (i, X, E) => [(13, .int i)]) (fun (i, X, E) => (HA.box wb (wsC db V) :: [.box db [.int n, .v (.map (some bs)), .v (.map (some bw)), .int E.armed, .v (.bool E.dead)], .map bs (kvA S), .map bw (kvA X)])) (fun (i, X, E) => l.length - i) (0, W, D) ?_ ⟨gInt rfl (by first | rfl | omega | simp), rfl, rfl, rfl, rfl, trivial⟩ (by repeat constructor) ?_
 ·skip
  exact ⟨by omega, r, by simp⟩
 ·rintro ⟨i, X, E⟩ ⟨hi, re, he⟩
  refine aSeq ?_
  refine aReg ?_
  refine sp pB ?_
  refine oNil ?_
  refine aSeq ?_
  refine aCondDec rfl (fun c14 => ?_) (fun c14 => ?_)
  ·skip
   refine aSkip ?_
   refine aSeq ?_
   refine aBlock ?_
   refine aSeq ?_
   obtain ⟨x, hx⟩ : ∃ z, l[i]? = some z := ⟨_, List.getElem?_eq_getElem (by omega)⟩
   rw [writeAll_step hx] at he
   refine aReg ?_
   refine sp pM ?_
   first | refine sp (pIx es_177) ?_ | (refine obtSN 11 13 rfl rfl (by omega) (fun x16 hx16 => ?_); refine sp (pIs es_177 hx16) ?_) | (refine obtS 11 13 rfl rfl (by omega) (by omega) (fun x16 hx16 => ?_); refine sp (pIs es_177 hx16) ?_) | refine sp (pIo es_177) ?_
   refine sr (rS1 ty_50) ?_
   refine sp pMa ?_
   refine sp pMa ?_
   refine oNil ?_
   refine aSeq ?_
   refine aReg ?_
   refine sp pM ?_
   refine sp pNv ?_
   refine sp (pFb fd_279_0) ?_
   refine sr (rB1 ty_25) ?_
   refine sp pM ?_
   refine sp pM ?_
   refine sp pAd ?_
   refine sp pM ?_
   refine sa ?_
   refine ca rfl rfl rfl (disk_Write db bs bw n (fr + i) x S X E re) ?_
   rintro _ _ ⟨rfl, X2, re2, rfl⟩
   refine sp pMa ?_
   refine oNil ?_
   refine aSeq ?_
   refine aReg ?_
   refine sp pM ?_
   refine sp pB ?_
   refine oNil ?_
   refine aCondNe rfl (fun c28 => ?_) (fun c28 => ?_)
   ·skip
    refine aSeq ?_
    refine aReg ?_
    refine sp pM ?_
    refine sp pNv ?_
    refine sp (pFb fd_279_5) ?_
    refine sa ?_
    refine oStB rfl rfl rfl rfl (by repeat constructor) ty_4 rfl (Nat.le_of_ble_eq_true rfl) rfl ?_
    refine oNil ?_
    refine aSeq ?_
    refine aReg ?_
    refine sp pM ?_
    refine sp pMa ?_
    refine oNil ?_
    have hn : (E.write (fr + i) x).2 ≠ 0 := by simp_all
    rw [if_neg hn] at he
    refine aRet ?_
    rw [he, decide_eq_true hn]
    exact ⟨_, [_, _, _, _], [], rfl, tk_refl, rfl, S, X2, re2, rfl⟩
   ·skip
    refine aSkip ?_
    refine aReg ?_
    refine sp pAd ?_
    refine sp pM ?_
    refine oNil ?_
    refine ⟨(i + 1, X2, (E.write (fr + i) x).1), ?_, by (try dsimp only); omega, ⟨gInt rfl (by first | rfl | omega | simp), rfl, rfl, rfl, rfl, trivial⟩, _, (by repeat constructor)⟩
    exact ⟨by omega, re2, by rw [he, if_pos (by simp_all)]⟩
  ·skip
   refine aExit rfl ?_
   refine aSeq ?_
   refine aReg ?_
   refine sp pM ?_
   refine sp pNv ?_
   refine sp (pFb fd_279_0) ?_
   refine sr (rB1 ty_25) ?_
   refine sa ?_
   refine ca rfl rfl rfl (disk_Flush db bs bw n S X E re) ?_
   rintro _ _ ⟨rfl, S2, X2, re2, rfl⟩
   refine sp pMa ?_
   refine oNil ?_
   refine aSeq ?_
   refine aReg ?_
   refine sp pM ?_
   refine sp pM ?_
   refine sp pB ?_
   refine sp pNv ?_
   refine sp (pFb fd_279_5) ?_
   refine sa ?_
   refine oStB rfl rfl rfl rfl (by repeat constructor) ty_4 rfl (Nat.le_of_ble_eq_true rfl) rfl ?_
   refine oNil ?_
   refine aSeq ?_
   refine aReg ?_
   refine sp pM ?_
   refine sp pMa ?_
   refine oNil ?_
   obtain rfl : i = l.length := by omega
   rw [List.drop_length] at he
   replace he : writeAll D fr l = E.flush := he
   refine aRet ?_
   rw [he, show decide (E.flush.2 ≠ 0) = (E.flush.2 != 0) by rw [bne, Bool.eq_iff_iff]; simp]
   exact ⟨_, [_, _, _, _], [], rfl, tk_refl, rfl, S2, X2, re2, rfl⟩
end A
end Go.Proofs.YthkgdhamnpiagaaGreat
namespace Go.Proofs.YthkgdhamnpiagaaGreat
namespace A
theorem fd_279_2 : fieldOf Tryz.prog 279 2 = some (4, 1, false) := by kernel_rfl
theorem fd_279_3 : fieldOf Tryz.prog 279 3 = some (5, 1, false) := by kernel_rfl
theorem slot_Sectors {x : Bs} {mark most : Int} (hb : x.b.length ≤ 900000) (hk : BOk x.b) : Triple Tryz.prog 258 [.agg (bsC x), .int mark, .int most] [] (Is (.tup [.sl 1 ((sectR x mark most).map rowC), .int (sectE x mark most)]) []) :=
 (slot_SectorsO (x := x) (mark := mark) (most := most) hb hk).deep fun q h' ⟨g, c, hq, hh⟩ => ⟨_, [.sl g c 50 1 ((sectR x mark most).map rowC)], [], by subst hh; exact .cons .hd .nil, by subst hq; exact .tup (.sl List.mem_cons_self (by rw [List.length_map]) Deep.refl (.same (.row .nil))) (.row .nil), rfl, rfl⟩
theorem sectR_len (x : Bs) (mark most : Int) : (sectR x mark most).length ≤ 16 := by
 unfold sectR
 split
 ·unfold sectL splitL
  have := partsN_rng x.b.length
  rw [List.length_map, List.length_map, List.length_range]
  omega
 ·simp
/-- What a log's numbers are. -/
structure WOk (V : WS) (n : Nat) : Prop where
 p : PltOk V.p n
 g0 : 0 ≤ V.gen
 g1 : V.gen ≤ 2147483648
 x0 : 0 ≤ V.next
 x1 : V.next ≤ V.p.log
theorem dCast {P : Program} {N : Nat} {env : Env} {h : List HA} {K : Cont} {X : List (Nat × Cont)} {Rt : Cont} {ops : Array Oper} {ds : List Nat} {n : Nat} {l : Array Bool} {k : Nat} {a b : AV} (hk : get env k = some a) (hc : Cast a b) (h1 : ADraw P N ops ds n l ((k, b) :: env) h K X Rt) : ADraw P N ops ds n l env h K X Rt := by
 intro B F x w s e d
 refine h1 B F x w ⟨s.r, s.size, fun j av hj => ?_⟩ e d
 simp only [A.get] at hj
 by_cases e : k = j
 ·subst e
  have : Nat.beq k k = true := by simp
  rw [this] at hj
  simp only [cond_true, Option.some.injEq] at hj
  subst hj
  exact hc F w _ (s.env k a hk)
 ·rw [beq_no e] at hj
  exact s.env j av hj
/- wal.Wal).Turn -/
def wal_Turn_r3_T : Bool × List (List Nat × List Nat) := (true, [([], []), ([0], [0]), ([1], [1]), ([2], [2]), ([3, 2], [3]), ([4], [4]), ([5, 4], [4, 5]), ([6, 4, 4], [4, 6]), ([4], [4]), ([8, 4], [4, 8]), ([9, 4], [4, 9]), ([10, 4], [4, 10]), ([11, 4], [4, 11]), ([7, 12, 4], [4, 7, 12]), ([4, 13], [4, 13]), ([14, 7], [14])])
def wal_Turn_r3_B : List Nat := [0, 1, 3, 7, 15, 31, 63, 127, 31, 287, 799, 1823, 3871, 8191, 16383, 32767]
theorem wal_Turn_r3_t : Go.Proofs.YthkgdhamnpiagaaGreatW.PrintLast.rtab .any (Go.Proofs.YthkgdhamnpiagaaGreatW.PrintLast.opsOf Tryz.f159 3) = wal_Turn_r3_T := by kernel_rfl
theorem wal_Turn_r3_b : Go.Proofs.YthkgdhamnpiagaaGreatW.PrintLast.waitsOk wal_Turn_r3_T.2 wal_Turn_r3_B = true := by kernel_rfl
def wal_Turn_r7_T : Bool × List (List Nat × List Nat) := (true, [([], []), ([0], [0]), ([1], [1]), ([2], [2]), ([3], [3]), ([], []), ([4, 5], [4, 5]), ([], []), ([7], [7]), ([8], [8]), ([9], [9]), ([], []), ([11], [11]), ([12], [12]), ([13], [13]), ([14], [14]), ([6, 10, 15], [6, 10, 15]), ([16], [16]), ([17], [17]), ([17], [17]), ([18, 16, 0, 1, 2, 3, 4, 5, 6, 7, 8, 9, 10, 11, 12, 13, 14, 15, 16, 17, 18], [18]), ([19, 20, 0, 1, 2, 3, 4, 5, 6, 7, 8, 9, 10, 11, 12, 13, 14, 15, 16, 17, 18, 19, 20], [19])])
def wal_Turn_r7_B : List Nat := [0, 1, 3, 7, 15, 0, 63, 0, 128, 384, 896, 0, 2048, 6144, 14336, 30720, 65535, 131071, 262143, 262143, 524287, 2097151]
theorem wal_Turn_r7_t : Go.Proofs.YthkgdhamnpiagaaGreatW.PrintLast.rtab .any (Go.Proofs.YthkgdhamnpiagaaGreatW.PrintLast.opsOf Tryz.f159 7) = wal_Turn_r7_T := by kernel_rfl
theorem wal_Turn_r7_b : Go.Proofs.YthkgdhamnpiagaaGreatW.PrintLast.waitsOk wal_Turn_r7_T.2 wal_Turn_r7_B = true := by kernel_rfl
def wal_Turn_r10_T : Bool × List (List Nat × List Nat) := (true, [([], []), ([0], [0]), ([1], [1]), ([2], [2]), ([], []), ([4], [4]), ([5], [5]), ([6], [6]), ([7], [7]), ([3, 8], [3, 8]), ([9], [9]), ([10], [10]), ([10], [10]), ([11, 9, 0, 1, 2, 3, 4, 5, 6, 7, 8, 9, 10, 11], [11]), ([12, 13, 0, 1, 2, 3, 4, 5, 6, 7, 8, 9, 10, 11, 12, 13], [12])])
def wal_Turn_r10_B : List Nat := [0, 1, 3, 7, 0, 16, 48, 112, 240, 511, 1023, 2047, 2047, 4095, 16383]
theorem wal_Turn_r10_t : Go.Proofs.YthkgdhamnpiagaaGreatW.PrintLast.rtab .any (Go.Proofs.YthkgdhamnpiagaaGreatW.PrintLast.opsOf Tryz.f159 10) = wal_Turn_r10_T := by kernel_rfl
theorem wal_Turn_r10_b : Go.Proofs.YthkgdhamnpiagaaGreatW.PrintLast.waitsOk wal_Turn_r10_T.2 wal_Turn_r10_B = true := by kernel_rfl
set_option maxRecDepth 100000 in
set_option maxHeartbeats 2000000 in
theorem wal_Turn {wb db bs bw n : Nat} {V : WS} {b : BS} {S W : List (Int × BS)} {D : DW} (r : Rel n S W D) (o : WOk V n) (hb : b.length ≤ 900000) (hk : BOk b) : Triple Tryz.prog 159 [.v (.pointer (some ⟨wb, 0, none⟩)), bsA b] (HA.box wb (wsC db V) :: [.box db [.int n, .v (.map (some bs)), .v (.map (some bw)), .int D.armed, .v (.bool D.dead)], .map bs (kvA S), .map bw (kvA W)]) (fun q h' => q = .int (V.turn D b).2.2 ∧ ∃ S' W', Rel n S' W' (V.turn D b).2.1 ∧ h' = HA.box wb (wsC db (V.turn D b).1) :: [.box db [.int n, .v (.map (some bs)), .v (.map (some bw)), .int (V.turn D b).2.1.armed, .v (.bool (V.turn D b).2.1.dead)], .map bs (kvA S'), .map bw (kvA W')]) := by
 have hpf := o.p.f
 have hp1 := o.p.h1
 have hp2 := o.p.h2
 have hg0 := o.g0
 have hg1 := o.g1
 have hsl := sectR_len ⟨V.gen + 1, b⟩ V.mark V.p.slot
 refine triple_of Tryz.func159 rfl (by kernel_rfl) rfl (by simp) ?_
 refine aSeq ?_
 refine aReg ?_
 refine sp pMa ?_
 refine oNil ?_
 refine aSeq ?_
 refine aBlock ?_
 refine aSeq ?_
 refine aReg ?_
 refine sp pM ?_
 refine sa ?_
 refine cai rfl rfl rfl (wal_is (wb := wb) (db := db) (V := V)) ?_
 refine sp pNo ?_
 refine sp pMa ?_
 refine oNil ?_
 refine aCondNot rfl (fun c10 => ?_) (fun c10 => ?_)
 ·skip
  refine aSeq ?_
  refine aReg ?_
  refine sp pMa ?_
  refine oNil ?_
  have hT : V.turn D b = (V, D, 6) := by
    unfold WS.turn
    rw [if_pos (by simp_all)]
  refine aRet ?_
  rw [hT]
  exact ⟨_, [_, _, _, _], [], rfl, tk_refl, rfl, S, W, r, rfl⟩
 ·skip
  refine aSeq ?_
  have hbr : V.broken = false := by simp_all
  refine aDrawT wal_Turn_r3_t wal_Turn_r3_b [] 16 #[false, false, false, false, false, false, false, false, false, false, false, false, false, false, false, false] (by kernel_rfl) rfl rfl (fun HT => ?_)
  refine dp HT 0 rfl pM ?_
  refine dp HT 1 rfl (by first | exact pLm sl_50 | exact pLs sl_50 | exact pLv sl_50) ?_
  refine dGo ?_
  refine e1 HT 2 rfl ?_
  refine ci rfl rfl rfl (rec_Parts (n := b.length)) ?_
  refine ef HT 3 rfl pB ?_
  refine ef HT 4 rfl pM ?_
  refine eSplitEq 19 rfl (fun c19 => ?_) (fun c19 => ?_)
  ·skip
   refine eS HT 5 rfl ?_
   refine eS HT 6 rfl ?_
   refine eS HT 7 rfl ?_
   refine eS HT 8 rfl ?_
   refine eS HT 9 rfl ?_
   refine eS HT 10 rfl ?_
   refine eS HT 11 rfl ?_
   refine eS HT 12 rfl ?_
   refine eS HT 13 rfl ?_
   refine ef HT 14 rfl pK ?_
   refine ef HT 15 rfl pMa ?_
   refine eE HT ?_
   clear HT
   refine aCondT rfl ?_
   refine aSeq ?_
   refine aReg ?_
   refine sp pMa ?_
   refine oNil ?_
   have hT : V.turn D b = (V, D, 5) := by
     unfold WS.turn
     rw [if_neg (by rw [hbr]; decide), if_pos (by first | (simp_all; done) | (simp_all; omega))]
   refine aRet ?_
   rw [hT]
   exact ⟨_, [_, _, _, _], [], rfl, tk_refl, rfl, S, W, r, rfl⟩
  ·skip
   refine epG HT 5 rfl pM ?_
   refine epG HT 6 rfl (by first | exact pLm sl_50 | exact pLs sl_50 | exact pLv sl_50) ?_
   refine epG HT 8 rfl pM ?_
   refine epG HT 9 rfl pNv ?_
   refine epG HT 10 rfl (pFb fd_279_1) ?_
   refine epG HT 11 rfl (pFb fd_272_0) ?_
   refine erG HT 12 rfl (rB1 ty_3) ?_
   refine e1G HT 7 rfl ?_
   refine ci rfl rfl rfl (rec_Parts (n := b.length)) ?_
   refine efG HT 13 rfl pB ?_
   refine ef HT 14 rfl pK ?_
   refine ef HT 15 rfl pMa ?_
   refine eE HT ?_
   clear HT
   refine aCondDec rfl (fun c14 => ?_) (fun c14 => ?_)
   ·skip
    refine aSeq ?_
    refine aReg ?_
    refine sp pMa ?_
    refine oNil ?_
    have hT : V.turn D b = (V, D, 5) := by
      unfold WS.turn
      rw [if_neg (by rw [hbr]; decide), if_pos (by first | (simp_all; done) | (simp_all; omega))]
    refine aRet ?_
    rw [hT]
    exact ⟨_, [_, _, _, _], [], rfl, tk_refl, rfl, S, W, r, rfl⟩
   ·skip
    refine aSeq ?_
    refine aReg ?_
    refine sp pM ?_
    refine sp pNv ?_
    refine sp (pFb fd_279_2) ?_
    refine sr (rB1 ty_3) ?_
    refine sp pB ?_
    refine sp pMa ?_
    refine oNil ?_
    refine aCondEq rfl (fun c30 => ?_) (fun c30 => ?_)
    ·skip
     refine aSeq ?_
     refine aReg ?_
     refine sp pMa ?_
     refine oNil ?_
     have hT : V.turn D b = (V, D, 4) := by
       unfold WS.turn
       rw [if_neg (by rw [hbr]; decide), if_neg (by first | (simp_all; done) | (simp_all; omega)), if_pos (by unfold mmark; omega)]
     refine aRet ?_
     rw [hT]
     exact ⟨_, [_, _, _, _], [], rfl, tk_refl, rfl, S, W, r, rfl⟩
    ·skip
     refine aSkip ?_
     refine aSeq ?_
     have h1 : ¬ (partsN b.length = 0 ∨ V.p.slot < partsN b.length) := by first | (simp_all; done) | (simp_all; omega)
     have h2 : ¬ V.gen = mmark := by unfold mmark; omega
     refine aDrawT wal_Turn_r7_t wal_Turn_r7_b [] 22 #[false, false, false, false, false, false, false, false, false, false, false, false, false, false, false, false, false, false, false, false, false, false] (by kernel_rfl) rfl rfl (fun HT => ?_)
     refine dp HT 0 rfl pM ?_
     refine dp HT 1 rfl pNv ?_
     refine dp HT 2 rfl (pFb fd_279_2) ?_
     refine dr HT 3 rfl (rB1 ty_3) ?_
     refine dp HT 4 rfl pAd ?_
     refine dp HT 5 rfl pM ?_
     refine dp HT 6 rfl (pBuild rfl st_281 ze_281 rfl rfl rfl rfl) ?_
     refine dp HT 7 rfl pM ?_
     refine dp HT 8 rfl pNv ?_
     refine dp HT 9 rfl (pFb fd_279_3) ?_
     refine dr HT 10 rfl (rB1 ty_3) ?_
     refine dp HT 11 rfl pM ?_
     refine dp HT 12 rfl pNv ?_
     refine dp HT 13 rfl (pFb fd_279_1) ?_
     refine dp HT 14 rfl (pFb fd_272_0) ?_
     refine dr HT 15 rfl (rB1 ty_3) ?_
     refine dGo ?_
     refine e1 HT 16 rfl ?_
     refine ci rfl rfl rfl (slot_Sectors (x := ⟨V.gen + 1, b⟩) (mark := V.mark) (most := V.p.slot) hb hk) ?_
     refine ef HT 17 rfl pM ?_
     refine ef HT 18 rfl pX ?_
     refine ef HT 19 rfl pX ?_
     refine ef HT 20 rfl pMa ?_
     refine ef HT 21 rfl pMa ?_
     refine eE HT ?_
     clear HT
     refine aSeq ?_
     refine aSeq ?_
     refine aReg ?_
     refine sp pM ?_
     refine sp pB ?_
     refine oNil ?_
     refine aCondNe rfl (fun c57 => ?_) (fun c57 => ?_)
     ·skip
      refine aSeq ?_
      refine aReg ?_
      refine sp pM ?_
      refine sp pMa ?_
      refine oNil ?_
      have hT : V.turn D b = (V, D, sectE ⟨V.gen + 1, b⟩ V.mark V.p.slot) := by
        unfold WS.turn
        rw [if_neg (by rw [hbr]; decide), if_neg h1, if_neg h2, if_pos (by simp_all)]
      refine aRet ?_
      rw [hT]
      exact ⟨_, [_, _, _, _], [], rfl, tk_refl, rfl, S, W, r, rfl⟩
     ·skip
      refine aSkip ?_
      refine aSeq ?_
      have hE : sectE ⟨V.gen + 1, b⟩ V.mark V.p.slot = 0 := by simp_all
      have hR : sectR ⟨V.gen + 1, b⟩ V.mark V.p.slot = sectL ⟨V.gen + 1, b⟩ V.mark := by unfold sectR; rw [if_pos hE]
      refine aDrawT wal_Turn_r10_t wal_Turn_r10_b [] 15 #[false, false, false, false, false, false, false, false, false, false, false, false, false, false, false] (by kernel_rfl) rfl rfl (fun HT => ?_)
      refine dp HT 0 rfl pM ?_
      refine dp HT 1 rfl pNv ?_
      refine dp HT 2 rfl (pFb fd_279_1) ?_
      refine dr HT 3 rfl (by first | exact rBWa ty_272 | exact rBW ty_272 | exact rBA ty_272) ?_
      refine dp HT 4 rfl pM ?_
      refine dp HT 5 rfl pNv ?_
      refine dp HT 6 rfl (pFb fd_279_2) ?_
      refine dr HT 7 rfl (rB1 ty_3) ?_
      refine dp HT 8 rfl pAd ?_
      refine dGo ?_
      refine e1 HT 9 rfl ?_
      refine ci rfl rfl rfl (plot_Slot (p := V.p) (gen := V.gen + 1) o.p (by omega)) ?_
      refine ef HT 10 rfl pM ?_
      refine ef HT 11 rfl pX ?_
      refine ef HT 12 rfl pX ?_
      refine ef HT 13 rfl pMa ?_
      refine ef HT 14 rfl pMa ?_
      refine eE HT ?_
      clear HT
      refine aSeq ?_
      refine aSeq ?_
      refine aReg ?_
      refine sp pM ?_
      refine sp pM ?_
      refine sp pM ?_
      refine sa ?_
      refine ca rfl rfl rfl (wal_write (V := V) (db := db) (fr := slotFr V.p (V.gen + 1)) (l := sectR ⟨V.gen + 1, b⟩ V.mark V.p.slot) r (by omega) (by have := slotFr_rng o.p (g := V.gen + 1) (by omega); omega)) ?_
      rintro _ _ ⟨rfl, S2, W2, r2, rfl⟩
      obtain ⟨A, hA⟩ : ∃ z, writeAll D (slotFr V.p (V.gen + 1)) (sectR ⟨V.gen + 1, b⟩ V.mark V.p.slot) = z := ⟨_, rfl⟩
      rw [hA] at r2
      rw [hA]
      obtain ⟨V2, hV2⟩ : ∃ z : WS, { V with broken := decide (A.2 ≠ 0) } = z := ⟨_, rfl⟩
      rw [hV2]
      have hg2 : V2.gen = V.gen := by rw [← hV2]
      have hx2 : V2.next = V.next := by rw [← hV2]
      refine sp pMa ?_
      refine oNil ?_
      refine aSeq ?_
      refine aReg ?_
      refine sp pM ?_
      refine sp pB ?_
      refine oNil ?_
      refine aCondNe rfl (fun c77 => ?_) (fun c77 => ?_)
      ·skip
       refine aSeq ?_
       refine aReg ?_
       refine sp pM ?_
       refine sp pMa ?_
       refine oNil ?_
       have hn : A.2 ≠ 0 := by simp_all
       have hT : V.turn D b = ({ V with broken := true }, A.1, A.2) := by
         unfold WS.turn
         rw [if_neg (by rw [hbr]; decide), if_neg h1, if_neg h2, if_neg (not_not_intro hE), ← hR, hA]
         simp only
         rw [if_neg hn]
       refine aRet ?_
       rw [hT]
       exact ⟨_, [_, _, _, _], [], rfl, tk_refl, rfl, S2, W2, r2, by rw [← hV2, decide_eq_true hn]⟩
      ·skip
       refine aSkip ?_
       refine aSeq ?_
       refine aReg ?_
       refine sp pM ?_
       refine sp pM ?_
       refine sp pM ?_
       refine sp pNv ?_
       refine sp (pFb fd_279_2) ?_
       refine sr (rB1 ty_3) ?_
       refine sp pAd ?_
       refine sp pNv ?_
       refine sp (pFb fd_279_2) ?_
       refine sa ?_
       refine oStB rfl rfl rfl rfl (by repeat constructor) ty_3 rfl (Nat.le_of_ble_eq_true rfl) rfl ?_
       refine sp pNv ?_
       refine sp (pFb fd_279_4) ?_
       refine sa ?_
       refine oStB rfl rfl rfl rfl (by repeat constructor) ty_3 rfl (Nat.le_of_ble_eq_true rfl) rfl ?_
       refine oNil ?_
       refine aSeq ?_
       refine aReg ?_
       refine sp pMa ?_
       refine oNil ?_
       have hz : A.2 = 0 := by simp_all
       have hT : V.turn D b = ({ V with gen := V.gen + 1, next := 0 }, A.1, 0) := by
         unfold WS.turn
         rw [if_neg (by rw [hbr]; decide), if_neg h1, if_neg h2, if_neg (not_not_intro hE), ← hR, hA]
         simp only
         rw [if_pos hz]
       refine aRet ?_
       rw [hT]
       exact ⟨_, [_, _, _, _], [], rfl, tk_refl, rfl, S2, W2, r2, by rw [← hV2, decide_eq_false (not_not_intro hz)]; cases V; cases hbr; rfl⟩
theorem splitR_ge {p : Pg} {b : BS} (h : splitE p b = 0) : 1 ≤ (splitR p b).length ∧ splitR p b = splitL p b := by
 unfold splitR
 rw [if_pos h]
 refine ⟨?_, rfl⟩
 have h0 : partsN b.length ≠ 0 := fun e => by
   unfold splitE at h
   rw [if_pos e] at h
   cases h
 have := partsN_pos h0
 unfold splitL
 rw [List.length_map, List.length_range]
 omega
/- wal.Wal).Commit -/
def wal_Commit_r3_T : Bool × List (List Nat × List Nat) := (true, [([], []), ([0], [0]), ([1], [1]), ([2], [2]), ([], []), ([4], [4]), ([5], [5]), ([6], [6]), ([], []), ([8], [8]), ([9], [9]), ([10], [10]), ([3, 7, 11], [3, 7, 11]), ([], []), ([12, 13], [12, 13]), ([14], [14]), ([15], [15]), ([15], [15]), ([16, 14, 0, 1, 2, 3, 4, 5, 6, 7, 8, 9, 10, 11, 12, 13, 14, 15, 16], [16]), ([17, 18, 0, 1, 2, 3, 4, 5, 6, 7, 8, 9, 10, 11, 12, 13, 14, 15, 16, 17, 18], [17])])
def wal_Commit_r3_B : List Nat := [0, 1, 3, 7, 0, 16, 48, 112, 0, 256, 768, 1792, 4095, 0, 16383, 32767, 65535, 65535, 131071, 524287]
theorem wal_Commit_r3_t : Go.Proofs.YthkgdhamnpiagaaGreatW.PrintLast.rtab .any (Go.Proofs.YthkgdhamnpiagaaGreatW.PrintLast.opsOf Tryz.f78 3) = wal_Commit_r3_T := by kernel_rfl
theorem wal_Commit_r3_b : Go.Proofs.YthkgdhamnpiagaaGreatW.PrintLast.waitsOk wal_Commit_r3_T.2 wal_Commit_r3_B = true := by kernel_rfl
def wal_Commit_r15_T : Bool × List (List Nat × List Nat) := (true, [([], []), ([], []), ([1], [1]), ([2], [2]), ([3], [3]), ([], []), ([5], [5]), ([6], [6]), ([7], [7]), ([4, 8], [4, 8]), ([], []), ([0, 9, 10, 9], [0, 9, 10]), ([11, 11, 0, 1, 2, 3, 4, 5, 6, 7, 8, 9, 10, 11], [11])])
def wal_Commit_r15_B : List Nat := [0, 0, 2, 6, 14, 0, 32, 96, 224, 510, 0, 2047, 4095]
theorem wal_Commit_r15_t : Go.Proofs.YthkgdhamnpiagaaGreatW.PrintLast.rtab .any (Go.Proofs.YthkgdhamnpiagaaGreatW.PrintLast.opsOf Tryz.f78 15) = wal_Commit_r15_T := by kernel_rfl
theorem wal_Commit_r15_b : Go.Proofs.YthkgdhamnpiagaaGreatW.PrintLast.waitsOk wal_Commit_r15_T.2 wal_Commit_r15_B = true := by kernel_rfl
set_option maxRecDepth 100000 in
set_option maxHeartbeats 2000000 in
theorem wal_Commit {wb db bs bw n : Nat} {V : WS} {b : BS} {S W : List (Int × BS)} {D : DW} (r : Rel n S W D) (o : WOk V n) (hb : b.length ≤ 900000) (hk : BOk b) : Triple Tryz.prog 78 [.v (.pointer (some ⟨wb, 0, none⟩)), bsA b] (HA.box wb (wsC db V) :: [.box db [.int n, .v (.map (some bs)), .v (.map (some bw)), .int D.armed, .v (.bool D.dead)], .map bs (kvA S), .map bw (kvA W)]) (fun q h' => q = .int (V.commit D b).2.2 ∧ ∃ S' W', Rel n S' W' (V.commit D b).2.1 ∧ h' = HA.box wb (wsC db (V.commit D b).1) :: [.box db [.int n, .v (.map (some bs)), .v (.map (some bw)), .int (V.commit D b).2.1.armed, .v (.bool (V.commit D b).2.1.dead)], .map bs (kvA S'), .map bw (kvA W')]) := by
 have hpf := o.p.f
 have hp1 := o.p.h1
 have hp2 := o.p.h2
 have hx0 := o.x0
 have hx1 := o.x1
 have hrl := splitR_len (logP V) b
 refine triple_of Tryz.func78 rfl (by kernel_rfl) rfl (by simp) ?_
 refine aSeq ?_
 refine aReg ?_
 refine sp pMa ?_
 refine oNil ?_
 refine aSeq ?_
 refine aSeq ?_
 refine aReg ?_
 refine sp pM ?_
 refine sa ?_
 refine cai rfl rfl rfl (wal_is (wb := wb) (db := db) (V := V)) ?_
 refine sp pNo ?_
 refine oNil ?_
 refine aCondNot rfl (fun c15 => ?_) (fun c15 => ?_)
 ·skip
  refine aSeq ?_
  refine aReg ?_
  refine sp pMa ?_
  refine oNil ?_
  have hT : V.commit D b = (V, D, 6) := by
    unfold WS.commit
    rw [if_pos (by simp_all)]
  refine aRet ?_
  rw [hT]
  exact ⟨_, [_, _, _, _], [], rfl, tk_refl, rfl, S, W, r, rfl⟩
 ·skip
  refine aSkip ?_
  refine aSeq ?_
  refine aDrawT wal_Commit_r3_t wal_Commit_r3_b [] 20 #[false, false, false, false, false, false, false, false, false, false, false, false, false, false, false, false, false, false, false, false] (by kernel_rfl) rfl rfl (fun HT => ?_)
  refine dp HT 0 rfl pM ?_
  refine dp HT 1 rfl pNv ?_
  refine dp HT 2 rfl (pFb fd_279_2) ?_
  refine dr HT 3 rfl (rB1 ty_3) ?_
  refine dp HT 4 rfl pM ?_
  refine dp HT 5 rfl pNv ?_
  refine dp HT 6 rfl (pFb fd_279_3) ?_
  refine dr HT 7 rfl (rB1 ty_3) ?_
  refine dp HT 8 rfl pM ?_
  refine dp HT 9 rfl pNv ?_
  refine dp HT 10 rfl (pFb fd_279_4) ?_
  refine dr HT 11 rfl (rB1 ty_3) ?_
  refine dp HT 12 rfl (pBuild rfl st_142 ze_142 rfl rfl rfl rfl) ?_
  refine dCast (k := 29) (b := .agg (pgC (logP V))) rfl (cast_ag (.cons .refl (.cons .refl (.cons .refl (.cons .refl (.cons .refl (.cons .refl (.cons cast_nil .nil)))))))) ?_
  refine dp HT 13 rfl pM ?_
  refine dGo ?_
  refine e1 HT 14 rfl ?_
  refine ci rfl rfl rfl (rec_Split (p := logP V) (by omega) hk) ?_
  refine ef HT 15 rfl pM ?_
  refine ef HT 16 rfl pX ?_
  refine ef HT 17 rfl pX ?_
  refine ef HT 18 rfl pMa ?_
  refine ef HT 19 rfl pMa ?_
  refine eE HT ?_
  clear HT
  refine aSeq ?_
  refine aBlock ?_
  refine aSeq ?_
  have hbr : V.broken = false := by simp_all
  refine aReg ?_
  refine sp pM ?_
  refine sp pB ?_
  refine sp pMa ?_
  refine oNil ?_
  refine aCondNe rfl (fun c34 => ?_) (fun c34 => ?_)
  ·skip
   refine aSeq ?_
   refine aReg ?_
   refine sp pM ?_
   refine sp pMa ?_
   refine oNil ?_
   have hT : V.commit D b = (V, D, splitE (logP V) b) := by
     unfold WS.commit
     rw [if_neg (by rw [hbr]; decide), if_pos (by simp_all)]
   refine aRet ?_
   rw [hT]
   exact ⟨_, [_, _, _, _], [], rfl, tk_refl, rfl, S, W, r, rfl⟩
  ·skip
   refine aSeq ?_
   refine aReg ?_
   refine sp pM ?_
   refine sp (by first | exact pLm sl_288 | exact pLs sl_288 | exact pLv sl_288) ?_
   refine sp pM ?_
   refine sa ?_
   refine cai rfl rfl rfl (wal_Free (wb := wb) (db := db) (V := V) (by omega) (by omega)) ?_
   refine sp pB ?_
   refine sp pMa ?_
   refine oNil ?_
   refine aCondDec rfl (fun c38 => ?_) (fun c38 => ?_)
   ·skip
    refine aSeq ?_
    refine aReg ?_
    refine sp pMa ?_
    refine oNil ?_
    have hE : splitE (logP V) b = 0 := by simp_all
    obtain ⟨hR1, hR⟩ := splitR_ge hE
    have hT : V.commit D b = (V, D, 4) := by
      unfold WS.commit
      rw [if_neg (by rw [hbr]; decide), if_neg (not_not_intro hE), if_pos (by rw [← hR]; first | (simp_all; done) | (simp_all; omega))]
    refine aRet ?_
    rw [hT]
    exact ⟨_, [_, _, _, _], [], rfl, tk_refl, rfl, S, W, r, rfl⟩
   ·skip
    refine aSkip ?_
    refine aSeq ?_
    have hE : splitE (logP V) b = 0 := by simp_all
    obtain ⟨hR1, hR⟩ := splitR_ge hE
    have h2 : ¬ V.p.log - V.next < (splitR (logP V) b).length := by first | (simp_all; done) | (simp_all; omega)
    refine aWeak (weak_nil 50 1) ?_
    refine aReg ?_
    refine sp pMa ?_
    refine oNil ?_
    refine aSeq ?_
    refine aSeq ?_
    refine aReg ?_
    refine sp pM ?_
    refine sp (by first | exact pLm sl_288 | exact pLs sl_288 | exact pLv sl_288) ?_
    refine sp pM ?_
    refine oNil ?_
    refine aBlock ?_
    refine loopF (α := Nat × List BS × Option Nat × Nat) (kept := [(0, _), (5, _), (44, _), (45, _)]) (fun (i, out, g, c) => i ≤ (splitR (logP V) b).length ∧ out = ((splitR (logP V) b).take i).map putPg) (fun (i, out, g, c) => [(46, .int i), (7, .v (slV g out.length c))]) (fun (i, out, g, c) => (.sl g c 50 1 (out.map rowC) :: HA.box wb (wsC db V) :: [.box db [.int n, .v (.map (some bs)), .v (.map (some bw)), .int D.armed, .v (.bool D.dead)], .map bs (kvA S), .map bw (kvA W)])) (fun (i, out, g, c) => (splitR (logP V) b).length - i) (0, [], _, _) ?_ ⟨gInt rfl (by first | rfl | omega | simp), gLen rfl (by first | rfl | simp | (simp; omega)), rfl, rfl, rfl, rfl, trivial⟩ (by repeat constructor) ?_
    ·skip
     exact ⟨by omega, rfl⟩
    ·rintro ⟨i, out, g, c⟩ ⟨hi, ho⟩
     refine aSeq ?_
     refine aReg ?_
     refine sp pB ?_
     refine oNil ?_
     refine aSeq ?_
     refine aCondDec rfl (fun c47 => ?_) (fun c47 => ?_)
     ·skip
      refine aSkip ?_
      refine aSeq ?_
      refine aBlock ?_
      refine aSeq ?_
      obtain ⟨p, hp⟩ : ∃ z, (splitR (logP V) b)[i]? = some z := ⟨_, List.getElem?_eq_getElem (by omega)⟩
      have hpo := splitR_ok hk p (List.mem_of_getElem? hp)
      have hol : out.length ≤ 16 := by rw [ho, List.length_map, List.length_take]; omega
      refine aReg ?_
      first | refine sp (pIx es_288) ?_ | (refine obtSN 44 46 rfl rfl (by omega) (fun x48 hx48 => ?_); refine sp (pIs es_288 hx48) ?_) | (refine obtS 44 46 rfl rfl (by omega) (by omega) (fun x48 hx48 => ?_); refine sp (pIs es_288 hx48) ?_) | refine sp (pIo es_288) ?_
      refine sr (by first | exact rSW ty_142 rfl | exact rSA ty_142 | exact rBWa ty_142 | exact rBW ty_142 | exact rBA ty_142 | exact rArA ty_142 (fun _ => rfl)) ?_
      refine sq ?_
      refine qAlloc rfl rfl (by decide) ze_142 rfl (fun b9 => ?_)
      refine sa ?_
      refine oStW rfl rfl rfl rfl (by repeat constructor) ty_142 ?_
      refine oNil ?_
      refine aSeq ?_
      refine aReg ?_
      refine sr (by first | exact rBWa ty_142 | exact rBW ty_142 | exact rBA ty_142) ?_
      refine sq ?_
      refine ci rfl rfl rfl (pg_Put (p := p) (by have := (mayPg_iff.1 hpo.1).len; omega) hpo.2) ?_
      rw [hpo.1, if_pos rfl, if_pos rfl]
      refine sp pM ?_
      refine sp pX ?_
      refine sp pX ?_
      refine sp pMa ?_
      refine sp pMa ?_
      refine oNil ?_
      refine aReg ?_
      refine sp pM ?_
      refine sp pM ?_
      refine sq ?_
      refine qLit (l := [_]) rfl rfl (by decide) us_177 ty_50 ze_50 rfl (by decide) (by decide) rfl rfl rfl (fun b57 => ?_)
      refine sa ?_
      refine oAppT ([putPg p] : List BS) rfl rfl (by repeat constructor) (srcOwn rfl (by repeat constructor) rfl) el_177 sl_177 (fun g58 k58 => ?_)
      refine sp pMa ?_
      refine oNil ?_
      refine aReg ?_
      refine sp pAd ?_
      refine sp pM ?_
      refine oNil ?_
      refine ⟨(i + 1, _, _, _), ?_, by (try dsimp only); omega, ⟨gInt rfl (by first | rfl | omega | simp), gLen rfl (by first | rfl | simp | (simp; omega)), rfl, rfl, rfl, rfl, trivial⟩, _, (by repeat constructor)⟩
      exact ⟨by omega, by rw [take_step hp, List.map_append, ← ho]; rfl⟩
     ·skip
      refine aExit rfl ?_
      refine aSeq ?_
      refine aSeq ?_
      obtain rfl : i = (splitR (logP V) b).length := by omega
      rw [List.take_length] at ho
      have hol : out.length = (splitR (logP V) b).length := by rw [ho, List.length_map]
      rw [hR] at ho h2 hR1
      refine aWeak (weak_settle (k := 7) rfl (by repeat constructor) (by first | rfl | (simp; done) | (simp; omega) | (simp_all; done))) ?_
      refine aDrawT wal_Commit_r15_t wal_Commit_r15_b [11] 13 #[false, false, false, false, false, false, false, false, false, false, false, false, false] (by kernel_rfl) rfl rfl (fun HT => ?_)
      refine dp HT 0 rfl pM ?_
      refine dp HT 1 rfl pM ?_
      refine dp HT 2 rfl pNv ?_
      refine dp HT 3 rfl (pFb fd_279_1) ?_
      refine dr HT 4 rfl (by first | exact rBWa ty_272 | exact rBW ty_272 | exact rBA ty_272) ?_
      refine dp HT 5 rfl pM ?_
      refine dp HT 6 rfl pNv ?_
      refine dp HT 7 rfl (pFb fd_279_4) ?_
      refine dr HT 8 rfl (rB1 ty_3) ?_
      refine dp HT 10 rfl pM ?_
      refine dGo ?_
      refine e1 HT 9 rfl ?_
      refine ci rfl rfl rfl (plot_At (p := V.p) (i := V.next) o.p (by omega) (by omega)) ?_
      refine eLast ?_
      refine f1 HT 11 rfl ?_
      refine ca rfl rfl rfl (wal_write (V := V) (db := db) (fr := V.p.fr + V.next) (l := out) r (by omega) (by omega)) ?_
      rintro _ _ ⟨rfl, S2, W2, r2, rfl⟩
      obtain ⟨A, hA⟩ : ∃ z, writeAll D (V.p.fr + V.next) (out) = z := ⟨_, rfl⟩
      rw [hA] at r2
      rw [hA]
      obtain ⟨V2, hV2⟩ : ∃ z : WS, { V with broken := decide (A.2 ≠ 0) } = z := ⟨_, rfl⟩
      rw [hV2]
      have hg2 : V2.gen = V.gen := by rw [← hV2]
      have hx2 : V2.next = V.next := by rw [← hV2]
      refine fp HT 12 rfl pMa ?_
      refine fE HT ?_
      clear HT
      refine aSeq ?_
      refine aReg ?_
      refine sp pM ?_
      refine sp pB ?_
      refine oNil ?_
      refine aCondNe rfl (fun c73 => ?_) (fun c73 => ?_)
      ·skip
       refine aSeq ?_
       refine aReg ?_
       refine sp pM ?_
       refine sp pMa ?_
       refine oNil ?_
       have hn : A.2 ≠ 0 := by simp_all
       have hT : V.commit D b = ({ V with broken := true }, A.1, A.2) := by
         unfold WS.commit
         rw [if_neg (by rw [hbr]; decide), if_neg (not_not_intro hE), if_neg h2, ← ho, hA]
         simp only
         rw [if_neg hn]
       refine aRet ?_
       rw [hT]
       exact ⟨_, [_, _, _, _], [], rfl, tk_refl, rfl, S2, W2, r2, by rw [← hV2, decide_eq_true hn]⟩
      ·skip
       refine aSkip ?_
       refine aSeq ?_
       refine aReg ?_
       refine sp pM ?_
       refine sp pNv ?_
       refine sp (pFb fd_279_4) ?_
       refine sr (rB1 ty_3) ?_
       refine sp pM ?_
       refine sp (by first | exact pLm sl_288 | exact pLs sl_288 | exact pLv sl_288) ?_
       refine sp pAd ?_
       refine sp pNv ?_
       refine sp (pFb fd_279_4) ?_
       refine sa ?_
       refine oStB rfl rfl rfl rfl (by repeat constructor) ty_3 rfl (Nat.le_of_ble_eq_true rfl) rfl ?_
       refine oNil ?_
       refine aSeq ?_
       refine aReg ?_
       refine sp pMa ?_
       refine oNil ?_
       have hz : A.2 = 0 := by simp_all
       have hT : V.commit D b = ({ V with next := V.next + (splitL (logP V) b).length }, A.1, 0) := by
         unfold WS.commit
         rw [if_neg (by rw [hbr]; decide), if_neg (not_not_intro hE), if_neg h2, ← ho, hA]
         simp only
         rw [if_pos hz]
       refine aRet ?_
       rw [hT]
       exact ⟨_, [_, _, _, _], [], rfl, tk_refl, rfl, S2, W2, r2, by rw [← hV2, decide_eq_false (not_not_intro hz), hR]; cases V; cases hbr; rfl⟩
end A
end Go.Proofs.YthkgdhamnpiagaaGreat
