/- What functions of the program compute: wide38b -/
import Derived.Test.YtkgemkadebgeoaaBwide38
import Derived.Test.YtkgemkadebgeoaaProg
import Derived.KernelRfl
set_option linter.unusedVariables false
set_option linter.unusedSimpArgs false
namespace Go.Proofs.Ytkgemkadebgeoaa
namespace A

theorem cnt_up {D : Int → Bool} {n : Int} (h0 : 1 ≤ n) (h1 : n ≤ 64) (hD : D n = false) : cntG D < cntG (updF D n true) :=
  countP_ltG (p := fun i : Nat => D (i : Int)) (q := fun i : Nat => updF D n true (i : Int)) (i := n.toNat) (fun j h => by simp only [updF]; split <;> simp [h]) (List.mem_range.2 (by omega)) (by rw [Int.toNat_of_nonneg (by omega)]; exact hD) (by rw [Int.toNat_of_nonneg (by omega), updF_same])
def WKeysAre (l : List Arc) (r : Int) (m : List (Int × Int)) : Prop := (mKeys m).Nodup ∧ (∀ v, v ∈ mKeys m ↔ v ≠ r ∧ 0 < wF l r v) ∧ ∀ v ∈ mKeys m, aget m v = wF l r v
theorem winv_keys {l : List Arc} {r : Int} {m : List (Int × Int)} {D : Int → Bool} (hl : ∀ a ∈ l, AOk a) (h0 : 1 ≤ r) (h1 : r ≤ 64) (I : WInv l r m D) (hs : ∀ n, WSeen l m D n l.length) (hall : ∀ k ∈ mKeys m, D k = true) : WKeysAre l r (mDel m r) := by
  have hval : ∀ v, v ≠ r → v ∈ mKeys m → aget m v = wF l r v := fun v hv hm => by
    have h2 := I.sound v hv hm
    have h3 := (I.key v hm).2.2
    have h4 := (wF_iff hl (by omega) h1 hv h3).2 h2.2
    have h5 := wF_range hl r v
    have h6 := winv_end hl I hs hall (w := wF l r v) (v := v) (by omega) (by omega) ((wF_iff hl (by omega) h1 hv (by omega)).1 (Int.le_refl _))
    omega
  have hmem : ∀ v, v ∈ mKeys (mDel m r) ↔ v ≠ r ∧ v ∈ mKeys m := fun v => by
    rw [← mGet_mem, mDel_get I.nd, ← mGet_mem]
    split <;> simp_all
  refine ⟨mDel_nodup I.nd, fun v => ?_, fun v hv => ?_⟩
  · rw [hmem]
    constructor
    · rintro ⟨hv, hm⟩
      have := hval v hv hm
      have := (I.key v hm).2.2
      exact ⟨hv, by omega⟩
    · rintro ⟨hv, hw⟩
      have h5 := wF_range hl r v
      have h6 := winv_end hl I hs hall (w := wF l r v) (v := v) (by omega) (by omega) ((wF_iff hl (by omega) h1 hv (by omega)).1 (Int.le_refl _))
      exact ⟨hv, aget_mem (by omega)⟩
  · obtain ⟨h2, h3⟩ := (hmem v).1 hv
    rw [← hval v h2 h3]
    unfold aget
    rw [mDel_get I.nd, if_neg h2]
theorem WKeysAre.sorted {l : List Arc} {r : Int} {m : List (Int × Int)} (hl : ∀ a ∈ l, AOk a) (h0 : 1 ≤ r) (h1 : r ≤ 64) (k : WKeysAre l r m) : sortI (mKeys m) = wKeys l r :=
  sortI_eq k.1 (wKeys_sorted l r) (fun x => by rw [k.2.1, wKeys_mem hl (by omega) h1])
def WOut (l : List Arc) (r : Int) (m : List (Int × Int)) (dm : List (Int × Bool)) (n : Int) : Prop := WInv l r m (DF dm) ∧ (∀ n, WSeen l m (DF dm) n l.length) ∧ WNext m (DF dm) n
def WInn (l : List Arc) (r : Int) (m : List (Int × Int)) (D : Int → Bool) (n : Int) (i : Nat) : Prop := WInv l r m D ∧ WSeen l m D n i ∧ (D n = true) ∧ (∀ u, D u = true → aget m n ≤ aget m u)
theorem WOut.inn {l : List Arc} {r : Int} {m : List (Int × Int)} {dm : List (Int × Bool)} {n : Int} (h : WOut l r m dm n) (hn : n ≠ 0) : WInn l r m (DF (mPut dm n true)) n 0 := by
  obtain ⟨I, hs, hx⟩ := h
  rcases hx with ⟨e, _⟩ | ⟨h1, h2, h3⟩
  · exact absurd e hn
  · rw [DF_put]
    refine ⟨I.done h1 h3 h2, fun k a ha hd hk => ?_, updF_same _ _ _, fun u hu => ?_⟩
    · have hne : a.f ≠ n := by rcases hk with h | h; exact h; omega
      rw [updF_ne _ _ hne] at hd
      exact hs n k a ha hd (.inl hne)
    · by_cases e : u = n
      · subst e; exact Int.le_refl _
      · rw [updF_ne _ _ e] at hu
        exact I.le u n hu h2 h1
theorem WInn.put {l : List Arc} {r : Int} {m : List (Int × Int)} {D : Int → Bool} {n : Int} {i : Nat} (hl : ∀ a ∈ l, AOk a) (h : WInn l r m D n i) {a : Arc} (ha : l[i]? = some a) (hf : a.f = n) : WInn l r (mPut m a.t (max (aget m a.t) (min (aget m n) a.c))) D n (i + 1) := by
  obtain ⟨I, hs, hd, hm⟩ := h
  refine ⟨I.put hl hd hm (List.mem_of_getElem? ha) hf, hs.put I hm ha hf, hd, fun u hu => ?_⟩
  rw [put_done I hm hd, put_done I hm hu]
  exact hm u hu
theorem WInn.skip {l : List Arc} {r : Int} {m : List (Int × Int)} {D : Int → Bool} {n : Int} {i : Nat} (h : WInn l r m D n i) {a : Arc} (ha : l[i]? = some a) (hf : a.f ≠ n) : WInn l r m D n (i + 1) := ⟨h.1, h.2.1.skip ha hf, h.2.2⟩
theorem WInn.out {l : List Arc} {r : Int} {m : List (Int × Int)} {dm : List (Int × Bool)} {n n' : Int} {i : Nat} (h : WInn l r m (DF dm) n i) (hi : l.length ≤ i) (hx : WNext m (DF dm) n') : WOut l r m dm n' :=
  ⟨h.1, fun _ k a ha hd _ => h.2.1 k a ha hd (.inr (by have := len_get ha; omega)), hx⟩
theorem map_len {m : List (Int × Int)} (h : (mKeys m).Nodup) (hr : ∀ v ∈ mKeys m, 1 ≤ v ∧ v ≤ 64) : m.length ≤ 65 := mLen h (n := 65) (fun x hx => by have := hr x hx; omega)
def wSpots (l : List Arc) (r : Int) : List Spot := (wKeys l r).map fun k => ⟨wF l r k, k⟩

/- wide.widths -/
set_option maxRecDepth 100000 in
set_option maxHeartbeats 1000000 in
theorem wide_widths {l : List Arc} {r : Int} (hll : l.length ≤ 1000000) (hl : ∀ a ∈ l, AOk a) (h0 : 1 ≤ r) (h1 : r ≤ 64) : Triple Try.prog 110 [.sl 3 (l.map arcC), .int r] [] (fun q h' => ∃ b m, q = .v (.map (some b)) ∧ h' = [.map b (kvM inA m)] ∧ WKeysAre l r m) := by
  refine triple_of Try.func110 rfl (by kernel_rfl) rfl (by simp) ?_
  refine aSeq ?_
  refine aReg ?_
  refine sp pMa ?_
  refine oNil ?_
  refine aSeq ?_
  refine aReg ?_
  refine sq ?_
  refine qMM inA rfl (fun b10 => ?_)
  refine sp pM ?_
  refine sa ?_
  first | refine oMI rfl rfl rfl rfl mo_183 ?_ | refine oMapIns rfl rfl rfl rfl rfl (by repeat constructor) mo_183 ?_
  refine sp pM ?_
  refine sp pMa ?_
  refine oNil ?_
  refine aSeq ?_
  refine aReg ?_
  refine sq ?_
  refine qMM boA rfl (fun b13 => ?_)
  refine sp pMa ?_
  refine oNil ?_
  refine aSeq ?_
  refine aSeq ?_
  refine aReg ?_
  refine sp pM ?_
  refine sp pMa ?_
  refine oNil ?_
  refine aBlock ?_
  refine loopF (α := Int × List (Int × Int) × List (Int × Bool)) (kept := [(0, _), (1, _), (5, _), (6, _)]) (fun (n, m, dm) => WOut l r m dm n) (fun (n, m, dm) => [(7, .int n)]) (fun (n, m, dm) => [.map b10 (kvM inA m), .map b13 (kvM boA dm)]) (fun (n, m, dm) => 66 - cntG (DF dm)) (r, mPut [] r 1073741825, []) ?_ ⟨gInt rfl (by first | rfl | omega | simp), rfl, rfl, rfl, rfl, trivial⟩ (by repeat constructor) ?_
  · skip
    refine ⟨winv_new h0 h1, fun n k a ha hd => by simp [DF, mGet] at hd, .inr ⟨by simp [mPut, mKeys], rfl, fun k hk _ => by simp [mPut, mKeys] at hk; subst hk; exact Int.le_refl _⟩⟩
  · rintro ⟨n, m, dm⟩ ho
    refine aSeq ?_
    refine aSeq ?_
    refine aReg ?_
    refine sp pM ?_
    refine sp pB ?_
    refine oNil ?_
    refine aCondNe rfl (fun c16 => ?_) (fun c16 => ?_)
    · skip
      refine aSkip ?_
      refine aSeq ?_
      refine aBlock ?_
      refine aSeq ?_
      refine aReg ?_
      refine sp pM ?_
      refine sp pM ?_
      refine sa ?_
      first | refine oMP rfl rfl rfl rfl mo_206 ?_ | refine oMapSet rfl rfl rfl rfl rfl (by repeat constructor) mo_206 ?_
      refine oNil ?_
      refine aSeq ?_
      refine aReg ?_
      refine sp pM ?_
      refine sp (by first | exact pLm sl_68 | exact pLs sl_68) ?_
      refine sp pM ?_
      refine oNil ?_
      refine aBlock ?_
      refine loopF (α := Nat × List (Int × Int)) (kept := [(0, _), (1, _), (5, _), (6, _), (7, _), (22, _), (23, _)]) (fun (i, m') => i ≤ l.length ∧ WInn l r m' (DF (mPut dm n true)) n i) (fun (i, m') => [(24, .int i)]) (fun (i, m') => [.map b10 (kvM inA m')]) (fun (i, m') => l.length - i) (0, m) ?_ ⟨gInt rfl (by first | rfl | omega | simp), rfl, rfl, rfl, rfl, rfl, rfl, rfl, trivial⟩ (by repeat constructor) ?_
      · skip
        exact ⟨by omega, ho.inn (by assumption)⟩
      · rintro ⟨i, m'⟩ ⟨hi, hin⟩
        refine aSeq ?_
        refine aReg ?_
        refine sp pB ?_
        refine oNil ?_
        refine aSeq ?_
        refine aCondDec rfl (fun c25 => ?_) (fun c25 => ?_)
        · skip
          refine aSkip ?_
          refine aSeq ?_
          refine aBlock ?_
          refine aSeq ?_
          refine aReg ?_
          first | refine sp (pIx es_68) ?_ | (refine obtSN 22 24 rfl rfl (by omega) (fun x26 hx26 => ?_); refine sp (pIs es_68 hx26) ?_) | (refine obtS 22 24 rfl rfl (by omega) (by omega) (fun x26 hx26 => ?_); refine sp (pIs es_68 hx26) ?_) | refine sp (pIo es_68) ?_
          refine sr (by first | exact rSW ty_147 rfl | exact rSA ty_147) ?_
          refine sq ?_
          refine qAlloc rfl rfl (by decide) ze_147 rfl (fun b9 => ?_)
          refine sa ?_
          refine oStW rfl rfl rfl rfl (by repeat constructor) ty_147 ?_
          refine oNil ?_
          refine aSeq ?_
          refine aReg ?_
          have hxk := hl x26 (List.mem_of_getElem? hx26)
          unfold AOk at hxk
          refine sp (pFb fd_147_0) ?_
          refine sr (rB1 ty_3) ?_
          refine sp pM ?_
          refine sp pB ?_
          refine oNil ?_
          refine aCondEq rfl (fun c31 => ?_) (fun c31 => ?_)
          · skip
            refine aReg ?_
            refine sp pM ?_
            refine sp (pFb fd_147_1) ?_
            refine sr (rB1 ty_3) ?_
            refine sp pM ?_
            refine sp (pFb fd_147_1) ?_
            refine sr (rB1 ty_3) ?_
            refine sr (rMGi mo_183 ze_3) ?_
            refine sp pM ?_
            refine sp pM ?_
            refine sr (rMGi mo_183 ze_3) ?_
            refine sp (pFb fd_147_2) ?_
            refine sr (rB1 ty_3) ?_
            refine sp pMin ?_
            refine sp pMax ?_
            refine sa ?_
            first | refine oMP rfl rfl rfl rfl mo_183 ?_ | refine oMapSet rfl rfl rfl rfl rfl (by repeat constructor) mo_183 ?_
            refine oNil ?_
            refine aReg ?_
            refine sp pAd ?_
            refine sp pM ?_
            refine oNil ?_
            refine ⟨(i + 1, _), ?_, by (try dsimp only); omega, ⟨gInt rfl (by first | rfl | omega | simp), rfl, rfl, rfl, rfl, rfl, rfl, rfl, trivial⟩, _, (by repeat constructor)⟩
            refine ⟨by omega, ?_⟩
            first
              | exact hin.skip hx26 (by assumption)
              | exact hin.put hl hx26 (by assumption)
          · skip
            refine aSkip ?_
            refine aReg ?_
            refine sp pAd ?_
            refine sp pM ?_
            refine oNil ?_
            refine ⟨(i + 1, _), ?_, by (try dsimp only); omega, ⟨gInt rfl (by first | rfl | omega | simp), rfl, rfl, rfl, rfl, rfl, rfl, rfl, trivial⟩, _, (by repeat constructor)⟩
            refine ⟨by omega, ?_⟩
            first
              | exact hin.skip hx26 (by assumption)
              | exact hin.put hl hx26 (by assumption)
        · skip
          refine aExit rfl ?_
          refine aReg ?_
          refine sp pM ?_
          refine sp pM ?_
          refine sa ?_
          refine ca rfl rfl rfl (wide_widest b10 b13 m' (mPut dm n true) (by have := map_len hin.1.nd (fun v hv => ⟨(hin.1.key v hv).1, (hin.1.key v hv).2.1⟩); omega) (fun v hv => ⟨(hin.1.key v hv).1, (hin.1.key v hv).2.1⟩)) ?_
          rintro _ _ ⟨n', rfl, rfl, hnx⟩
          refine sp pMa ?_
          refine oNil ?_
          have hcn : 66 - cntG (DF (mPut dm n true)) < 66 - cntG (DF dm) := by
            rcases ho.2.2 with ⟨e, _⟩ | ⟨h2, h3, _⟩
            · exact absurd e (by assumption)
            · have hk := ho.1.key n h2
              have := cnt_up hk.1 hk.2.1 h3
              have := cntG_le (updF (DF dm) n true)
              rw [DF_put]
              omega
          refine ⟨(n', _, _), ?_, by (try dsimp only); exact hcn, ⟨gInt rfl (by first | rfl | omega | simp), rfl, rfl, rfl, rfl, trivial⟩, _, (by repeat constructor)⟩
          exact hin.out (by omega) hnx
    · skip
      refine aExit rfl ?_
      refine aSeq ?_
      have hall : ∀ k ∈ mKeys m, DF dm k = true := by
        rcases ho.2.2 with ⟨_, h2⟩ | ⟨h2, _, _⟩
        · exact h2
        · have := ho.1.key n h2; omega
      refine aReg ?_
      refine sp pM ?_
      refine sp pM ?_
      refine sa ?_
      first | refine oMD rfl rfl rfl rfl mo_183 ?_ | refine oMapDel rfl rfl rfl rfl (by repeat constructor) mo_183 ?_
      refine oNil ?_
      refine aSeq ?_
      refine aReg ?_
      refine sp pM ?_
      refine sp pMa ?_
      refine oNil ?_
      refine aRet ?_
      exact ⟨_, [_], _, rfl, (by repeat constructor), b10, _, rfl, rfl, winv_keys hl h0 h1 ho.1 ho.2.1 hall⟩

end A
end Go.Proofs.Ytkgemkadebgeoaa
