/- What functions of the program compute: wide38 -/
import Derived.Test.YtkgemkadebgeoaaBwide38p
import Derived.Test.YtkgemkadebgeoaaProg
import Derived.KernelRfl
set_option linter.unusedVariables false
set_option linter.unusedSimpArgs false
namespace Go.Proofs.Ytkgemkadebgeoaa
namespace A

theorem mo_183 : mapOf Try.prog 183 = some (3, 3) := by kernel_rfl
theorem mo_206 : mapOf Try.prog 206 = some (3, 4) := by kernel_rfl
theorem ze_4 : zeroOf Try.prog 4 = some (.bool false) := by kernel_rfl
structure Spot where
  c : Int
  n : Int
  deriving DecidableEq, Inhabited
def spotC (s : Spot) : List AV := [.v (.int .u64 s.c), .int s.n]
def DF (dm : List (Int × Bool)) : Int → Bool := fun v => (mGet dm v).getD false
theorem DF_put {dm : List (Int × Bool)} {n : Int} {b : Bool} : DF (mPut dm n b) = updF (DF dm) n b := by
  funext v
  simp only [DF, mGet_put, updF]
  split <;> rfl
def WNext (m : List (Int × Int)) (D : Int → Bool) (n : Int) : Prop := (n = 0 ∧ ∀ k ∈ mKeys m, D k = true) ∨ (n ∈ mKeys m ∧ D n = false ∧ ∀ k ∈ mKeys m, D k = false → aget m k ≤ aget m n)
def Best (m : List (Int × Int)) (D : Int → Bool) (ks : List Int) (n : Int) : Prop := (n = 0 ∧ ∀ k ∈ ks, D k = true) ∨ (n ∈ ks ∧ D n = false ∧ ∀ k ∈ ks, D k = false → aget m k ≤ aget m n)
theorem best_done {m : List (Int × Int)} {D : Int → Bool} {ks : List Int} {n x : Int} {i : Nat} (hx : ks[i]? = some x) (h : Best m D (ks.take i) n) (hd : D x = true) : Best m D (ks.take (i + 1)) n := by
  rw [take_step hx]
  rcases h with ⟨h1, h2⟩ | ⟨h1, h2, h3⟩
  · exact .inl ⟨h1, fun k hk => by rcases List.mem_append.1 hk with hk | hk; exact h2 k hk; rw [List.mem_singleton.1 hk]; exact hd⟩
  · exact .inr ⟨List.mem_append_left _ h1, h2, fun k hk hdk => by rcases List.mem_append.1 hk with hk | hk; exact h3 k hk hdk; rw [List.mem_singleton.1 hk, hd] at hdk; cases hdk⟩
theorem best_less {m : List (Int × Int)} {D : Int → Bool} {ks : List Int} {n x : Int} {i : Nat} (hx : ks[i]? = some x) (h : Best m D (ks.take i) n) (hn : n ≠ 0) (hle : aget m x ≤ aget m n) : Best m D (ks.take (i + 1)) n := by
  rw [take_step hx]
  rcases h with ⟨h1, _⟩ | ⟨h1, h2, h3⟩
  · exact absurd h1 hn
  · exact .inr ⟨List.mem_append_left _ h1, h2, fun k hk hdk => by rcases List.mem_append.1 hk with hk | hk; exact h3 k hk hdk; rw [List.mem_singleton.1 hk]; exact hle⟩
theorem best_new {m : List (Int × Int)} {D : Int → Bool} {ks : List Int} {n x : Int} {i : Nat} (hx : ks[i]? = some x) (h : Best m D (ks.take i) n) (hd : D x = false) (hgt : n = 0 ∨ aget m n < aget m x) (hk0 : ∀ k ∈ ks, k ≠ 0) : Best m D (ks.take (i + 1)) x := by
  rw [take_step hx]
  refine .inr ⟨List.mem_append_right _ (by simp), hd, fun k hk hdk => ?_⟩
  rcases List.mem_append.1 hk with hk | hk
  · rcases h with ⟨_, h2⟩ | ⟨h1, _, h3⟩
    · rw [h2 k hk] at hdk; cases hdk
    · have := h3 k hk hdk
      rcases hgt with e | e
      · exact absurd e (hk0 n (List.mem_of_mem_take h1))
      · omega
  · rw [List.mem_singleton.1 hk]; omega

/- wide.widest -/
set_option maxRecDepth 100000 in
set_option maxHeartbeats 1000000 in
theorem wide_widest (ba bd : Nat) (m : List (Int × Int)) (dm : List (Int × Bool)) (hm : m.length ≤ 1000000) (hk : ∀ v ∈ mKeys m, 1 ≤ v ∧ v ≤ 64) : Triple Try.prog 135 [.v (.map (some ba)), .v (.map (some bd))] [.map ba (kvM inA m), .map bd (kvM boA dm)] (fun q h' => ∃ n, q = .int n ∧ h' = [.map ba (kvM inA m), .map bd (kvM boA dm)] ∧ WNext m (DF dm) n) := by
  refine triple_of Try.func135 rfl (by kernel_rfl) rfl (by simp) ?_
  refine aSeq ?_
  refine aReg ?_
  refine sp pMa ?_
  refine oNil ?_
  refine aSeq ?_
  refine aReg ?_
  refine sp pMa ?_
  refine oNil ?_
  refine aSeq ?_
  refine aSeq ?_
  refine aReg ?_
  refine sp pM ?_
  refine sa ?_
  refine ca rfl rfl rfl (keys_mii ba) ?_
  rintro _ _ ⟨pb, rfl, rfl⟩
  refine sa ?_
  refine cai rfl rfl rfl (sorted_int_s _ _ (kvM inA m) _ (keys1_mii_iter ba pb (kvM inA m)) (by rw [kvM_len]; exact hm)) ?_
  rw [kvM_keys]
  refine sp (by first | exact pLm sl_103 | exact pLs sl_103 | exact pLv sl_103) ?_
  refine sp pM ?_
  refine oNil ?_
  refine aBlock ?_
  have hk0 : ∀ k ∈ sortI (mKeys m), k ≠ 0 := fun k h e => by have := hk k (sortI_mem.1 h); omega
  have hsl : (sortI (mKeys m)).length ≤ 1000000 := by rw [sortI_length, mKeys, List.length_map]; exact hm
  refine loopF (α := Nat × Int) (kept := [(0, _), (1, _), (10, _), (11, _)]) (fun (i, n) => i ≤ (sortI (mKeys m)).length ∧ Best m (DF dm) ((sortI (mKeys m)).take i) n) (fun (i, n) => [(12, .int i), (5, .int n)]) (fun (i, n) => []) (fun (i, n) => (sortI (mKeys m)).length - i) (0, 0) ?_ ⟨gInt rfl (by first | rfl | omega | simp), gInt rfl (by first | rfl | omega | simp), rfl, rfl, rfl, rfl, trivial⟩ (by repeat constructor) ?_
  · skip
    exact ⟨by omega, .inl ⟨rfl, fun k hk => by simp at hk⟩⟩
  · rintro ⟨i, n⟩ ⟨hi, hb⟩
    refine aSeq ?_
    refine aReg ?_
    refine sp pB ?_
    refine oNil ?_
    refine aSeq ?_
    refine aCondDec rfl (fun c13 => ?_) (fun c13 => ?_)
    · skip
      refine aSkip ?_
      refine aSeq ?_
      refine aBlock ?_
      refine aSeq ?_
      refine aReg ?_
      first | refine sp (pIx es_103) ?_ | (refine obtSN 10 12 rfl rfl (by omega) (fun x14 hx14 => ?_); refine sp (pIs es_103 hx14) ?_) | (refine obtS 10 12 rfl rfl (by omega) (by omega) (fun x14 hx14 => ?_); refine sp (pIs es_103 hx14) ?_) | refine sp (pIo es_103) ?_
      refine sr (by first | exact rS1 ty_3 | exact rB1 ty_3 | exact rAr ty_3 | exact rArL ty_3 | exact rArR ty_3 (by first | rfl | exact arrF_len one_len)) ?_
      refine sp pMa ?_
      refine oNil ?_
      refine aSeq ?_
      refine aReg ?_
      refine sp pM ?_
      refine sp pM ?_
      refine sr (rMGb mo_206 ze_4) ?_
      refine sp pNo ?_
      refine sp pM ?_
      refine oSplitNot 20 rfl (fun c20 => ?_) (fun c20 => ?_)
      · skip
        refine gp pM ?_
        refine gp pB ?_
        refine gp pM ?_
        refine oSplitEq 23 rfl (fun c23 => ?_) (fun c23 => ?_)
        · skip
          refine gf ?_
          refine gf ?_
          refine gf ?_
          refine gf ?_
          refine gf ?_
          refine gf ?_
          refine gf ?_
          refine gp pK ?_
          refine sp pK ?_
          refine oNil ?_
          refine aCondT rfl ?_
          refine aReg ?_
          refine sp pM ?_
          refine sp pMa ?_
          refine oNil ?_
          refine aReg ?_
          refine sp pAd ?_
          refine sp pM ?_
          refine oNil ?_
          refine ⟨(i + 1, _), ?_, by (try dsimp only); omega, ⟨gInt rfl (by first | rfl | omega | simp), gInt rfl (by first | rfl | omega | simp), rfl, rfl, rfl, rfl, trivial⟩, _, (by repeat constructor)⟩
          refine ⟨by omega, ?_⟩
          first
            | exact best_done hx14 hb (by simpa [DF] using c20)
            | exact best_new hx14 hb (by simpa [DF] using c20) (.inl (by assumption)) hk0
            | exact best_new hx14 hb (by simpa [DF] using c20) (.inr (by assumption)) hk0
            | exact best_less hx14 hb (by assumption) (by unfold aget; omega)
        · skip
          refine gp pM ?_
          refine gp pM ?_
          refine gr (rMGi mo_183 ze_3) ?_
          refine gp pM ?_
          refine gp pM ?_
          refine gr (rMGi mo_183 ze_3) ?_
          refine gp pB ?_
          refine gp pK ?_
          refine sp pK ?_
          refine oNil ?_
          refine aCondDec rfl (fun c32 => ?_) (fun c32 => ?_)
          · skip
            refine aReg ?_
            refine sp pM ?_
            refine sp pMa ?_
            refine oNil ?_
            refine aReg ?_
            refine sp pAd ?_
            refine sp pM ?_
            refine oNil ?_
            refine ⟨(i + 1, _), ?_, by (try dsimp only); omega, ⟨gInt rfl (by first | rfl | omega | simp), gInt rfl (by first | rfl | omega | simp), rfl, rfl, rfl, rfl, trivial⟩, _, (by repeat constructor)⟩
            refine ⟨by omega, ?_⟩
            first
              | exact best_done hx14 hb (by simpa [DF] using c20)
              | exact best_new hx14 hb (by simpa [DF] using c20) (.inl (by assumption)) hk0
              | exact best_new hx14 hb (by simpa [DF] using c20) (.inr (by assumption)) hk0
              | exact best_less hx14 hb (by assumption) (by unfold aget; omega)
          · skip
            refine aSkip ?_
            refine aReg ?_
            refine sp pAd ?_
            refine sp pM ?_
            refine oNil ?_
            refine ⟨(i + 1, _), ?_, by (try dsimp only); omega, ⟨gInt rfl (by first | rfl | omega | simp), gInt rfl (by first | rfl | omega | simp), rfl, rfl, rfl, rfl, trivial⟩, _, (by repeat constructor)⟩
            refine ⟨by omega, ?_⟩
            first
              | exact best_done hx14 hb (by simpa [DF] using c20)
              | exact best_new hx14 hb (by simpa [DF] using c20) (.inl (by assumption)) hk0
              | exact best_new hx14 hb (by simpa [DF] using c20) (.inr (by assumption)) hk0
              | exact best_less hx14 hb (by assumption) (by unfold aget; omega)
      · skip
        refine gf ?_
        refine gf ?_
        refine gf ?_
        refine gf ?_
        refine gf ?_
        refine gf ?_
        refine gf ?_
        refine gf ?_
        refine gf ?_
        refine gf ?_
        refine gf ?_
        refine sp pK ?_
        refine oNil ?_
        refine aCondF rfl ?_
        refine aSkip ?_
        refine aReg ?_
        refine sp pAd ?_
        refine sp pM ?_
        refine oNil ?_
        refine ⟨(i + 1, _), ?_, by (try dsimp only); omega, ⟨gInt rfl (by first | rfl | omega | simp), gInt rfl (by first | rfl | omega | simp), rfl, rfl, rfl, rfl, trivial⟩, _, (by repeat constructor)⟩
        refine ⟨by omega, ?_⟩
        first
          | exact best_done hx14 hb (by simpa [DF] using c20)
          | exact best_new hx14 hb (by simpa [DF] using c20) (.inl (by assumption)) hk0
          | exact best_new hx14 hb (by simpa [DF] using c20) (.inr (by assumption)) hk0
          | exact best_less hx14 hb (by assumption) (by unfold aget; omega)
    · skip
      refine aExit rfl ?_
      refine aSeq ?_
      refine aReg ?_
      refine sp pM ?_
      refine sp pMa ?_
      refine oNil ?_
      refine aRet ?_
      obtain rfl : i = (sortI (mKeys m)).length := by omega
      rw [List.take_length] at hb
      refine ⟨_, [_, _], _, rfl, (by repeat constructor), n, rfl, rfl, ?_⟩
      rcases hb with ⟨h1, h2⟩ | ⟨h1, h2, h3⟩
      · exact .inl ⟨h1, fun k hk => h2 k (sortI_mem.2 hk)⟩
      · exact .inr ⟨sortI_mem.1 h1, h2, fun k hk => h3 k (sortI_mem.2 hk)⟩

end A
end Go.Proofs.Ytkgemkadebgeoaa
