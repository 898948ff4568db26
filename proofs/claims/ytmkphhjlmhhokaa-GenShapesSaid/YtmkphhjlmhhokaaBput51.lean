/- What functions of the program compute: put51 -/
import Derived.Test.YtmkphhjlmhhokaaBgen51
import Derived.Test.YtmkphhjlmhhokaaProg
import Derived.KernelRfl
set_option linter.unusedVariables false
set_option linter.unusedSimpArgs false
namespace Go.Proofs.Ytmkphhjlmhhokaa
namespace A

def ltW (w x : Wire) : Bool := decide (x.a < w.a) || ((x.a == w.a) && decide (x.b < w.b))
/-- Wires with one more, in order, each once. -/
def putW (l : List Wire) (w : Wire) : List Wire := if (l.dropWhile (ltW w)).head? = some w then l else l.takeWhile (ltW w) ++ [w] ++ l.dropWhile (ltW w)
def mkW (a b cost : Int) : Wire := if a > b then ⟨b, a, true, cost, cost⟩ else ⟨a, b, true, cost, cost⟩
theorem tw_split {α : Type} {p : α → Bool} : ∀ {l : List α} {k : Nat}, (∀ x ∈ l.take k, p x = true) → k ≤ l.length → (∀ x, l[k]? = some x → p x = false) → l.takeWhile p = l.take k ∧ l.dropWhile p = l.drop k
  | l, 0, _, _, h => by
    cases l with
    | nil => simp
    | cons x l => have := h x rfl; simp [this]
  | [], k + 1, _, h, _ => by simp at h
  | x :: l, k + 1, h1, h2, h3 => by
    have hx : p x = true := h1 x (by simp)
    have := tw_split (l := l) (k := k) (fun y hy => h1 y (by simp [hy])) (by simpa using h2) (fun y hy => h3 y (by simpa using hy))
    simp [hx, this.1, this.2]
theorem putW_len (l : List Wire) (w : Wire) : (putW l w).length ≤ l.length + 1 := by
  unfold putW
  split
  · omega
  · have h := congrArg List.length (List.takeWhile_append_dropWhile (p := ltW w) (l := l))
    simp only [List.length_append, List.length_cons, List.length_nil] at h ⊢
    omega
theorem ne_of_some {l : List Wire} {k : Nat} {w : Wire} (h : l[k]? = some w) : l[k]?.getD ⟨0, 0, false, 0, 0⟩ = w := by rw [h]; rfl

/- waymarkref51.put -/
def ref51_put_r7_T : Bool × List (List Nat × List Nat) := (true, [([], []), ([], []), ([1], [1]), ([0, 2], [0, 2]), ([3], [3]), ([4], [4]), ([4], [4]), ([5, 6, 4], [4, 5, 6]), ([7, 4], [4, 7]), ([4], [4]), ([8, 9, 4], [4, 8, 9]), ([4, 10], [4, 10])])
def ref51_put_r7_B : List Nat := [0, 0, 2, 7, 15, 31, 31, 127, 255, 31, 1023, 2047]
theorem ref51_put_r7_t : Go.Proofs.YtmkphhjlmhhokaaW.PrintLast.rtab .any (Go.Proofs.YtmkphhjlmhhokaaW.PrintLast.opsOf Try.f30 7) = ref51_put_r7_T := by kernel_rfl
theorem ref51_put_r7_b : Go.Proofs.YtmkphhjlmhhokaaW.PrintLast.waitsOk ref51_put_r7_T.2 ref51_put_r7_B = true := by kernel_rfl
def ref51_put_r10_T : Bool × List (List Nat × List Nat) := (true, [([], []), ([], []), ([], []), ([1, 2], [1, 2]), ([0, 3], [0, 3]), ([], []), ([5], [5]), ([4, 6, 4], [4, 6]), ([], []), ([7, 8, 7], [7, 8]), ([9, 9, 0, 1, 2, 3, 4, 5, 6, 7, 8, 9], [9])])
def ref51_put_r10_B : List Nat := [0, 0, 0, 6, 15, 0, 32, 127, 0, 511, 1023]
theorem ref51_put_r10_t : Go.Proofs.YtmkphhjlmhhokaaW.PrintLast.rtab .any (Go.Proofs.YtmkphhjlmhhokaaW.PrintLast.opsOf Try.f30 10) = ref51_put_r10_T := by kernel_rfl
theorem ref51_put_r10_b : Go.Proofs.YtmkphhjlmhhokaaW.PrintLast.waitsOk ref51_put_r10_T.2 ref51_put_r10_B = true := by kernel_rfl
set_option maxRecDepth 100000 in
set_option maxHeartbeats 2000000 in
theorem ref51_put (l : List Wire) (a b cost : Int) (hl : l.length ≤ 4000) : Triple Try.prog 30 [AV.sl 5 (l.map wireC), .int a, .int b, .int cost] [] (fun r h' => r = .sl 5 ((putW l (mkW a b cost)).map wireC) ∧ h' = []) := by
  refine triple_of Try.func30 rfl (by kernel_rfl) rfl (by simp) ?_
  refine aSeq ?_
  refine aReg ?_
  refine oP rfl (by exact pMv (.inr rfl) rfl) rfl (by decide) ?_
  refine oNil ?_
  refine aCutI (α := Int × Int) (fun (x, y) => mkW a b cost = ⟨x, y, true, cost, cost⟩) (fun (x, y) => ([(0, AV.sl 5 (l.map wireC)), (1, .int x), (2, .int y), (3, .int cost)], [])) ?_ ?_
  · skip
    refine aSeq ?_
    refine aReg ?_
    refine oP rfl (by exact pMv (.inl rfl) rfl) rfl (by decide) ?_
    refine oP rfl (by exact pMv (.inl rfl) rfl) rfl (by decide) ?_
    refine oP rfl (by exact pBin rfl rfl rfl rfl rfl) rfl (by decide) ?_
    refine oNil ?_
    refine aCondDec rfl (fun c14 => ?_) (fun c14 => ?_)
    · skip
      refine aReg ?_
      refine oP rfl (by exact pMv (.inl rfl) rfl) rfl (by decide) ?_
      refine oP rfl (by exact pMv (.inl rfl) rfl) rfl (by decide) ?_
      refine oP rfl (by exact pMv (.inr rfl) rfl) rfl (by decide) ?_
      refine oP rfl (by exact pMv (.inr rfl) rfl) rfl (by decide) ?_
      refine oNil ?_
      first
        | exact ⟨(b, a), by show mkW a b cost = _; rw [mkW, if_pos c14], weak_env ⟨rfl, rfl, rfl, rfl, trivial⟩⟩
        | exact ⟨(a, b), by show mkW a b cost = _; rw [mkW, if_neg c14], weak_env ⟨rfl, rfl, rfl, rfl, trivial⟩⟩
    · skip
      refine aSkip ?_
      first
        | exact ⟨(b, a), by show mkW a b cost = _; rw [mkW, if_pos c14], weak_env ⟨rfl, rfl, rfl, rfl, trivial⟩⟩
        | exact ⟨(a, b), by show mkW a b cost = _; rw [mkW, if_neg c14], weak_env ⟨rfl, rfl, rfl, rfl, trivial⟩⟩
  · rintro ⟨x, y⟩ hm
    skip
    refine aSeq ?_
    refine aReg ?_
    refine oP rfl (by exact pMv (.inl rfl) rfl) rfl (by decide) ?_
    refine oP rfl (by exact pMv (.inl rfl) rfl) rfl (by decide) ?_
    refine oP rfl (by exact pMv (.inl rfl) rfl) rfl (by decide) ?_
    refine oP rfl (by exact pMv (.inl rfl) rfl) rfl (by decide) ?_
    refine oP rfl (by exact pBuild rfl st_46 ze_46 rfl rfl rfl rfl) rfl (by decide) ?_
    refine oQ rfl ?_
    refine qAlloc rfl rfl (by decide) ze_46 rfl (fun b9 => ?_)
    refine oA rfl ?_
    refine oStB rfl rfl rfl rfl (by repeat constructor) ty_46 rfl (Nat.le_of_ble_eq_true rfl) rfl ?_
    refine oNil ?_
    refine aSeq ?_
    refine aReg ?_
    refine oP rfl (by exact pMv (.inr rfl) rfl) rfl (by decide) ?_
    refine oNil ?_
    refine aCutI (α := Nat × Nat) (fun (b9, k) => k ≤ l.length ∧ l.takeWhile (ltW ⟨x, y, true, cost, cost⟩) = l.take k ∧ l.dropWhile (ltW ⟨x, y, true, cost, cost⟩) = l.drop k) (fun (b9, k) => ([(0, AV.sl 5 (l.map wireC)), (1, .int x), (2, .int y), (9, .v (.pointer (some ⟨b9, 0, none⟩))), (10, .int k)], [.box b9 (wireC ⟨x, y, true, cost, cost⟩)])) ?_ ?_
    · skip
      refine aBlock ?_
      refine aLoopI (α := Nat) (fun k => k ≤ l.length ∧ ∀ z ∈ l.take k, ltW ⟨x, y, true, cost, cost⟩ z = true) (fun k => ([(0, AV.sl 5 (l.map wireC)), (1, .int x), (2, .int y), (9, .v (.pointer (some ⟨b9, 0, none⟩))), (10, .int k)], [.box b9 (wireC ⟨x, y, true, cost, cost⟩)])) (fun k => l.length - k) 0 ?_ ?_ ?_
      · skip
        exact ⟨by omega, by simp⟩
      · skip
        exact weak_sub ⟨rfl, rfl, rfl, rfl, gInt rfl (by simp), trivial⟩ (by repeat constructor)
      · rintro k ⟨hk, hall⟩
        skip
        refine aSeq ?_
        refine aSeq ?_
        refine aReg ?_
        refine oP rfl (by exact pMv (.inl rfl) rfl) rfl (by decide) ?_
        refine oP rfl (by exact pMv (.inl rfl) rfl) rfl (by decide) ?_
        refine oP rfl (by first | exact pLenS' (pLenS rfl rfl sl_24) (List.length_map _) | exact pLenS rfl rfl sl_24 | exact pLenV rfl rfl sl_24) rfl (by decide) ?_
        refine oP rfl (by exact pBin rfl rfl rfl rfl rfl) rfl (by decide) ?_
        refine oP rfl (by exact pMv (.inl rfl) rfl) rfl (by decide) ?_
        refine oSplitDec 26 rfl (fun c26 => ?_) (fun c26 => ?_)
        · skip
          obtain ⟨e, ha⟩ : ∃ e, l[k]? = some e := ⟨_, List.getElem?_eq_getElem (by omega)⟩
          refine oGP rfl rfl rfl rfl (by exact pMv (.inl rfl) rfl) rfl (by decide) ?_
          refine oGP rfl rfl rfl rfl (by exact pMv (.inl rfl) rfl) rfl (by decide) ?_
          refine oGP rfl rfl rfl rfl (by exact pIdxS rfl rfl rfl es_24 (by omega) (map_get (f := wireC) ha)) rfl (by decide) ?_
          refine oGP rfl rfl rfl rfl (by first | exact pFldB rfl rfl fd_46_0 | exact pFldS rfl rfl fd_46_0) rfl (by decide) ?_
          refine oGR rfl rfl rfl rfl (by first | exact rLdS1 rfl rfl ty_3 rfl | exact rLdB1 rfl rfl (by repeat constructor) ty_3 rfl) rfl (by decide) ?_
          refine oGP rfl rfl rfl rfl (by exact pMv (.inl rfl) rfl) rfl (by decide) ?_
          refine oGP rfl rfl rfl rfl (by exact pBin rfl rfl rfl rfl rfl) rfl (by decide) ?_
          refine oGP rfl rfl rfl rfl (by exact pMv (.inl rfl) rfl) rfl (by decide) ?_
          refine oSplitDec 34 rfl (fun c34 => ?_) (fun c34 => ?_)
          · skip
            refine oGF rfl rfl rfl rfl rfl (by decide) ?_
            refine oGF rfl rfl rfl rfl rfl (by decide) ?_
            refine oGF rfl rfl rfl rfl rfl (by decide) ?_
            refine oGF rfl rfl rfl rfl rfl (by decide) ?_
            refine oGF rfl rfl rfl rfl rfl (by decide) ?_
            refine oGF rfl rfl rfl rfl rfl (by decide) ?_
            refine oGF rfl rfl rfl rfl rfl (by decide) ?_
            refine oGF rfl rfl rfl rfl rfl (by decide) ?_
            refine oGF rfl rfl rfl rfl rfl (by decide) ?_
            refine oGF rfl rfl rfl rfl rfl (by decide) ?_
            refine oGF rfl rfl rfl rfl rfl (by decide) ?_
            refine oGF rfl rfl rfl rfl rfl (by decide) ?_
            refine oGF rfl rfl rfl rfl rfl (by decide) ?_
            refine oGF rfl rfl rfl rfl rfl (by decide) ?_
            refine oGF rfl rfl rfl rfl rfl (by decide) ?_
            refine oGF rfl rfl rfl rfl rfl (by decide) ?_
            refine oGP rfl rfl rfl rfl (by exact pPick rfl rfl rfl) rfl (by decide) ?_
            refine oP rfl (by exact pPick rfl rfl rfl) rfl (by decide) ?_
            refine oNil ?_
            refine aCondT rfl ?_
            refine aSkip ?_
            refine aBlock ?_
            refine aReg ?_
            refine oP rfl (by exact pMv (.inl rfl) rfl) rfl (by decide) ?_
            refine oP rfl (by exact pAdd rfl rfl rfl (by omega) (by omega)) rfl (by decide) ?_
            refine oP rfl (by exact pMv (.inr rfl) rfl) rfl (by decide) ?_
            refine oNil ?_
            refine ⟨k + 1, ⟨by omega, fun z hz => ?_⟩, by show l.length - (k + 1) < l.length - k; omega, weak_sub ⟨rfl, rfl, rfl, rfl, gInt rfl (by simp), trivial⟩ (by repeat constructor)⟩
            rw [take_step ha] at hz
            rcases List.mem_append.1 hz with hz | hz
            · exact hall z hz
            · obtain rfl := List.mem_singleton.1 hz
              simp_all [ltW]
          · skip
            refine oGP rfl rfl rfl rfl (by exact pMv (.inl rfl) rfl) rfl (by decide) ?_
            refine oGP rfl rfl rfl rfl (by exact pMv (.inl rfl) rfl) rfl (by decide) ?_
            refine oGP rfl rfl rfl rfl (by exact pIdxS rfl rfl rfl es_24 (by omega) (map_get (f := wireC) ha)) rfl (by decide) ?_
            refine oGP rfl rfl rfl rfl (by first | exact pFldB rfl rfl fd_46_0 | exact pFldS rfl rfl fd_46_0) rfl (by decide) ?_
            refine oGR rfl rfl rfl rfl (by first | exact rLdS1 rfl rfl ty_3 rfl | exact rLdB1 rfl rfl (by repeat constructor) ty_3 rfl) rfl (by decide) ?_
            refine oGP rfl rfl rfl rfl (by exact pMv (.inl rfl) rfl) rfl (by decide) ?_
            refine oGP rfl rfl rfl rfl (by exact pBin rfl rfl rfl rfl rfl) rfl (by decide) ?_
            refine oGP rfl rfl rfl rfl (by exact pMv (.inl rfl) rfl) rfl (by decide) ?_
            refine oSplitEq 42 rfl (fun c42 => ?_) (fun c42 => ?_)
            · skip
              refine oGP rfl rfl rfl rfl (by exact pMv (.inl rfl) rfl) rfl (by decide) ?_
              refine oGP rfl rfl rfl rfl (by exact pMv (.inl rfl) rfl) rfl (by decide) ?_
              refine oGP rfl rfl rfl rfl (by exact pIdxS rfl rfl rfl es_24 (by omega) (map_get (f := wireC) ha)) rfl (by decide) ?_
              refine oGP rfl rfl rfl rfl (by first | exact pFldB rfl rfl fd_46_1 | exact pFldS rfl rfl fd_46_1) rfl (by decide) ?_
              refine oGR rfl rfl rfl rfl (by first | exact rLdS1 rfl rfl ty_3 rfl | exact rLdB1 rfl rfl (by repeat constructor) ty_3 rfl) rfl (by decide) ?_
              refine oGP rfl rfl rfl rfl (by exact pMv (.inl rfl) rfl) rfl (by decide) ?_
              refine oGP rfl rfl rfl rfl (by exact pBin rfl rfl rfl rfl rfl) rfl (by decide) ?_
              refine oGP rfl rfl rfl rfl (by exact pPick rfl rfl rfl) rfl (by decide) ?_
              refine oGP rfl rfl rfl rfl (by exact pPick rfl rfl rfl) rfl (by decide) ?_
              refine oP rfl (by exact pPick rfl rfl rfl) rfl (by decide) ?_
              refine oNil ?_
              refine aCondDec rfl (fun c52 => ?_) (fun c52 => ?_)
              · skip
                refine aSkip ?_
                refine aBlock ?_
                refine aReg ?_
                refine oP rfl (by exact pMv (.inl rfl) rfl) rfl (by decide) ?_
                refine oP rfl (by exact pAdd rfl rfl rfl (by omega) (by omega)) rfl (by decide) ?_
                refine oP rfl (by exact pMv (.inr rfl) rfl) rfl (by decide) ?_
                refine oNil ?_
                refine ⟨k + 1, ⟨by omega, fun z hz => ?_⟩, by show l.length - (k + 1) < l.length - k; omega, weak_sub ⟨rfl, rfl, rfl, rfl, gInt rfl (by simp), trivial⟩ (by repeat constructor)⟩
                rw [take_step ha] at hz
                rcases List.mem_append.1 hz with hz | hz
                · exact hall z hz
                · obtain rfl := List.mem_singleton.1 hz
                  simp_all [ltW]
              · skip
                refine aExit rfl ?_
                refine ⟨(b9, k), ⟨hk, tw_split hall hk (fun e he => ?_)⟩, weak_sub ⟨rfl, rfl, rfl, rfl, rfl, trivial⟩ (by repeat constructor)⟩
                first
                  | (exfalso; have := (List.getElem?_eq_some_iff.1 he).1; omega)
                  | (rw [ha] at he; cases he; simp_all [ltW]; done)
            · skip
              refine oGF rfl rfl rfl rfl rfl (by decide) ?_
              refine oGF rfl rfl rfl rfl rfl (by decide) ?_
              refine oGF rfl rfl rfl rfl rfl (by decide) ?_
              refine oGF rfl rfl rfl rfl rfl (by decide) ?_
              refine oGF rfl rfl rfl rfl rfl (by decide) ?_
              refine oGF rfl rfl rfl rfl rfl (by decide) ?_
              refine oGF rfl rfl rfl rfl rfl (by decide) ?_
              refine oGP rfl rfl rfl rfl (by exact pPick rfl rfl rfl) rfl (by decide) ?_
              refine oGP rfl rfl rfl rfl (by exact pPick rfl rfl rfl) rfl (by decide) ?_
              refine oP rfl (by exact pPick rfl rfl rfl) rfl (by decide) ?_
              refine oNil ?_
              refine aCondF rfl ?_
              refine aExit rfl ?_
              refine ⟨(b9, k), ⟨hk, tw_split hall hk (fun e he => ?_)⟩, weak_sub ⟨rfl, rfl, rfl, rfl, rfl, trivial⟩ (by repeat constructor)⟩
              first
                | (exfalso; have := (List.getElem?_eq_some_iff.1 he).1; omega)
                | (rw [ha] at he; cases he; simp_all [ltW]; done)
        · skip
          refine oGF rfl rfl rfl rfl rfl (by decide) ?_
          refine oGF rfl rfl rfl rfl rfl (by decide) ?_
          refine oGF rfl rfl rfl rfl rfl (by decide) ?_
          refine oGF rfl rfl rfl rfl rfl (by decide) ?_
          refine oGF rfl rfl rfl rfl rfl (by decide) ?_
          refine oGF rfl rfl rfl rfl rfl (by decide) ?_
          refine oGF rfl rfl rfl rfl rfl (by decide) ?_
          refine oGF rfl rfl rfl rfl rfl (by decide) ?_
          refine oGF rfl rfl rfl rfl rfl (by decide) ?_
          refine oGF rfl rfl rfl rfl rfl (by decide) ?_
          refine oGF rfl rfl rfl rfl rfl (by decide) ?_
          refine oGF rfl rfl rfl rfl rfl (by decide) ?_
          refine oGF rfl rfl rfl rfl rfl (by decide) ?_
          refine oGF rfl rfl rfl rfl rfl (by decide) ?_
          refine oGF rfl rfl rfl rfl rfl (by decide) ?_
          refine oGF rfl rfl rfl rfl rfl (by decide) ?_
          refine oGF rfl rfl rfl rfl rfl (by decide) ?_
          refine oGF rfl rfl rfl rfl rfl (by decide) ?_
          refine oGF rfl rfl rfl rfl rfl (by decide) ?_
          refine oGF rfl rfl rfl rfl rfl (by decide) ?_
          refine oGF rfl rfl rfl rfl rfl (by decide) ?_
          refine oGF rfl rfl rfl rfl rfl (by decide) ?_
          refine oGF rfl rfl rfl rfl rfl (by decide) ?_
          refine oGF rfl rfl rfl rfl rfl (by decide) ?_
          refine oGF rfl rfl rfl rfl rfl (by decide) ?_
          refine oP rfl (by exact pPick rfl rfl rfl) rfl (by decide) ?_
          refine oNil ?_
          refine aCondF rfl ?_
          refine aExit rfl ?_
          refine ⟨(b9, k), ⟨hk, tw_split hall hk (fun e he => ?_)⟩, weak_sub ⟨rfl, rfl, rfl, rfl, rfl, trivial⟩ (by repeat constructor)⟩
          first
            | (exfalso; have := (List.getElem?_eq_some_iff.1 he).1; omega)
            | (rw [ha] at he; cases he; simp_all [ltW]; done)
    · rintro ⟨b9, k⟩ ⟨hk, ht, hd⟩
      skip
      refine aSeq ?_
      refine aSeq ?_
      refine aDrawT ref51_put_r7_t ref51_put_r7_b [] 12 #[false, false, false, false, false, false, false, false, false, false, false, false] (by kernel_rfl) rfl rfl (fun HT => ?_)
      refine dPure (i := 0) #[true, false, false, false, false, false, false, false, false, false, false, false] rfl rfl rfl (HT.any (by kernel_rfl)) (by exact pMv (.inl rfl) rfl) (by decide) ?_
      refine dPure (i := 1) #[true, true, false, false, false, false, false, false, false, false, false, false] rfl rfl rfl (HT.any (by kernel_rfl)) (by exact pMv (.inl rfl) rfl) (by decide) ?_
      refine dPure (i := 2) #[true, true, true, false, false, false, false, false, false, false, false, false] rfl rfl rfl (HT.any (by kernel_rfl)) (by first | exact pLenS' (pLenS rfl rfl sl_24) (List.length_map _) | exact pLenS rfl rfl sl_24 | exact pLenV rfl rfl sl_24) (by decide) ?_
      refine dPure (i := 3) #[true, true, true, true, false, false, false, false, false, false, false, false] rfl rfl rfl (HT.any (by kernel_rfl)) (by exact pBin rfl rfl rfl rfl rfl) (by decide) ?_
      refine dPure (i := 4) #[true, true, true, true, true, false, false, false, false, false, false, false] rfl rfl rfl (HT.any (by kernel_rfl)) (by exact pMv (.inl rfl) rfl) (by decide) ?_
      refine dSplitDec 59 rfl (fun c59 => ?_) (fun c59 => ?_)
      · skip
        obtain ⟨e, ha⟩ : ∃ e, l[k]? = some e := ⟨_, List.getElem?_eq_getElem (by omega)⟩
        refine dPureG (i := 5) #[true, true, true, true, true, true, false, false, false, false, false, false] rfl rfl rfl rfl rfl rfl (HT.any (by kernel_rfl)) (by exact pMv (.inl rfl) rfl) (by decide) ?_
        refine dPureG (i := 6) #[true, true, true, true, true, true, true, false, false, false, false, false] rfl rfl rfl rfl rfl rfl (HT.any (by kernel_rfl)) (by exact pMv (.inl rfl) rfl) (by decide) ?_
        refine dPureG (i := 7) #[true, true, true, true, true, true, true, true, false, false, false, false] rfl rfl rfl rfl rfl rfl (HT.any (by kernel_rfl)) (by exact pIdxS rfl rfl rfl es_24 (by omega) (map_get (f := wireC) ha)) (by decide) ?_
        refine dTakeG (i := 8) #[true, true, true, true, true, true, true, true, true, false, false, false] rfl rfl rfl rfl rfl rfl (HT.take (by kernel_rfl)) (by first | exact rLdSA rfl rfl ty_46 (Nat.le_of_ble_eq_true rfl) | exact rLdBA rfl rfl (by repeat constructor) ty_46 (Nat.le_of_ble_eq_true rfl)) (by decide) ?_
        refine dTakeG (i := 9) #[true, true, true, true, true, true, true, true, true, true, false, false] rfl rfl rfl rfl rfl rfl (HT.take (by kernel_rfl)) (by first | exact rLdSA rfl rfl ty_46 (Nat.le_of_ble_eq_true rfl) | exact rLdBA rfl rfl (by repeat constructor) ty_46 (Nat.le_of_ble_eq_true rfl)) (by decide) ?_
        refine dPureG (i := 10) #[true, true, true, true, true, true, true, true, true, true, true, false] rfl rfl rfl rfl rfl rfl (HT.any (by kernel_rfl)) (by exact pEqA rfl (.inl rfl) rfl rfl eq_46 rfl rfl) (by decide) ?_
        refine dPure (i := 11) #[true, true, true, true, true, true, true, true, true, true, true, true] rfl rfl rfl (HT.any (by kernel_rfl)) (by exact pPick rfl rfl rfl) (by decide) ?_
        refine dEnd (HT.done (by kernel_rfl)) ?_
        clear HT
        refine aCond rfl (fun c66 => ?_) (fun c66 => ?_)
        · skip
          refine aSeq ?_
          refine aReg ?_
          refine oP rfl (by exact pMv (.inl rfl) rfl) rfl (by decide) ?_
          refine oP rfl (by exact pMv (.inr rfl) rfl) rfl (by decide) ?_
          refine oNil ?_
          refine aRet ?_
          refine ⟨_, [], _, rfl, .nil, ?_, rfl⟩
          show AV.sl 5 _ = AV.sl 5 _
          have hew : e = ⟨x, y, true, cost, cost⟩ := by
            obtain ⟨e1, e2, e3, e4, e5⟩ := e
            simpa using c66
          rw [hm, putW, if_pos (by rw [hd, drop_step ha, hew]; rfl)]
        · skip
          refine aSkip ?_
          refine aSeq ?_
          refine aReg ?_
          refine oQ rfl ?_
          refine qLit (l := []) rfl rfl (by decide) us_24 ty_46 ze_46 rfl (by decide) (by decide) rfl rfl rfl (fun b68 => ?_)
          refine oP rfl (by exact pMv (.inl rfl) rfl) rfl (by decide) ?_
          refine oP rfl (by exact pMv (.inl rfl) rfl) rfl (by decide) ?_
          refine oP rfl (by exact pSlice rfl rfl es_24 (bdI rfl) (bdN rfl) (by first | omega | (simp only [List.length_map]; omega)) (by first | omega | (simp only [List.length_map]; omega))) rfl (by decide) ?_
          refine oA rfl ?_
          refine oApp rfl rfl (by decide) rfl (by repeat constructor) (by simp) (.inl rfl) el_24 sl_24 (fun z hz => wireC_len l z (List.mem_of_mem_drop (List.mem_of_mem_take hz))) (by simp; omega) (by simp; omega) (fun g72 k72 => ?_)
          refine oP rfl (by exact pMv (.inr rfl) rfl) rfl (by decide) ?_
          refine oNil ?_
          refine aSeq ?_
          refine aDrawT ref51_put_r10_t ref51_put_r10_b [7, 9] 11 #[false, false, false, false, false, false, false, false, false, false, false] (by kernel_rfl) rfl rfl (fun HT => ?_)
          refine dPure (i := 1) #[false, true, false, false, false, false, false, false, false, false, false] rfl rfl rfl (HT.any (by kernel_rfl)) (by exact pMv (.inl rfl) rfl) (by decide) ?_
          refine dPure (i := 2) #[false, true, true, false, false, false, false, false, false, false, false] rfl rfl rfl (HT.any (by kernel_rfl)) (by exact pMv (.inl rfl) rfl) (by decide) ?_
          refine dPure (i := 3) #[false, true, true, true, false, false, false, false, false, false, false] rfl rfl rfl (HT.any (by kernel_rfl)) (by exact pSlice rfl rfl es_24 (bdN rfl) (bdI rfl) (by first | omega | (simp only [List.length_map]; omega)) (by first | omega | (simp only [List.length_map]; omega))) (by decide) ?_
          refine dTake (i := 5) #[false, true, true, true, false, true, false, false, false, false, false] rfl rfl rfl (HT.take (by kernel_rfl)) (by first | exact rLdSA rfl rfl ty_46 (Nat.le_of_ble_eq_true rfl) | exact rLdBA rfl rfl (by repeat constructor) ty_46 (Nat.le_of_ble_eq_true rfl)) (by decide) ?_
          refine dPure (i := 8) #[false, true, true, true, false, true, false, false, true, false, false] rfl rfl rfl (HT.any (by kernel_rfl)) (by exact pMv (.inl rfl) rfl) (by decide) ?_
          refine dGo ?_
          refine eTwoS (i := 0) (j := 6) #[true, true, true, true, false, true, false, false, true, false, false] #[false, true, true, true, false, true, true, false, true, false, false] rfl rfl (HT.two (by kernel_rfl)) (by decide) (by decide) ?_ ?_
          · skip
            refine stQ (wantN rfl) (fun t ht => by cases ht; decide) ?_
            refine qLit (l := []) rfl rfl (by decide) us_24 ty_46 ze_46 rfl (by decide) (by decide) rfl rfl rfl (fun b73 => ?_)
            refine undel (d := 73) rfl ?_
            refine eTwoS (i := 4) (j := 6) #[true, true, true, true, true, true, false, false, true, false, false] #[true, true, true, true, false, true, true, false, true, false, false] rfl rfl (HT.two (by kernel_rfl)) (by decide) (by decide) ?_ ?_
            · skip
              refine stA (hx := [.sl (some b73) _ _ _ _]) (wantN rfl) (fun t ht => by cases ht; decide) (.cons (by repeat constructor) .nil) (by repeat constructor) ?_
              refine oApp rfl rfl (by decide) rfl (by repeat constructor) (by simp) (.inl rfl) el_24 sl_24 (fun z hz => wireC_len l z (List.mem_of_mem_drop (List.mem_of_mem_take hz))) (by simp; omega) (by simp; omega) (fun g77 k77 => ?_)
              refine undel (d := 77) rfl ?_
              dsimp only [List.cons_append, List.nil_append]
              refine eOneF (i := 6) #[true, true, true, true, true, true, true, false, true, false, false] rfl rfl rfl rfl (HT.one (by kernel_rfl)) (by decide) (by decide) ?_
              refine qLit (l := [_]) rfl rfl (by decide) us_24 ty_46 ze_46 rfl (by decide) (by decide) rfl rfl rfl (fun b79 => ?_)
              refine eLast ?_
              refine fOne (i := 7) #[true, true, true, true, true, true, true, true, true, false, false] rfl rfl (HT.one (by kernel_rfl)) (by decide) ?_
              refine oApp rfl rfl (by decide) rfl (by repeat constructor) (by simp) (srcOwn rfl (by repeat constructor) (by first | rfl | simp)) el_24 sl_24 (by intro z hz; rcases List.mem_cons.1 hz with rfl | hz; rfl; cases hz) (by simp; omega) (by simp; omega) (fun g80 k80 => ?_)
              refine fOne (i := 9) #[true, true, true, true, true, true, true, true, true, true, false] rfl rfl (HT.one (by kernel_rfl)) (by decide) ?_
              refine oApp rfl rfl (by decide) rfl (by repeat constructor) (by simp) (srcOwn rfl (by repeat constructor) (by first | rfl | simp)) el_24 sl_24 (by simp only [List.map_nil, List.nil_append]; exact (fun z hz => wireC_len l z (List.mem_of_mem_drop (List.mem_of_mem_take hz)))) (by simp; omega) (by simp; omega) (fun g82 k82 => ?_)
              refine fPure (i := 10) #[true, true, true, true, true, true, true, true, true, true, true] rfl rfl rfl (HT.any (by kernel_rfl)) (by exact pMv (.inr rfl) rfl) (by decide) ?_
              refine fEnd (HT.done (by kernel_rfl)) ?_
              clear HT
              refine aWeak (weak_settle (k := 8) rfl (by repeat constructor) (by simp <;> omega)) ?_
              refine aRet ?_
              refine ⟨_, [], _, rfl, .nil, ?_, rfl⟩
              show AV.sl 5 _ = AV.sl 5 _
              have hne : ¬ (l.drop k).head? = some ⟨x, y, true, cost, cost⟩ := by
                first
                  | (rw [drop_step ha]
                     intro he
                     obtain rfl : e = ⟨x, y, true, cost, cost⟩ := by simpa using he
                     simp at c66
                     done)
                  | (rw [List.drop_of_length_le (by omega)]; simp; done)
              have hel : ∀ z ∈ wireC ⟨x, y, true, cost, cost⟩, True := fun _ _ => trivial
              rw [hm, putW, if_neg (by rw [hd]; exact hne), ht, hd]
              congr 1
              simp only [List.map_nil, List.nil_append, List.drop_zero, Nat.sub_zero, List.length_map, List.map_append, List.map_take, List.map_drop, List.map_cons]
              rw [List.take_of_length_le (l := List.drop k (List.map wireC l)) (by simp)]
              rfl
            · skip
              refine stQ (wantN rfl) (fun t ht => by cases ht; decide) ?_
              refine qLit (l := [_]) rfl rfl (by decide) us_24 ty_46 ze_46 rfl (by decide) (by decide) rfl rfl rfl (fun b79 => ?_)
              refine undel (d := 79) rfl ?_
              refine eOneS (i := 4) #[true, true, true, true, true, true, true, false, true, false, false] rfl (HT.one (by kernel_rfl)) (by decide) ?_
              · skip
                refine stA (hx := [.sl (some b73) _ _ _ _]) (wantN rfl) (fun t ht => by cases ht; decide) (.cons (by repeat constructor) .nil) (by repeat constructor) ?_
                refine oApp rfl rfl (by decide) rfl (by repeat constructor) (by simp) (.inl rfl) el_24 sl_24 (fun z hz => wireC_len l z (List.mem_of_mem_drop (List.mem_of_mem_take hz))) (by simp; omega) (by simp; omega) (fun g77 k77 => ?_)
                refine undel (d := 77) rfl ?_
                dsimp only [List.cons_append, List.nil_append]
                refine eLast ?_
                refine fOne (i := 7) #[true, true, true, true, true, true, true, true, true, false, false] rfl rfl (HT.one (by kernel_rfl)) (by decide) ?_
                refine oApp rfl rfl (by decide) rfl (by repeat constructor) (by simp) (srcOwn rfl (by repeat constructor) (by first | rfl | simp)) el_24 sl_24 (by intro z hz; rcases List.mem_cons.1 hz with rfl | hz; rfl; cases hz) (by simp; omega) (by simp; omega) (fun g80 k80 => ?_)
                refine fOne (i := 9) #[true, true, true, true, true, true, true, true, true, true, false] rfl rfl (HT.one (by kernel_rfl)) (by decide) ?_
                refine oApp rfl rfl (by decide) rfl (by repeat constructor) (by simp) (srcOwn rfl (by repeat constructor) (by first | rfl | simp)) el_24 sl_24 (by simp only [List.map_nil, List.nil_append]; exact (fun z hz => wireC_len l z (List.mem_of_mem_drop (List.mem_of_mem_take hz)))) (by simp; omega) (by simp; omega) (fun g82 k82 => ?_)
                refine fPure (i := 10) #[true, true, true, true, true, true, true, true, true, true, true] rfl rfl rfl (HT.any (by kernel_rfl)) (by exact pMv (.inr rfl) rfl) (by decide) ?_
                refine fEnd (HT.done (by kernel_rfl)) ?_
                clear HT
                refine aWeak (weak_settle (k := 8) rfl (by repeat constructor) (by simp <;> omega)) ?_
                refine aRet ?_
                refine ⟨_, [], _, rfl, .nil, ?_, rfl⟩
                show AV.sl 5 _ = AV.sl 5 _
                have hne : ¬ (l.drop k).head? = some ⟨x, y, true, cost, cost⟩ := by
                  first
                    | (rw [drop_step ha]
                       intro he
                       obtain rfl : e = ⟨x, y, true, cost, cost⟩ := by simpa using he
                       simp at c66
                       done)
                    | (rw [List.drop_of_length_le (by omega)]; simp; done)
                have hel : ∀ z ∈ wireC ⟨x, y, true, cost, cost⟩, True := fun _ _ => trivial
                rw [hm, putW, if_neg (by rw [hd]; exact hne), ht, hd]
                congr 1
                simp only [List.map_nil, List.nil_append, List.drop_zero, Nat.sub_zero, List.length_map, List.map_append, List.map_take, List.map_drop, List.map_cons]
                rw [List.take_of_length_le (l := List.drop k (List.map wireC l)) (by simp)]
                rfl
          · skip
            refine stQ (wantN rfl) (fun t ht => by cases ht; decide) ?_
            refine qLit (l := [_]) rfl rfl (by decide) us_24 ty_46 ze_46 rfl (by decide) (by decide) rfl rfl rfl (fun b79 => ?_)
            refine undel (d := 79) rfl ?_
            refine eOneF (i := 0) #[true, true, true, true, false, true, true, false, true, false, false] rfl rfl rfl rfl (HT.one (by kernel_rfl)) (by decide) (by decide) ?_
            refine qLit (l := []) rfl rfl (by decide) us_24 ty_46 ze_46 rfl (by decide) (by decide) rfl rfl rfl (fun b73 => ?_)
            refine eOneS (i := 4) #[true, true, true, true, true, true, true, false, true, false, false] rfl (HT.one (by kernel_rfl)) (by decide) ?_
            · skip
              refine stA (hx := [.sl (some b73) _ _ _ _]) (wantN rfl) (fun t ht => by cases ht; decide) (.cons (by repeat constructor) .nil) (by repeat constructor) ?_
              refine oApp rfl rfl (by decide) rfl (by repeat constructor) (by simp) (.inl rfl) el_24 sl_24 (fun z hz => wireC_len l z (List.mem_of_mem_drop (List.mem_of_mem_take hz))) (by simp; omega) (by simp; omega) (fun g77 k77 => ?_)
              refine undel (d := 77) rfl ?_
              dsimp only [List.cons_append, List.nil_append]
              refine eLast ?_
              refine fOne (i := 7) #[true, true, true, true, true, true, true, true, true, false, false] rfl rfl (HT.one (by kernel_rfl)) (by decide) ?_
              refine oApp rfl rfl (by decide) rfl (by repeat constructor) (by simp) (srcOwn rfl (by repeat constructor) (by first | rfl | simp)) el_24 sl_24 (by intro z hz; rcases List.mem_cons.1 hz with rfl | hz; rfl; cases hz) (by simp; omega) (by simp; omega) (fun g80 k80 => ?_)
              refine fOne (i := 9) #[true, true, true, true, true, true, true, true, true, true, false] rfl rfl (HT.one (by kernel_rfl)) (by decide) ?_
              refine oApp rfl rfl (by decide) rfl (by repeat constructor) (by simp) (srcOwn rfl (by repeat constructor) (by first | rfl | simp)) el_24 sl_24 (by simp only [List.map_nil, List.nil_append]; exact (fun z hz => wireC_len l z (List.mem_of_mem_drop (List.mem_of_mem_take hz)))) (by simp; omega) (by simp; omega) (fun g82 k82 => ?_)
              refine fPure (i := 10) #[true, true, true, true, true, true, true, true, true, true, true] rfl rfl rfl (HT.any (by kernel_rfl)) (by exact pMv (.inr rfl) rfl) (by decide) ?_
              refine fEnd (HT.done (by kernel_rfl)) ?_
              clear HT
              refine aWeak (weak_settle (k := 8) rfl (by repeat constructor) (by simp <;> omega)) ?_
              refine aRet ?_
              refine ⟨_, [], _, rfl, .nil, ?_, rfl⟩
              show AV.sl 5 _ = AV.sl 5 _
              have hne : ¬ (l.drop k).head? = some ⟨x, y, true, cost, cost⟩ := by
                first
                  | (rw [drop_step ha]
                     intro he
                     obtain rfl : e = ⟨x, y, true, cost, cost⟩ := by simpa using he
                     simp at c66
                     done)
                  | (rw [List.drop_of_length_le (by omega)]; simp; done)
              have hel : ∀ z ∈ wireC ⟨x, y, true, cost, cost⟩, True := fun _ _ => trivial
              rw [hm, putW, if_neg (by rw [hd]; exact hne), ht, hd]
              congr 1
              simp only [List.map_nil, List.nil_append, List.drop_zero, Nat.sub_zero, List.length_map, List.map_append, List.map_take, List.map_drop, List.map_cons]
              rw [List.take_of_length_le (l := List.drop k (List.map wireC l)) (by simp)]
              rfl
      · skip
        refine dSkip (i := 5) #[true, true, true, true, true, true, false, false, false, false, false, false] rfl rfl rfl rfl rfl rfl (HT.any (by kernel_rfl)) (by decide) ?_
        refine dSkip (i := 6) #[true, true, true, true, true, true, true, false, false, false, false, false] rfl rfl rfl rfl rfl rfl (HT.any (by kernel_rfl)) (by decide) ?_
        refine dSkip (i := 7) #[true, true, true, true, true, true, true, true, false, false, false, false] rfl rfl rfl rfl rfl rfl (HT.any (by kernel_rfl)) (by decide) ?_
        refine dSkip (i := 8) #[true, true, true, true, true, true, true, true, true, false, false, false] rfl rfl rfl rfl rfl rfl (HT.any (by kernel_rfl)) (by decide) ?_
        refine dSkip (i := 9) #[true, true, true, true, true, true, true, true, true, true, false, false] rfl rfl rfl rfl rfl rfl (HT.any (by kernel_rfl)) (by decide) ?_
        refine dSkip (i := 10) #[true, true, true, true, true, true, true, true, true, true, true, false] rfl rfl rfl rfl rfl rfl (HT.any (by kernel_rfl)) (by decide) ?_
        refine dPure (i := 11) #[true, true, true, true, true, true, true, true, true, true, true, true] rfl rfl rfl (HT.any (by kernel_rfl)) (by exact pPick rfl rfl rfl) (by decide) ?_
        refine dEnd (HT.done (by kernel_rfl)) ?_
        clear HT
        refine aCondF rfl ?_
        refine aSkip ?_
        refine aSeq ?_
        refine aReg ?_
        refine oQ rfl ?_
        refine qLit (l := []) rfl rfl (by decide) us_24 ty_46 ze_46 rfl (by decide) (by decide) rfl rfl rfl (fun b68 => ?_)
        refine oP rfl (by exact pMv (.inl rfl) rfl) rfl (by decide) ?_
        refine oP rfl (by exact pMv (.inl rfl) rfl) rfl (by decide) ?_
        refine oP rfl (by exact pSlice rfl rfl es_24 (bdI rfl) (bdN rfl) (by first | omega | (simp only [List.length_map]; omega)) (by first | omega | (simp only [List.length_map]; omega))) rfl (by decide) ?_
        refine oA rfl ?_
        refine oApp rfl rfl (by decide) rfl (by repeat constructor) (by simp) (.inl rfl) el_24 sl_24 (fun z hz => wireC_len l z (List.mem_of_mem_drop (List.mem_of_mem_take hz))) (by simp; omega) (by simp; omega) (fun g72 k72 => ?_)
        refine oP rfl (by exact pMv (.inr rfl) rfl) rfl (by decide) ?_
        refine oNil ?_
        refine aSeq ?_
        refine aDrawT ref51_put_r10_t ref51_put_r10_b [7, 9] 11 #[false, false, false, false, false, false, false, false, false, false, false] (by kernel_rfl) rfl rfl (fun HT => ?_)
        refine dPure (i := 1) #[false, true, false, false, false, false, false, false, false, false, false] rfl rfl rfl (HT.any (by kernel_rfl)) (by exact pMv (.inl rfl) rfl) (by decide) ?_
        refine dPure (i := 2) #[false, true, true, false, false, false, false, false, false, false, false] rfl rfl rfl (HT.any (by kernel_rfl)) (by exact pMv (.inl rfl) rfl) (by decide) ?_
        refine dPure (i := 3) #[false, true, true, true, false, false, false, false, false, false, false] rfl rfl rfl (HT.any (by kernel_rfl)) (by exact pSlice rfl rfl es_24 (bdN rfl) (bdI rfl) (by first | omega | (simp only [List.length_map]; omega)) (by first | omega | (simp only [List.length_map]; omega))) (by decide) ?_
        refine dTake (i := 5) #[false, true, true, true, false, true, false, false, false, false, false] rfl rfl rfl (HT.take (by kernel_rfl)) (by first | exact rLdSA rfl rfl ty_46 (Nat.le_of_ble_eq_true rfl) | exact rLdBA rfl rfl (by repeat constructor) ty_46 (Nat.le_of_ble_eq_true rfl)) (by decide) ?_
        refine dPure (i := 8) #[false, true, true, true, false, true, false, false, true, false, false] rfl rfl rfl (HT.any (by kernel_rfl)) (by exact pMv (.inl rfl) rfl) (by decide) ?_
        refine dGo ?_
        refine eTwoS (i := 0) (j := 6) #[true, true, true, true, false, true, false, false, true, false, false] #[false, true, true, true, false, true, true, false, true, false, false] rfl rfl (HT.two (by kernel_rfl)) (by decide) (by decide) ?_ ?_
        · skip
          refine stQ (wantN rfl) (fun t ht => by cases ht; decide) ?_
          refine qLit (l := []) rfl rfl (by decide) us_24 ty_46 ze_46 rfl (by decide) (by decide) rfl rfl rfl (fun b73 => ?_)
          refine undel (d := 73) rfl ?_
          refine eTwoS (i := 4) (j := 6) #[true, true, true, true, true, true, false, false, true, false, false] #[true, true, true, true, false, true, true, false, true, false, false] rfl rfl (HT.two (by kernel_rfl)) (by decide) (by decide) ?_ ?_
          · skip
            refine stA (hx := [.sl (some b73) _ _ _ _]) (wantN rfl) (fun t ht => by cases ht; decide) (.cons (by repeat constructor) .nil) (by repeat constructor) ?_
            refine oApp rfl rfl (by decide) rfl (by repeat constructor) (by simp) (.inl rfl) el_24 sl_24 (fun z hz => wireC_len l z (List.mem_of_mem_drop (List.mem_of_mem_take hz))) (by simp; omega) (by simp; omega) (fun g77 k77 => ?_)
            refine undel (d := 77) rfl ?_
            dsimp only [List.cons_append, List.nil_append]
            refine eOneF (i := 6) #[true, true, true, true, true, true, true, false, true, false, false] rfl rfl rfl rfl (HT.one (by kernel_rfl)) (by decide) (by decide) ?_
            refine qLit (l := [_]) rfl rfl (by decide) us_24 ty_46 ze_46 rfl (by decide) (by decide) rfl rfl rfl (fun b79 => ?_)
            refine eLast ?_
            refine fOne (i := 7) #[true, true, true, true, true, true, true, true, true, false, false] rfl rfl (HT.one (by kernel_rfl)) (by decide) ?_
            refine oApp rfl rfl (by decide) rfl (by repeat constructor) (by simp) (srcOwn rfl (by repeat constructor) (by first | rfl | simp)) el_24 sl_24 (by intro z hz; rcases List.mem_cons.1 hz with rfl | hz; rfl; cases hz) (by simp; omega) (by simp; omega) (fun g80 k80 => ?_)
            refine fOne (i := 9) #[true, true, true, true, true, true, true, true, true, true, false] rfl rfl (HT.one (by kernel_rfl)) (by decide) ?_
            refine oApp rfl rfl (by decide) rfl (by repeat constructor) (by simp) (srcOwn rfl (by repeat constructor) (by first | rfl | simp)) el_24 sl_24 (by simp only [List.map_nil, List.nil_append]; exact (fun z hz => wireC_len l z (List.mem_of_mem_drop (List.mem_of_mem_take hz)))) (by simp; omega) (by simp; omega) (fun g82 k82 => ?_)
            refine fPure (i := 10) #[true, true, true, true, true, true, true, true, true, true, true] rfl rfl rfl (HT.any (by kernel_rfl)) (by exact pMv (.inr rfl) rfl) (by decide) ?_
            refine fEnd (HT.done (by kernel_rfl)) ?_
            clear HT
            refine aWeak (weak_settle (k := 8) rfl (by repeat constructor) (by simp <;> omega)) ?_
            refine aRet ?_
            refine ⟨_, [], _, rfl, .nil, ?_, rfl⟩
            show AV.sl 5 _ = AV.sl 5 _
            have hne : ¬ (l.drop k).head? = some ⟨x, y, true, cost, cost⟩ := by
              first
                | (rw [drop_step ha]
                   intro he
                   obtain rfl : e = ⟨x, y, true, cost, cost⟩ := by simpa using he
                   simp at c66
                   done)
                | (rw [List.drop_of_length_le (by omega)]; simp; done)
            have hel : ∀ z ∈ wireC ⟨x, y, true, cost, cost⟩, True := fun _ _ => trivial
            rw [hm, putW, if_neg (by rw [hd]; exact hne), ht, hd]
            congr 1
            simp only [List.map_nil, List.nil_append, List.drop_zero, Nat.sub_zero, List.length_map, List.map_append, List.map_take, List.map_drop, List.map_cons]
            rw [List.take_of_length_le (l := List.drop k (List.map wireC l)) (by simp)]
            rfl
          · skip
            refine stQ (wantN rfl) (fun t ht => by cases ht; decide) ?_
            refine qLit (l := [_]) rfl rfl (by decide) us_24 ty_46 ze_46 rfl (by decide) (by decide) rfl rfl rfl (fun b79 => ?_)
            refine undel (d := 79) rfl ?_
            refine eOneS (i := 4) #[true, true, true, true, true, true, true, false, true, false, false] rfl (HT.one (by kernel_rfl)) (by decide) ?_
            · skip
              refine stA (hx := [.sl (some b73) _ _ _ _]) (wantN rfl) (fun t ht => by cases ht; decide) (.cons (by repeat constructor) .nil) (by repeat constructor) ?_
              refine oApp rfl rfl (by decide) rfl (by repeat constructor) (by simp) (.inl rfl) el_24 sl_24 (fun z hz => wireC_len l z (List.mem_of_mem_drop (List.mem_of_mem_take hz))) (by simp; omega) (by simp; omega) (fun g77 k77 => ?_)
              refine undel (d := 77) rfl ?_
              dsimp only [List.cons_append, List.nil_append]
              refine eLast ?_
              refine fOne (i := 7) #[true, true, true, true, true, true, true, true, true, false, false] rfl rfl (HT.one (by kernel_rfl)) (by decide) ?_
              refine oApp rfl rfl (by decide) rfl (by repeat constructor) (by simp) (srcOwn rfl (by repeat constructor) (by first | rfl | simp)) el_24 sl_24 (by intro z hz; rcases List.mem_cons.1 hz with rfl | hz; rfl; cases hz) (by simp; omega) (by simp; omega) (fun g80 k80 => ?_)
              refine fOne (i := 9) #[true, true, true, true, true, true, true, true, true, true, false] rfl rfl (HT.one (by kernel_rfl)) (by decide) ?_
              refine oApp rfl rfl (by decide) rfl (by repeat constructor) (by simp) (srcOwn rfl (by repeat constructor) (by first | rfl | simp)) el_24 sl_24 (by simp only [List.map_nil, List.nil_append]; exact (fun z hz => wireC_len l z (List.mem_of_mem_drop (List.mem_of_mem_take hz)))) (by simp; omega) (by simp; omega) (fun g82 k82 => ?_)
              refine fPure (i := 10) #[true, true, true, true, true, true, true, true, true, true, true] rfl rfl rfl (HT.any (by kernel_rfl)) (by exact pMv (.inr rfl) rfl) (by decide) ?_
              refine fEnd (HT.done (by kernel_rfl)) ?_
              clear HT
              refine aWeak (weak_settle (k := 8) rfl (by repeat constructor) (by simp <;> omega)) ?_
              refine aRet ?_
              refine ⟨_, [], _, rfl, .nil, ?_, rfl⟩
              show AV.sl 5 _ = AV.sl 5 _
              have hne : ¬ (l.drop k).head? = some ⟨x, y, true, cost, cost⟩ := by
                first
                  | (rw [drop_step ha]
                     intro he
                     obtain rfl : e = ⟨x, y, true, cost, cost⟩ := by simpa using he
                     simp at c66
                     done)
                  | (rw [List.drop_of_length_le (by omega)]; simp; done)
              have hel : ∀ z ∈ wireC ⟨x, y, true, cost, cost⟩, True := fun _ _ => trivial
              rw [hm, putW, if_neg (by rw [hd]; exact hne), ht, hd]
              congr 1
              simp only [List.map_nil, List.nil_append, List.drop_zero, Nat.sub_zero, List.length_map, List.map_append, List.map_take, List.map_drop, List.map_cons]
              rw [List.take_of_length_le (l := List.drop k (List.map wireC l)) (by simp)]
              rfl
        · skip
          refine stQ (wantN rfl) (fun t ht => by cases ht; decide) ?_
          refine qLit (l := [_]) rfl rfl (by decide) us_24 ty_46 ze_46 rfl (by decide) (by decide) rfl rfl rfl (fun b79 => ?_)
          refine undel (d := 79) rfl ?_
          refine eOneF (i := 0) #[true, true, true, true, false, true, true, false, true, false, false] rfl rfl rfl rfl (HT.one (by kernel_rfl)) (by decide) (by decide) ?_
          refine qLit (l := []) rfl rfl (by decide) us_24 ty_46 ze_46 rfl (by decide) (by decide) rfl rfl rfl (fun b73 => ?_)
          refine eOneS (i := 4) #[true, true, true, true, true, true, true, false, true, false, false] rfl (HT.one (by kernel_rfl)) (by decide) ?_
          · skip
            refine stA (hx := [.sl (some b73) _ _ _ _]) (wantN rfl) (fun t ht => by cases ht; decide) (.cons (by repeat constructor) .nil) (by repeat constructor) ?_
            refine oApp rfl rfl (by decide) rfl (by repeat constructor) (by simp) (.inl rfl) el_24 sl_24 (fun z hz => wireC_len l z (List.mem_of_mem_drop (List.mem_of_mem_take hz))) (by simp; omega) (by simp; omega) (fun g77 k77 => ?_)
            refine undel (d := 77) rfl ?_
            dsimp only [List.cons_append, List.nil_append]
            refine eLast ?_
            refine fOne (i := 7) #[true, true, true, true, true, true, true, true, true, false, false] rfl rfl (HT.one (by kernel_rfl)) (by decide) ?_
            refine oApp rfl rfl (by decide) rfl (by repeat constructor) (by simp) (srcOwn rfl (by repeat constructor) (by first | rfl | simp)) el_24 sl_24 (by intro z hz; rcases List.mem_cons.1 hz with rfl | hz; rfl; cases hz) (by simp; omega) (by simp; omega) (fun g80 k80 => ?_)
            refine fOne (i := 9) #[true, true, true, true, true, true, true, true, true, true, false] rfl rfl (HT.one (by kernel_rfl)) (by decide) ?_
            refine oApp rfl rfl (by decide) rfl (by repeat constructor) (by simp) (srcOwn rfl (by repeat constructor) (by first | rfl | simp)) el_24 sl_24 (by simp only [List.map_nil, List.nil_append]; exact (fun z hz => wireC_len l z (List.mem_of_mem_drop (List.mem_of_mem_take hz)))) (by simp; omega) (by simp; omega) (fun g82 k82 => ?_)
            refine fPure (i := 10) #[true, true, true, true, true, true, true, true, true, true, true] rfl rfl rfl (HT.any (by kernel_rfl)) (by exact pMv (.inr rfl) rfl) (by decide) ?_
            refine fEnd (HT.done (by kernel_rfl)) ?_
            clear HT
            refine aWeak (weak_settle (k := 8) rfl (by repeat constructor) (by simp <;> omega)) ?_
            refine aRet ?_
            refine ⟨_, [], _, rfl, .nil, ?_, rfl⟩
            show AV.sl 5 _ = AV.sl 5 _
            have hne : ¬ (l.drop k).head? = some ⟨x, y, true, cost, cost⟩ := by
              first
                | (rw [drop_step ha]
                   intro he
                   obtain rfl : e = ⟨x, y, true, cost, cost⟩ := by simpa using he
                   simp at c66
                   done)
                | (rw [List.drop_of_length_le (by omega)]; simp; done)
            have hel : ∀ z ∈ wireC ⟨x, y, true, cost, cost⟩, True := fun _ _ => trivial
            rw [hm, putW, if_neg (by rw [hd]; exact hne), ht, hd]
            congr 1
            simp only [List.map_nil, List.nil_append, List.drop_zero, Nat.sub_zero, List.length_map, List.map_append, List.map_take, List.map_drop, List.map_cons]
            rw [List.take_of_length_le (l := List.drop k (List.map wireC l)) (by simp)]
            rfl

/- waymarkref50.Same -/
def ref50_Same_r6_T : Bool × List (List Nat × List Nat) := (true, [([], []), ([], []), ([0, 1], [0, 1]), ([2], [2]), ([], []), ([], []), ([4, 5], [4, 5]), ([6], [6]), ([3, 7], [3, 7])])
def ref50_Same_r6_B : List Nat := [0, 0, 3, 7, 0, 0, 48, 112, 255]
theorem ref50_Same_r6_t : Go.Proofs.YtmkphhjlmhhokaaW.PrintLast.rtab .any (Go.Proofs.YtmkphhjlmhhokaaW.PrintLast.opsOf Try.f8 6) = ref50_Same_r6_T := by kernel_rfl
theorem ref50_Same_r6_b : Go.Proofs.YtmkphhjlmhhokaaW.PrintLast.waitsOk ref50_Same_r6_T.2 ref50_Same_r6_B = true := by kernel_rfl
set_option maxRecDepth 100000 in
set_option maxHeartbeats 400000 in
theorem ref50_Same (l m : List Wire) (hl : l.length ≤ 4000000) (hm : m.length ≤ 4000000) : Triple Try.prog 8 [AV.sl 5 (l.map wireC), AV.sl 5 (m.map wireC)] [] (fun r h' => r = .v (.bool (decide (l = m))) ∧ h' = []) := by
  refine triple_of Try.func8 rfl (by kernel_rfl) rfl (by simp) ?_
  refine aSeq ?_
  refine aReg ?_
  refine oP rfl (by exact pMv (.inr rfl) rfl) rfl (by decide) ?_
  refine oNil ?_
  refine aSeq ?_
  refine aSeq ?_
  refine aReg ?_
  refine oP rfl (by exact pMv (.inl rfl) rfl) rfl (by decide) ?_
  refine oP rfl (by first | exact pLenS' (pLenS rfl rfl sl_24) (List.length_map _) | exact pLenS rfl rfl sl_24 | exact pLenV rfl rfl sl_24) rfl (by decide) ?_
  refine oP rfl (by exact pMv (.inl rfl) rfl) rfl (by decide) ?_
  refine oP rfl (by first | exact pLenS' (pLenS rfl rfl sl_24) (List.length_map _) | exact pLenS rfl rfl sl_24 | exact pLenV rfl rfl sl_24) rfl (by decide) ?_
  refine oP rfl (by exact pBin rfl rfl rfl rfl rfl) rfl (by decide) ?_
  refine oNil ?_
  refine aCondNe rfl (fun c10 => ?_) (fun c10 => ?_)
  · skip
    refine aSeq ?_
    refine aReg ?_
    refine oP rfl (by exact pMv (.inr rfl) rfl) rfl (by decide) ?_
    refine oNil ?_
    refine aRet ?_
    refine ⟨_, [], _, rfl, .nil, ?_, rfl⟩
    show AV.v (.bool false) = _
    have hn : l ≠ m := fun e => by subst e; exact absurd c10 (by simp)
    simp [hn]
  · skip
    refine aSkip ?_
    refine aSeq ?_
    refine aSeq ?_
    have hlm : l.length = m.length := by omega
    refine aReg ?_
    refine oP rfl (by exact pMv (.inr rfl) rfl) rfl (by decide) ?_
    refine oNil ?_
    refine aBlock ?_
    refine aLoopI (α := Nat) (fun i => i ≤ l.length ∧ l.take i = m.take i) (fun i => ([(0, AV.sl 5 (l.map wireC)), (1, AV.sl 5 (m.map wireC)), (5, .int i)], [])) (fun i => l.length - i) 0 ?_ ?_ ?_
    · skip
      exact ⟨by omega, rfl⟩
    · skip
      exact weak_sub ⟨rfl, rfl, gInt rfl (by simp), trivial⟩ .nil
    · rintro i ⟨hi, hv⟩
      skip
      refine aSeq ?_
      refine aSeq ?_
      refine aReg ?_
      refine oP rfl (by exact pMv (.inl rfl) rfl) rfl (by decide) ?_
      refine oP rfl (by exact pMv (.inl rfl) rfl) rfl (by decide) ?_
      refine oP rfl (by first | exact pLenS' (pLenS rfl rfl sl_24) (List.length_map _) | exact pLenS rfl rfl sl_24 | exact pLenV rfl rfl sl_24) rfl (by decide) ?_
      refine oP rfl (by exact pBin rfl rfl rfl rfl rfl) rfl (by decide) ?_
      refine oNil ?_
      refine aCondDec rfl (fun c14 => ?_) (fun c14 => ?_)
      · skip
        refine aSkip ?_
        refine aSeq ?_
        refine aBlock ?_
        refine aSeq ?_
        refine aDrawT ref50_Same_r6_t ref50_Same_r6_b [] 9 #[false, false, false, false, false, false, false, false, false] (by kernel_rfl) rfl rfl (fun HT => ?_)
        refine dPure (i := 0) #[true, false, false, false, false, false, false, false, false] rfl rfl rfl (HT.any (by kernel_rfl)) (by exact pMv (.inl rfl) rfl) (by decide) ?_
        refine dPure (i := 1) #[true, true, false, false, false, false, false, false, false] rfl rfl rfl (HT.any (by kernel_rfl)) (by exact pMv (.inl rfl) rfl) (by decide) ?_
        obtain ⟨a, ha⟩ : ∃ a, l[i]? = some a := ⟨_, List.getElem?_eq_getElem (by omega)⟩
        obtain ⟨b, hb⟩ : ∃ b, m[i]? = some b := ⟨_, List.getElem?_eq_getElem (by omega)⟩
        refine dPure (i := 2) #[true, true, true, false, false, false, false, false, false] rfl rfl rfl (HT.any (by kernel_rfl)) (by exact pIdxS rfl rfl rfl es_24 (by omega) (map_get (f := wireC) ha)) (by decide) ?_
        refine dTake (i := 3) #[true, true, true, true, false, false, false, false, false] rfl rfl rfl (HT.take (by kernel_rfl)) (by first | exact rLdSA rfl rfl ty_46 (Nat.le_of_ble_eq_true rfl) | exact rLdBA rfl rfl (by repeat constructor) ty_46 (Nat.le_of_ble_eq_true rfl)) (by decide) ?_
        refine dPure (i := 4) #[true, true, true, true, true, false, false, false, false] rfl rfl rfl (HT.any (by kernel_rfl)) (by exact pMv (.inl rfl) rfl) (by decide) ?_
        refine dPure (i := 5) #[true, true, true, true, true, true, false, false, false] rfl rfl rfl (HT.any (by kernel_rfl)) (by exact pMv (.inl rfl) rfl) (by decide) ?_
        refine dPure (i := 6) #[true, true, true, true, true, true, true, false, false] rfl rfl rfl (HT.any (by kernel_rfl)) (by exact pIdxS rfl rfl rfl es_24 (by omega) (map_get (f := wireC) hb)) (by decide) ?_
        refine dTake (i := 7) #[true, true, true, true, true, true, true, true, false] rfl rfl rfl (HT.take (by kernel_rfl)) (by first | exact rLdSA rfl rfl ty_46 (Nat.le_of_ble_eq_true rfl) | exact rLdBA rfl rfl (by repeat constructor) ty_46 (Nat.le_of_ble_eq_true rfl)) (by decide) ?_
        refine dPure (i := 8) #[true, true, true, true, true, true, true, true, true] rfl rfl rfl (HT.any (by kernel_rfl)) (by exact pEqA rfl (.inr rfl) rfl rfl eq_46 rfl rfl) (by decide) ?_
        refine dEnd (HT.done (by kernel_rfl)) ?_
        clear HT
        refine aCond rfl (fun c25 => ?_) (fun c25 => ?_)
        · skip
          refine aSeq ?_
          refine aReg ?_
          refine oP rfl (by exact pMv (.inr rfl) rfl) rfl (by decide) ?_
          refine oNil ?_
          refine aRet ?_
          refine ⟨_, [], _, rfl, .nil, ?_, rfl⟩
          show AV.v (.bool false) = _
          have hn : l ≠ m := fun e => by
            subst e
            rw [ha] at hb
            cases hb
            simp at c25
          simp [hn]
        · skip
          refine aSkip ?_
          refine aReg ?_
          refine oP rfl (by exact pMv (.inl rfl) rfl) rfl (by decide) ?_
          refine oP rfl (by exact pAdd rfl rfl rfl (by omega) (by omega)) rfl (by decide) ?_
          refine oP rfl (by exact pMv (.inr rfl) rfl) rfl (by decide) ?_
          refine oNil ?_
          refine ⟨i + 1, ⟨by omega, ?_⟩, by show l.length - (i + 1) < l.length - i; omega, weak_sub ⟨rfl, rfl, gInt rfl (by simp), trivial⟩ .nil⟩
          rw [take_step ha, take_step hb, hv]
          obtain ⟨a1, a2, a3, a4, a5⟩ := a
          obtain ⟨b1, b2, b3, b4, b5⟩ := b
          simp_all
      · skip
        refine aExit rfl ?_
        refine aSeq ?_
        refine aReg ?_
        refine oP rfl (by exact pMv (.inr rfl) rfl) rfl (by decide) ?_
        refine oNil ?_
        refine aRet ?_
        refine ⟨_, [], _, rfl, .nil, ?_, rfl⟩
        show AV.v (.bool true) = _
        rw [List.take_of_length_le (by omega), List.take_of_length_le (by omega)] at hv
        simp [hv]

end A
end Go.Proofs.Ytmkphhjlmhhokaa
