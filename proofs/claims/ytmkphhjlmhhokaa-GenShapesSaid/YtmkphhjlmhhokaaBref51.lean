/- What functions of the program compute: ref51 -/
import Derived.Test.YtmkphhjlmhhokaaBput51
import Derived.Test.YtmkphhjlmhhokaaProg
import Derived.KernelRfl
set_option linter.unusedVariables false
set_option linter.unusedSimpArgs false
namespace Go.Proofs.Ytmkphhjlmhhokaa
namespace A

/-- One node's wires, put to those ahead of it. -/
def stepS (kind n col cost : Int) (out : List Wire) (a : Nat) : List Wire :=
  if kind = 0 ∨ kind = 1 then
    let o1 := if (a : Int) < n then putW out (mkW a (a + 1) cost) else out
    if (kind = 1 ∧ (a : Int) = n) ∧ 3 ≤ n then putW o1 (mkW n 1 cost) else o1
  else if kind = 2 then (if 1 < (a : Int) then putW out (mkW 1 a cost) else out)
  else if kind = 3 then (List.range' 1 (a - 1)).foldl (fun o (b : Nat) => putW o (mkW b a cost)) out
  else if kind = 4 then
    let row := ((a : Int) - 1).tdiv col
    let cl := ((a : Int) - 1).tmod col
    let o1 := if cl + 1 < col ∧ row * col + cl + 2 ≤ n then putW out (mkW a (row * col + cl + 2) cost) else out
    if (row + 1) * col + cl + 1 ≤ n then putW o1 (mkW a ((row + 1) * col + cl + 1) cost) else o1
  else out
def refS (kind n col cost : Int) (k : Nat) : List Wire := (List.range' 1 k).foldl (stepS kind n col cost) []
theorem refS_step (kind n col cost : Int) {a : Nat} (h : 1 ≤ a) : refS kind n col cost a = stepS kind n col cost (refS kind n col cost (a - 1)) a := by
  have e : a = (a - 1) + 1 := by omega
  unfold refS
  rw [e, List.range'_concat, List.foldl_append]
  simp only [List.foldl_cons, List.foldl_nil, Nat.one_mul]
  rw [show 1 + (a - 1) = a by omega, show a - 1 + 1 = a by omega]
theorem foldS_len (cost : Int) (a : Nat) : ∀ (l : List Nat) (o : List Wire), (l.foldl (fun o (b : Nat) => putW o (mkW b a cost)) o).length ≤ o.length + l.length
  | [], o => by simp
  | b :: l, o => by
    rw [List.foldl_cons]
    have h1 := foldS_len cost a l (putW o (mkW b a cost))
    have h2 := putW_len o (mkW b a cost)
    simp only [List.length_cons]
    omega
theorem stepS_len (kind n col cost : Int) (out : List Wire) (a : Nat) : (stepS kind n col cost out a).length ≤ out.length + a + 2 := by
  unfold stepS
  have p1 := fun w => putW_len out w
  have p2 := fun w v => putW_len (putW out w) v
  have p3 := foldS_len cost a (List.range' 1 (a - 1)) out
  rw [List.length_range'] at p3
  dsimp only
  repeat' split
  all_goals first | omega | (have := p1 (mkW a (a + 1) cost); have := p1 (mkW n 1 cost); have := p1 (mkW 1 a cost); have := p2 (mkW a (a + 1) cost) (mkW n 1 cost); omega) | skip
  all_goals (have := p1 (mkW a (((a : Int) - 1).tdiv col * col + ((a : Int) - 1).tmod col + 2) cost); have := p1 (mkW a ((((a : Int) - 1).tdiv col + 1) * col + ((a : Int) - 1).tmod col + 1) cost); have := p2 (mkW a (((a : Int) - 1).tdiv col * col + ((a : Int) - 1).tmod col + 2) cost) (mkW a ((((a : Int) - 1).tdiv col + 1) * col + ((a : Int) - 1).tmod col + 1) cost); omega)
theorem refS_len (kind n col cost : Int) : ∀ k : Nat, k ≤ 16 → (refS kind n col cost k).length ≤ 18 * k
  | 0, _ => by simp [refS]
  | k + 1, h => by
    rw [refS_step kind n col cost (by omega)]
    have h1 := stepS_len kind n col cost (refS kind n col cost k) (k + 1)
    have h2 := refS_len kind n col cost k (by omega)
    simp only [Nat.add_sub_cancel]
    omega

theorem gridQ {a col : Int} (h0 : 0 ≤ a) (h1 : 1 ≤ col) : 0 ≤ a.tdiv col ∧ a.tdiv col ≤ a ∧ 0 ≤ a.tmod col ∧ a.tmod col < col ∧ a.tdiv col * col + a.tmod col = a ∧ (a.tdiv col + 1) * col = a.tdiv col * col + col ∧ 0 ≤ a.tdiv col * col := by
  rw [Int.tdiv_eq_ediv_of_nonneg h0, Int.tmod_eq_emod_of_nonneg h0]
  have h2 : 0 ≤ a / col := Int.ediv_nonneg h0 (by omega)
  exact ⟨h2, Int.ediv_le_self _ h0, Int.emod_nonneg _ (by omega), Int.emod_lt_of_pos _ (by omega), Int.mul_comm _ _ ▸ Int.mul_ediv_add_emod a col, by rw [Int.add_mul, Int.one_mul], Int.mul_nonneg h2 (by omega)⟩

/- waymarkref51.Shape -/
def ref51_Shape_r21_T : Bool × List (List Nat × List Nat) := (true, [([], []), ([0], [0]), ([], []), ([1, 2], [1, 2]), ([], []), ([4], [4]), ([], []), ([5, 6], [5, 6]), ([3, 0, 1, 2, 3], [3]), ([7, 8, 0, 1, 2, 3, 4, 5, 6, 7, 8], [7])])
def ref51_Shape_r21_B : List Nat := [0, 1, 0, 7, 0, 16, 0, 112, 15, 511]
theorem ref51_Shape_r21_t : Go.Proofs.YtmkphhjlmhhokaaW.PrintLast.rtab .any (Go.Proofs.YtmkphhjlmhhokaaW.PrintLast.opsOf Try.f9 21) = ref51_Shape_r21_T := by kernel_rfl
theorem ref51_Shape_r21_b : Go.Proofs.YtmkphhjlmhhokaaW.PrintLast.waitsOk ref51_Shape_r21_T.2 ref51_Shape_r21_B = true := by kernel_rfl
set_option maxRecDepth 100000 in
set_option maxHeartbeats 4000000 in
theorem ref51_Shape (kind : Int) (n : Nat) (col cost : Int) (hn : n ≤ 16) (hc : kind = 4 → 1 ≤ col ∧ col ≤ n) : Triple Try.prog 9 [.int kind, .int n, .int col, .int cost] [] (fun r h' => r = .sl 5 ((refS kind n col cost n).map wireC) ∧ h' = []) := by
  refine triple_of Try.func9 rfl (by kernel_rfl) rfl (by simp) ?_
  refine aSeq ?_
  refine aReg ?_
  refine oP rfl (by exact pMv (.inr rfl) rfl) rfl (by decide) ?_
  refine oNil ?_
  refine aSeq ?_
  refine aReg ?_
  refine oQ rfl ?_
  refine qLit (l := []) rfl rfl (by decide) us_24 ty_46 ze_46 rfl (by decide) (by decide) rfl rfl rfl (fun b14 => ?_)
  refine oP rfl (by exact pMv (.inr rfl) rfl) rfl (by decide) ?_
  refine oNil ?_
  refine aSeq ?_
  refine aSeq ?_
  refine aWeak (weak_settle (k := 9) rfl .hd rfl) ?_
  refine aReg ?_
  refine oP rfl (by exact pMv (.inr rfl) rfl) rfl (by decide) ?_
  refine oNil ?_
  refine aBlock ?_
  refine aLoopI (α := Nat) (fun a => 1 ≤ a ∧ a ≤ n + 1) (fun a => ([(0, .int kind), (1, .int n), (2, .int col), (3, .int cost), (9, .sl 5 ((refS kind n col cost (a - 1)).map wireC)), (10, .int a)], [])) (fun a => n + 1 - a) 1 ?_ ?_ ?_
  · skip
    exact ⟨by omega, by omega⟩
  · skip
    exact weak_sub ⟨rfl, rfl, rfl, rfl, rfl, rfl, trivial⟩ .nil
  · rintro a ⟨ha1, ha2⟩
    have hl := refS_len kind n col cost (a - 1) (by omega)
    have hst := refS_step kind n col cost ha1
    refine aSeq ?_
    refine aSeq ?_
    refine aReg ?_
    refine oP rfl (by exact pMv (.inl rfl) rfl) rfl (by decide) ?_
    refine oP rfl (by exact pMv (.inl rfl) rfl) rfl (by decide) ?_
    refine oP rfl (by exact pBin rfl rfl rfl rfl rfl) rfl (by decide) ?_
    refine oNil ?_
    refine aCondDec rfl (fun c17 => ?_) (fun c17 => ?_)
    · skip
      refine aSkip ?_
      refine aSeq ?_
      refine aBlock ?_
      refine aSeq ?_
      refine aReg ?_
      refine oP rfl (by exact pMv (.inl rfl) rfl) rfl (by decide) ?_
      refine oNil ?_
      refine aBlock ?_
      refine aSeq ?_
      refine aSeq ?_
      refine aReg ?_
      refine oP rfl (by exact pBin rfl rfl rfl rfl rfl) rfl (by decide) ?_
      refine oP rfl (by exact pMv (.inr rfl) rfl) rfl (by decide) ?_
      refine oNil ?_
      refine aCondEq rfl (fun c21 => ?_) (fun c21 => ?_)
      · skip
        refine aSkip ?_
        refine aCondEq rfl (fun c21 => ?_) (fun c21 => ?_)
        · skip
          refine aSeq ?_
          refine aSeq ?_
          refine aReg ?_
          refine oP rfl (by exact pMv (.inl rfl) rfl) rfl (by decide) ?_
          refine oP rfl (by exact pMv (.inl rfl) rfl) rfl (by decide) ?_
          refine oP rfl (by exact pBin rfl rfl rfl rfl rfl) rfl (by decide) ?_
          refine oNil ?_
          refine aCondDec rfl (fun c26 => ?_) (fun c26 => ?_)
          · skip
            refine aReg ?_
            refine oP rfl (by exact pMv (.inl rfl) rfl) rfl (by decide) ?_
            refine oP rfl (by exact pMv (.inl rfl) rfl) rfl (by decide) ?_
            refine oP rfl (by exact pMv (.inl rfl) rfl) rfl (by decide) ?_
            refine oP rfl (by exact pAdd rfl rfl rfl (by omega) (by omega)) rfl (by decide) ?_
            refine oP rfl (by exact pMv (.inl rfl) rfl) rfl (by decide) ?_
            refine oQ rfl ?_
            refine qCall0 rfl rfl (by decide) rfl rfl (ref51_put _ _ _ _ (by first | omega | (have := putW_len (refS kind n col cost (a - 1)) (mkW a (a + 1) cost); omega) | (have := putW_len (refS kind n col cost (a - 1)) (mkW a (((a : Int) - 1).tdiv col * col + ((a : Int) - 1).tmod col + 2) cost); omega))) ?_
            rintro _ _ ⟨rfl, rfl⟩
            refine oP rfl (by exact pMv (.inr rfl) rfl) rfl (by decide) ?_
            refine oNil ?_
            refine aSeq ?_
            refine aReg ?_
            refine oP rfl (by exact pMv (.inl rfl) rfl) rfl (by decide) ?_
            refine oP rfl (by exact pBin rfl rfl rfl rfl rfl) rfl (by decide) ?_
            refine oP rfl (by exact pMv (.inl rfl) rfl) rfl (by decide) ?_
            refine oSplitEq 35 rfl (fun c35 => ?_) (fun c35 => ?_)
            · skip
              refine oGP rfl rfl rfl rfl (by exact pMv (.inl rfl) rfl) rfl (by decide) ?_
              refine oGP rfl rfl rfl rfl (by exact pMv (.inl rfl) rfl) rfl (by decide) ?_
              refine oGP rfl rfl rfl rfl (by exact pBin rfl rfl rfl rfl rfl) rfl (by decide) ?_
              refine oP rfl (by exact pPick rfl rfl rfl) rfl (by decide) ?_
              refine oP rfl (by exact pMv (.inl rfl) rfl) rfl (by decide) ?_
              refine oSplitEq 40 rfl (fun c40 => ?_) (fun c40 => ?_)
              · skip
                refine oGP rfl rfl rfl rfl (by exact pMv (.inl rfl) rfl) rfl (by decide) ?_
                refine oGP rfl rfl rfl rfl (by exact pBin rfl rfl rfl rfl rfl) rfl (by decide) ?_
                refine oP rfl (by exact pPick rfl rfl rfl) rfl (by decide) ?_
                refine oNil ?_
                refine aCondDec rfl (fun c43 => ?_) (fun c43 => ?_)
                · skip
                  refine aReg ?_
                  refine oP rfl (by exact pMv (.inl rfl) rfl) rfl (by decide) ?_
                  refine oP rfl (by exact pMv (.inl rfl) rfl) rfl (by decide) ?_
                  refine oP rfl (by exact pMv (.inl rfl) rfl) rfl (by decide) ?_
                  refine oQ rfl ?_
                  refine qCall0 rfl rfl (by decide) rfl rfl (ref51_put _ _ _ _ (by first | omega | (have := putW_len (refS kind n col cost (a - 1)) (mkW a (a + 1) cost); omega) | (have := putW_len (refS kind n col cost (a - 1)) (mkW a (((a : Int) - 1).tdiv col * col + ((a : Int) - 1).tmod col + 2) cost); omega))) ?_
                  rintro _ _ ⟨rfl, rfl⟩
                  refine oP rfl (by exact pMv (.inr rfl) rfl) rfl (by decide) ?_
                  refine oNil ?_
                  refine aReg ?_
                  refine oP rfl (by exact pMv (.inl rfl) rfl) rfl (by decide) ?_
                  refine oP rfl (by exact pAdd rfl rfl rfl (by omega) (by omega)) rfl (by decide) ?_
                  refine oP rfl (by exact pMv (.inr rfl) rfl) rfl (by decide) ?_
                  refine oNil ?_
                  try (have hbe : a = b := by omega
                       subst hbe)
                  refine ⟨a + 1, ⟨by omega, by omega⟩, ?_, weak_sub ⟨rfl, rfl, rfl, rfl, gAv rfl (congrArg (fun z => AV.sl 5 (List.map wireC z)) ?_), gInt rfl (by simp), trivial⟩ .nil⟩
                  · show n + 1 - (a + 1) < n + 1 - a; omega
                  · rw [Nat.add_sub_cancel, hst, stepS]
                    dsimp only
                    (repeat' split) <;> first | rfl | (exfalso; omega)
                · skip
                  refine aSkip ?_
                  refine aReg ?_
                  refine oP rfl (by exact pMv (.inl rfl) rfl) rfl (by decide) ?_
                  refine oP rfl (by exact pAdd rfl rfl rfl (by omega) (by omega)) rfl (by decide) ?_
                  refine oP rfl (by exact pMv (.inr rfl) rfl) rfl (by decide) ?_
                  refine oNil ?_
                  try (have hbe : a = b := by omega
                       subst hbe)
                  refine ⟨a + 1, ⟨by omega, by omega⟩, ?_, weak_sub ⟨rfl, rfl, rfl, rfl, gAv rfl (congrArg (fun z => AV.sl 5 (List.map wireC z)) ?_), gInt rfl (by simp), trivial⟩ .nil⟩
                  · show n + 1 - (a + 1) < n + 1 - a; omega
                  · rw [Nat.add_sub_cancel, hst, stepS]
                    dsimp only
                    (repeat' split) <;> first | rfl | (exfalso; omega)
              · skip
                refine oGF rfl rfl rfl rfl rfl (by decide) ?_
                refine oGF rfl rfl rfl rfl rfl (by decide) ?_
                refine oP rfl (by exact pPick rfl rfl rfl) rfl (by decide) ?_
                refine oNil ?_
                refine aCondF rfl ?_
                refine aSkip ?_
                refine aReg ?_
                refine oP rfl (by exact pMv (.inl rfl) rfl) rfl (by decide) ?_
                refine oP rfl (by exact pAdd rfl rfl rfl (by omega) (by omega)) rfl (by decide) ?_
                refine oP rfl (by exact pMv (.inr rfl) rfl) rfl (by decide) ?_
                refine oNil ?_
                try (have hbe : a = b := by omega
                     subst hbe)
                refine ⟨a + 1, ⟨by omega, by omega⟩, ?_, weak_sub ⟨rfl, rfl, rfl, rfl, gAv rfl (congrArg (fun z => AV.sl 5 (List.map wireC z)) ?_), gInt rfl (by simp), trivial⟩ .nil⟩
                · show n + 1 - (a + 1) < n + 1 - a; omega
                · rw [Nat.add_sub_cancel, hst, stepS]
                  dsimp only
                  (repeat' split) <;> first | rfl | (exfalso; omega)
            · skip
              refine oGF rfl rfl rfl rfl rfl (by decide) ?_
              refine oGF rfl rfl rfl rfl rfl (by decide) ?_
              refine oGF rfl rfl rfl rfl rfl (by decide) ?_
              refine oP rfl (by exact pPick rfl rfl rfl) rfl (by decide) ?_
              refine oP rfl (by exact pMv (.inl rfl) rfl) rfl (by decide) ?_
              refine oGF rfl rfl rfl rfl rfl (by decide) ?_
              refine oGF rfl rfl rfl rfl rfl (by decide) ?_
              refine oP rfl (by exact pPick rfl rfl rfl) rfl (by decide) ?_
              refine oNil ?_
              refine aCondF rfl ?_
              refine aSkip ?_
              refine aReg ?_
              refine oP rfl (by exact pMv (.inl rfl) rfl) rfl (by decide) ?_
              refine oP rfl (by exact pAdd rfl rfl rfl (by omega) (by omega)) rfl (by decide) ?_
              refine oP rfl (by exact pMv (.inr rfl) rfl) rfl (by decide) ?_
              refine oNil ?_
              try (have hbe : a = b := by omega
                   subst hbe)
              refine ⟨a + 1, ⟨by omega, by omega⟩, ?_, weak_sub ⟨rfl, rfl, rfl, rfl, gAv rfl (congrArg (fun z => AV.sl 5 (List.map wireC z)) ?_), gInt rfl (by simp), trivial⟩ .nil⟩
              · show n + 1 - (a + 1) < n + 1 - a; omega
              · rw [Nat.add_sub_cancel, hst, stepS]
                dsimp only
                (repeat' split) <;> first | rfl | (exfalso; omega)
          · skip
            refine aSkip ?_
            refine aSeq ?_
            refine aReg ?_
            refine oP rfl (by exact pMv (.inl rfl) rfl) rfl (by decide) ?_
            refine oP rfl (by exact pBin rfl rfl rfl rfl rfl) rfl (by decide) ?_
            refine oP rfl (by exact pMv (.inl rfl) rfl) rfl (by decide) ?_
            refine oSplitEq 35 rfl (fun c35 => ?_) (fun c35 => ?_)
            · skip
              refine oGP rfl rfl rfl rfl (by exact pMv (.inl rfl) rfl) rfl (by decide) ?_
              refine oGP rfl rfl rfl rfl (by exact pMv (.inl rfl) rfl) rfl (by decide) ?_
              refine oGP rfl rfl rfl rfl (by exact pBin rfl rfl rfl rfl rfl) rfl (by decide) ?_
              refine oP rfl (by exact pPick rfl rfl rfl) rfl (by decide) ?_
              refine oP rfl (by exact pMv (.inl rfl) rfl) rfl (by decide) ?_
              refine oSplitEq 40 rfl (fun c40 => ?_) (fun c40 => ?_)
              · skip
                refine oGP rfl rfl rfl rfl (by exact pMv (.inl rfl) rfl) rfl (by decide) ?_
                refine oGP rfl rfl rfl rfl (by exact pBin rfl rfl rfl rfl rfl) rfl (by decide) ?_
                refine oP rfl (by exact pPick rfl rfl rfl) rfl (by decide) ?_
                refine oNil ?_
                refine aCondDec rfl (fun c43 => ?_) (fun c43 => ?_)
                · skip
                  refine aReg ?_
                  refine oP rfl (by exact pMv (.inl rfl) rfl) rfl (by decide) ?_
                  refine oP rfl (by exact pMv (.inl rfl) rfl) rfl (by decide) ?_
                  refine oP rfl (by exact pMv (.inl rfl) rfl) rfl (by decide) ?_
                  refine oQ rfl ?_
                  refine qCall0 rfl rfl (by decide) rfl rfl (ref51_put _ _ _ _ (by first | omega | (have := putW_len (refS kind n col cost (a - 1)) (mkW a (a + 1) cost); omega) | (have := putW_len (refS kind n col cost (a - 1)) (mkW a (((a : Int) - 1).tdiv col * col + ((a : Int) - 1).tmod col + 2) cost); omega))) ?_
                  rintro _ _ ⟨rfl, rfl⟩
                  refine oP rfl (by exact pMv (.inr rfl) rfl) rfl (by decide) ?_
                  refine oNil ?_
                  refine aReg ?_
                  refine oP rfl (by exact pMv (.inl rfl) rfl) rfl (by decide) ?_
                  refine oP rfl (by exact pAdd rfl rfl rfl (by omega) (by omega)) rfl (by decide) ?_
                  refine oP rfl (by exact pMv (.inr rfl) rfl) rfl (by decide) ?_
                  refine oNil ?_
                  try (have hbe : a = b := by omega
                       subst hbe)
                  refine ⟨a + 1, ⟨by omega, by omega⟩, ?_, weak_sub ⟨rfl, rfl, rfl, rfl, gAv rfl (congrArg (fun z => AV.sl 5 (List.map wireC z)) ?_), gInt rfl (by simp), trivial⟩ .nil⟩
                  · show n + 1 - (a + 1) < n + 1 - a; omega
                  · rw [Nat.add_sub_cancel, hst, stepS]
                    dsimp only
                    (repeat' split) <;> first | rfl | (exfalso; omega)
                · skip
                  refine aSkip ?_
                  refine aReg ?_
                  refine oP rfl (by exact pMv (.inl rfl) rfl) rfl (by decide) ?_
                  refine oP rfl (by exact pAdd rfl rfl rfl (by omega) (by omega)) rfl (by decide) ?_
                  refine oP rfl (by exact pMv (.inr rfl) rfl) rfl (by decide) ?_
                  refine oNil ?_
                  try (have hbe : a = b := by omega
                       subst hbe)
                  refine ⟨a + 1, ⟨by omega, by omega⟩, ?_, weak_sub ⟨rfl, rfl, rfl, rfl, gAv rfl (congrArg (fun z => AV.sl 5 (List.map wireC z)) ?_), gInt rfl (by simp), trivial⟩ .nil⟩
                  · show n + 1 - (a + 1) < n + 1 - a; omega
                  · rw [Nat.add_sub_cancel, hst, stepS]
                    dsimp only
                    (repeat' split) <;> first | rfl | (exfalso; omega)
              · skip
                refine oGF rfl rfl rfl rfl rfl (by decide) ?_
                refine oGF rfl rfl rfl rfl rfl (by decide) ?_
                refine oP rfl (by exact pPick rfl rfl rfl) rfl (by decide) ?_
                refine oNil ?_
                refine aCondF rfl ?_
                refine aSkip ?_
                refine aReg ?_
                refine oP rfl (by exact pMv (.inl rfl) rfl) rfl (by decide) ?_
                refine oP rfl (by exact pAdd rfl rfl rfl (by omega) (by omega)) rfl (by decide) ?_
                refine oP rfl (by exact pMv (.inr rfl) rfl) rfl (by decide) ?_
                refine oNil ?_
                try (have hbe : a = b := by omega
                     subst hbe)
                refine ⟨a + 1, ⟨by omega, by omega⟩, ?_, weak_sub ⟨rfl, rfl, rfl, rfl, gAv rfl (congrArg (fun z => AV.sl 5 (List.map wireC z)) ?_), gInt rfl (by simp), trivial⟩ .nil⟩
                · show n + 1 - (a + 1) < n + 1 - a; omega
                · rw [Nat.add_sub_cancel, hst, stepS]
                  dsimp only
                  (repeat' split) <;> first | rfl | (exfalso; omega)
            · skip
              refine oGF rfl rfl rfl rfl rfl (by decide) ?_
              refine oGF rfl rfl rfl rfl rfl (by decide) ?_
              refine oGF rfl rfl rfl rfl rfl (by decide) ?_
              refine oP rfl (by exact pPick rfl rfl rfl) rfl (by decide) ?_
              refine oP rfl (by exact pMv (.inl rfl) rfl) rfl (by decide) ?_
              refine oGF rfl rfl rfl rfl rfl (by decide) ?_
              refine oGF rfl rfl rfl rfl rfl (by decide) ?_
              refine oP rfl (by exact pPick rfl rfl rfl) rfl (by decide) ?_
              refine oNil ?_
              refine aCondF rfl ?_
              refine aSkip ?_
              refine aReg ?_
              refine oP rfl (by exact pMv (.inl rfl) rfl) rfl (by decide) ?_
              refine oP rfl (by exact pAdd rfl rfl rfl (by omega) (by omega)) rfl (by decide) ?_
              refine oP rfl (by exact pMv (.inr rfl) rfl) rfl (by decide) ?_
              refine oNil ?_
              try (have hbe : a = b := by omega
                   subst hbe)
              refine ⟨a + 1, ⟨by omega, by omega⟩, ?_, weak_sub ⟨rfl, rfl, rfl, rfl, gAv rfl (congrArg (fun z => AV.sl 5 (List.map wireC z)) ?_), gInt rfl (by simp), trivial⟩ .nil⟩
              · show n + 1 - (a + 1) < n + 1 - a; omega
              · rw [Nat.add_sub_cancel, hst, stepS]
                dsimp only
                (repeat' split) <;> first | rfl | (exfalso; omega)
        · skip
          refine aSeq ?_
          refine aReg ?_
          refine oP rfl (by exact pBin rfl rfl rfl rfl rfl) rfl (by decide) ?_
          refine oP rfl (by exact pMv (.inr rfl) rfl) rfl (by decide) ?_
          refine oNil ?_
          refine aCondEq rfl (fun c48 => ?_) (fun c48 => ?_)
          · skip
            refine aSeq ?_
            refine aReg ?_
            refine oP rfl (by exact pMv (.inl rfl) rfl) rfl (by decide) ?_
            refine oP rfl (by exact pBin rfl rfl rfl rfl rfl) rfl (by decide) ?_
            refine oNil ?_
            refine aCondDec rfl (fun c51 => ?_) (fun c51 => ?_)
            · skip
              refine aReg ?_
              refine oP rfl (by exact pMv (.inl rfl) rfl) rfl (by decide) ?_
              refine oP rfl (by exact pMv (.inl rfl) rfl) rfl (by decide) ?_
              refine oP rfl (by exact pMv (.inl rfl) rfl) rfl (by decide) ?_
              refine oQ rfl ?_
              refine qCall0 rfl rfl (by decide) rfl rfl (ref51_put _ _ _ _ (by first | omega | (have := putW_len (refS kind n col cost (a - 1)) (mkW a (a + 1) cost); omega) | (have := putW_len (refS kind n col cost (a - 1)) (mkW a (((a : Int) - 1).tdiv col * col + ((a : Int) - 1).tmod col + 2) cost); omega))) ?_
              rintro _ _ ⟨rfl, rfl⟩
              refine oP rfl (by exact pMv (.inr rfl) rfl) rfl (by decide) ?_
              refine oNil ?_
              refine aReg ?_
              refine oP rfl (by exact pMv (.inl rfl) rfl) rfl (by decide) ?_
              refine oP rfl (by exact pAdd rfl rfl rfl (by omega) (by omega)) rfl (by decide) ?_
              refine oP rfl (by exact pMv (.inr rfl) rfl) rfl (by decide) ?_
              refine oNil ?_
              try (have hbe : a = b := by omega
                   subst hbe)
              refine ⟨a + 1, ⟨by omega, by omega⟩, ?_, weak_sub ⟨rfl, rfl, rfl, rfl, gAv rfl (congrArg (fun z => AV.sl 5 (List.map wireC z)) ?_), gInt rfl (by simp), trivial⟩ .nil⟩
              · show n + 1 - (a + 1) < n + 1 - a; omega
              · rw [Nat.add_sub_cancel, hst, stepS]
                dsimp only
                (repeat' split) <;> first | rfl | (exfalso; omega)
            · skip
              refine aSkip ?_
              refine aReg ?_
              refine oP rfl (by exact pMv (.inl rfl) rfl) rfl (by decide) ?_
              refine oP rfl (by exact pAdd rfl rfl rfl (by omega) (by omega)) rfl (by decide) ?_
              refine oP rfl (by exact pMv (.inr rfl) rfl) rfl (by decide) ?_
              refine oNil ?_
              try (have hbe : a = b := by omega
                   subst hbe)
              refine ⟨a + 1, ⟨by omega, by omega⟩, ?_, weak_sub ⟨rfl, rfl, rfl, rfl, gAv rfl (congrArg (fun z => AV.sl 5 (List.map wireC z)) ?_), gInt rfl (by simp), trivial⟩ .nil⟩
              · show n + 1 - (a + 1) < n + 1 - a; omega
              · rw [Nat.add_sub_cancel, hst, stepS]
                dsimp only
                (repeat' split) <;> first | rfl | (exfalso; omega)
          · skip
            refine aSeq ?_
            refine aReg ?_
            refine oP rfl (by exact pBin rfl rfl rfl rfl rfl) rfl (by decide) ?_
            refine oP rfl (by exact pMv (.inr rfl) rfl) rfl (by decide) ?_
            refine oNil ?_
            refine aCondEq rfl (fun c56 => ?_) (fun c56 => ?_)
            · skip
              refine aSeq ?_
              refine aReg ?_
              refine oP rfl (by exact pMv (.inr rfl) rfl) rfl (by decide) ?_
              refine oNil ?_
              refine aBlock ?_
              refine aLoopI (α := Nat) (fun b => 1 ≤ b ∧ b ≤ a) (fun b => ([(0, .int kind), (1, .int n), (2, .int col), (3, .int cost), (9, .sl 5 (((List.range' 1 (b - 1)).foldl (fun o (b : Nat) => putW o (mkW b a cost)) (refS kind n col cost (a - 1))).map wireC)), (10, .int a), (11, .int b)], [])) (fun b => a - b) 1 ?_ ?_ ?_
              · skip
                exact ⟨by omega, by omega⟩
              · skip
                exact weak_sub ⟨rfl, rfl, rfl, rfl, rfl, rfl, rfl, trivial⟩ .nil
              · rintro b ⟨hb1, hb2⟩
                skip
                refine aSeq ?_
                refine aSeq ?_
                refine aReg ?_
                refine oP rfl (by exact pMv (.inl rfl) rfl) rfl (by decide) ?_
                refine oP rfl (by exact pMv (.inl rfl) rfl) rfl (by decide) ?_
                refine oP rfl (by exact pBin rfl rfl rfl rfl rfl) rfl (by decide) ?_
                refine oNil ?_
                refine aCondDec rfl (fun c60 => ?_) (fun c60 => ?_)
                · skip
                  refine aSkip ?_
                  refine aSeq ?_
                  refine aBlock ?_
                  refine aReg ?_
                  refine oP rfl (by exact pMv (.inl rfl) rfl) rfl (by decide) ?_
                  refine oP rfl (by exact pMv (.inl rfl) rfl) rfl (by decide) ?_
                  refine oP rfl (by exact pMv (.inl rfl) rfl) rfl (by decide) ?_
                  refine oP rfl (by exact pMv (.inl rfl) rfl) rfl (by decide) ?_
                  refine oQ rfl ?_
                  refine qCall0 rfl rfl (by decide) rfl rfl (ref51_put _ _ _ _ (by have := foldS_len cost a (List.range' 1 (b - 1)) (refS kind n col cost (a - 1)); rw [List.length_range'] at this; omega)) ?_
                  rintro _ _ ⟨rfl, rfl⟩
                  refine oP rfl (by exact pMv (.inr rfl) rfl) rfl (by decide) ?_
                  refine oNil ?_
                  refine aReg ?_
                  refine oP rfl (by exact pMv (.inl rfl) rfl) rfl (by decide) ?_
                  refine oP rfl (by exact pAdd rfl rfl rfl (by omega) (by omega)) rfl (by decide) ?_
                  refine oP rfl (by exact pMv (.inr rfl) rfl) rfl (by decide) ?_
                  refine oNil ?_
                  refine ⟨b + 1, ⟨by omega, by omega⟩, by show a - (b + 1) < a - b; omega, weak_sub ⟨rfl, rfl, rfl, rfl, gAv rfl ?_, rfl, gInt rfl (by simp), trivial⟩ .nil⟩
                  rw [show b + 1 - 1 = (b - 1) + 1 by omega, List.range'_concat, List.foldl_append]
                  simp only [List.foldl_cons, List.foldl_nil, Nat.one_mul]
                  rw [show 1 + (b - 1) = b by omega]
                · skip
                  refine aExit rfl ?_
                  refine aReg ?_
                  refine oP rfl (by exact pMv (.inl rfl) rfl) rfl (by decide) ?_
                  refine oP rfl (by exact pAdd rfl rfl rfl (by omega) (by omega)) rfl (by decide) ?_
                  refine oP rfl (by exact pMv (.inr rfl) rfl) rfl (by decide) ?_
                  refine oNil ?_
                  try (have hbe : a = b := by omega
                       subst hbe)
                  refine ⟨a + 1, ⟨by omega, by omega⟩, ?_, weak_sub ⟨rfl, rfl, rfl, rfl, gAv rfl (congrArg (fun z => AV.sl 5 (List.map wireC z)) ?_), gInt rfl (by simp), trivial⟩ .nil⟩
                  · show n + 1 - (a + 1) < n + 1 - a; omega
                  · rw [Nat.add_sub_cancel, hst, stepS]
                    dsimp only
                    (repeat' split) <;> first | rfl | (exfalso; omega)
            · skip
              refine aSeq ?_
              refine aReg ?_
              refine oP rfl (by exact pBin rfl rfl rfl rfl rfl) rfl (by decide) ?_
              refine oP rfl (by exact pMv (.inr rfl) rfl) rfl (by decide) ?_
              refine oNil ?_
              refine aCondEq rfl (fun c68 => ?_) (fun c68 => ?_)
              · skip
                refine aSeq ?_
                have hcol := hc c68
                obtain ⟨hq0, hq1, hr0, hr1, hdm, hrow, hq2⟩ := gridQ (a := (a : Int) - 1) (col := col) (by omega) hcol.1
                refine aDrawT ref51_Shape_r21_t ref51_Shape_r21_b [] 10 #[false, false, false, false, false, false, false, false, false, false] (by kernel_rfl) rfl rfl (fun HT => ?_)
                refine dPure (i := 0) #[true, false, false, false, false, false, false, false, false, false] rfl rfl rfl (HT.any (by kernel_rfl)) (by exact pMv (.inl rfl) rfl) (by decide) ?_
                refine dPure (i := 1) #[true, true, false, false, false, false, false, false, false, false] rfl rfl rfl (HT.any (by kernel_rfl)) (by exact pSub rfl rfl rfl (by omega) (by omega)) (by decide) ?_
                refine dPure (i := 2) #[true, true, true, false, false, false, false, false, false, false] rfl rfl rfl (HT.any (by kernel_rfl)) (by exact pMv (.inl rfl) rfl) (by decide) ?_
                refine dPure (i := 3) #[true, true, true, true, false, false, false, false, false, false] rfl rfl rfl (HT.any (by kernel_rfl)) (by exact pQuoI rfl rfl rfl (by omega) (by omega) (by omega)) (by decide) ?_
                refine dPure (i := 4) #[true, true, true, true, true, false, false, false, false, false] rfl rfl rfl (HT.any (by kernel_rfl)) (by exact pMv (.inl rfl) rfl) (by decide) ?_
                refine dPure (i := 5) #[true, true, true, true, true, true, false, false, false, false] rfl rfl rfl (HT.any (by kernel_rfl)) (by exact pSub rfl rfl rfl (by omega) (by omega)) (by decide) ?_
                refine dPure (i := 6) #[true, true, true, true, true, true, true, false, false, false] rfl rfl rfl (HT.any (by kernel_rfl)) (by exact pMv (.inl rfl) rfl) (by decide) ?_
                refine dPure (i := 7) #[true, true, true, true, true, true, true, true, false, false] rfl rfl rfl (HT.any (by kernel_rfl)) (by exact pRem rfl rfl rfl (by first | decide | omega)) (by decide) ?_
                refine dPure (i := 8) #[true, true, true, true, true, true, true, true, true, false] rfl rfl rfl (HT.any (by kernel_rfl)) (by exact pMv (.inr rfl) rfl) (by decide) ?_
                refine dPure (i := 9) #[true, true, true, true, true, true, true, true, true, true] rfl rfl rfl (HT.any (by kernel_rfl)) (by exact pMv (.inr rfl) rfl) (by decide) ?_
                refine dEnd (HT.done (by kernel_rfl)) ?_
                clear HT
                refine aSeq ?_
                refine aSeq ?_
                refine aReg ?_
                refine oP rfl (by exact pMv (.inl rfl) rfl) rfl (by decide) ?_
                refine oP rfl (by exact pAdd rfl rfl rfl (by omega) (by omega)) rfl (by decide) ?_
                refine oP rfl (by exact pMv (.inl rfl) rfl) rfl (by decide) ?_
                refine oP rfl (by exact pBin rfl rfl rfl rfl rfl) rfl (by decide) ?_
                refine oP rfl (by exact pMv (.inl rfl) rfl) rfl (by decide) ?_
                refine oSplitDec 82 rfl (fun c82 => ?_) (fun c82 => ?_)
                · skip
                  refine oGP rfl rfl rfl rfl (by exact pMv (.inl rfl) rfl) rfl (by decide) ?_
                  refine oGP rfl rfl rfl rfl (by exact pMv (.inl rfl) rfl) rfl (by decide) ?_
                  refine oGP rfl rfl rfl rfl (by exact pMul rfl rfl rfl (by omega) (by omega)) rfl (by decide) ?_
                  refine oGP rfl rfl rfl rfl (by exact pMv (.inl rfl) rfl) rfl (by decide) ?_
                  refine oGP rfl rfl rfl rfl (by exact pAdd rfl rfl rfl (by omega) (by omega)) rfl (by decide) ?_
                  refine oGP rfl rfl rfl rfl (by exact pAdd rfl rfl rfl (by omega) (by omega)) rfl (by decide) ?_
                  refine oGP rfl rfl rfl rfl (by exact pMv (.inl rfl) rfl) rfl (by decide) ?_
                  refine oGP rfl rfl rfl rfl (by exact pBin rfl rfl rfl rfl rfl) rfl (by decide) ?_
                  refine oP rfl (by exact pPick rfl rfl rfl) rfl (by decide) ?_
                  refine oNil ?_
                  refine aCondDec rfl (fun c91 => ?_) (fun c91 => ?_)
                  · skip
                    refine aReg ?_
                    refine oP rfl (by exact pMv (.inl rfl) rfl) rfl (by decide) ?_
                    refine oP rfl (by exact pMv (.inl rfl) rfl) rfl (by decide) ?_
                    refine oP rfl (by exact pMv (.inl rfl) rfl) rfl (by decide) ?_
                    refine oP rfl (by exact pMv (.inl rfl) rfl) rfl (by decide) ?_
                    refine oP rfl (by exact pMul rfl rfl rfl (by omega) (by omega)) rfl (by decide) ?_
                    refine oP rfl (by exact pMv (.inl rfl) rfl) rfl (by decide) ?_
                    refine oP rfl (by exact pAdd rfl rfl rfl (by omega) (by omega)) rfl (by decide) ?_
                    refine oP rfl (by exact pAdd rfl rfl rfl (by omega) (by omega)) rfl (by decide) ?_
                    refine oP rfl (by exact pMv (.inl rfl) rfl) rfl (by decide) ?_
                    refine oQ rfl ?_
                    refine qCall0 rfl rfl (by decide) rfl rfl (ref51_put _ _ _ _ (by first | omega | (have := putW_len (refS kind n col cost (a - 1)) (mkW a (a + 1) cost); omega) | (have := putW_len (refS kind n col cost (a - 1)) (mkW a (((a : Int) - 1).tdiv col * col + ((a : Int) - 1).tmod col + 2) cost); omega))) ?_
                    rintro _ _ ⟨rfl, rfl⟩
                    refine oP rfl (by exact pMv (.inr rfl) rfl) rfl (by decide) ?_
                    refine oNil ?_
                    refine aSeq ?_
                    refine aReg ?_
                    refine oP rfl (by exact pMv (.inl rfl) rfl) rfl (by decide) ?_
                    refine oP rfl (by exact pAdd rfl rfl rfl (by omega) (by omega)) rfl (by decide) ?_
                    refine oP rfl (by exact pMv (.inl rfl) rfl) rfl (by decide) ?_
                    refine oP rfl (by exact pMul rfl rfl rfl (by omega) (by omega)) rfl (by decide) ?_
                    refine oP rfl (by exact pMv (.inl rfl) rfl) rfl (by decide) ?_
                    refine oP rfl (by exact pAdd rfl rfl rfl (by omega) (by omega)) rfl (by decide) ?_
                    refine oP rfl (by exact pAdd rfl rfl rfl (by omega) (by omega)) rfl (by decide) ?_
                    refine oP rfl (by exact pMv (.inl rfl) rfl) rfl (by decide) ?_
                    refine oP rfl (by exact pBin rfl rfl rfl rfl rfl) rfl (by decide) ?_
                    refine oNil ?_
                    refine aCondDec rfl (fun c110 => ?_) (fun c110 => ?_)
                    · skip
                      refine aReg ?_
                      refine oP rfl (by exact pMv (.inl rfl) rfl) rfl (by decide) ?_
                      refine oP rfl (by exact pMv (.inl rfl) rfl) rfl (by decide) ?_
                      refine oP rfl (by exact pMv (.inl rfl) rfl) rfl (by decide) ?_
                      refine oP rfl (by exact pAdd rfl rfl rfl (by omega) (by omega)) rfl (by decide) ?_
                      refine oP rfl (by exact pMv (.inl rfl) rfl) rfl (by decide) ?_
                      refine oP rfl (by exact pMul rfl rfl rfl (by omega) (by omega)) rfl (by decide) ?_
                      refine oP rfl (by exact pMv (.inl rfl) rfl) rfl (by decide) ?_
                      refine oP rfl (by exact pAdd rfl rfl rfl (by omega) (by omega)) rfl (by decide) ?_
                      refine oP rfl (by exact pAdd rfl rfl rfl (by omega) (by omega)) rfl (by decide) ?_
                      refine oP rfl (by exact pMv (.inl rfl) rfl) rfl (by decide) ?_
                      refine oQ rfl ?_
                      refine qCall0 rfl rfl (by decide) rfl rfl (ref51_put _ _ _ _ (by first | omega | (have := putW_len (refS kind n col cost (a - 1)) (mkW a (a + 1) cost); omega) | (have := putW_len (refS kind n col cost (a - 1)) (mkW a (((a : Int) - 1).tdiv col * col + ((a : Int) - 1).tmod col + 2) cost); omega))) ?_
                      rintro _ _ ⟨rfl, rfl⟩
                      refine oP rfl (by exact pMv (.inr rfl) rfl) rfl (by decide) ?_
                      refine oNil ?_
                      refine aReg ?_
                      refine oP rfl (by exact pMv (.inl rfl) rfl) rfl (by decide) ?_
                      refine oP rfl (by exact pAdd rfl rfl rfl (by omega) (by omega)) rfl (by decide) ?_
                      refine oP rfl (by exact pMv (.inr rfl) rfl) rfl (by decide) ?_
                      refine oNil ?_
                      try (have hbe : a = b := by omega
                           subst hbe)
                      refine ⟨a + 1, ⟨by omega, by omega⟩, ?_, weak_sub ⟨rfl, rfl, rfl, rfl, gAv rfl (congrArg (fun z => AV.sl 5 (List.map wireC z)) ?_), gInt rfl (by simp), trivial⟩ .nil⟩
                      · show n + 1 - (a + 1) < n + 1 - a; omega
                      · rw [Nat.add_sub_cancel, hst, stepS]
                        dsimp only
                        (repeat' split) <;> first | rfl | (exfalso; omega)
                    · skip
                      refine aSkip ?_
                      refine aReg ?_
                      refine oP rfl (by exact pMv (.inl rfl) rfl) rfl (by decide) ?_
                      refine oP rfl (by exact pAdd rfl rfl rfl (by omega) (by omega)) rfl (by decide) ?_
                      refine oP rfl (by exact pMv (.inr rfl) rfl) rfl (by decide) ?_
                      refine oNil ?_
                      try (have hbe : a = b := by omega
                           subst hbe)
                      refine ⟨a + 1, ⟨by omega, by omega⟩, ?_, weak_sub ⟨rfl, rfl, rfl, rfl, gAv rfl (congrArg (fun z => AV.sl 5 (List.map wireC z)) ?_), gInt rfl (by simp), trivial⟩ .nil⟩
                      · show n + 1 - (a + 1) < n + 1 - a; omega
                      · rw [Nat.add_sub_cancel, hst, stepS]
                        dsimp only
                        (repeat' split) <;> first | rfl | (exfalso; omega)
                  · skip
                    refine aSkip ?_
                    refine aSeq ?_
                    refine aReg ?_
                    refine oP rfl (by exact pMv (.inl rfl) rfl) rfl (by decide) ?_
                    refine oP rfl (by exact pAdd rfl rfl rfl (by omega) (by omega)) rfl (by decide) ?_
                    refine oP rfl (by exact pMv (.inl rfl) rfl) rfl (by decide) ?_
                    refine oP rfl (by exact pMul rfl rfl rfl (by omega) (by omega)) rfl (by decide) ?_
                    refine oP rfl (by exact pMv (.inl rfl) rfl) rfl (by decide) ?_
                    refine oP rfl (by exact pAdd rfl rfl rfl (by omega) (by omega)) rfl (by decide) ?_
                    refine oP rfl (by exact pAdd rfl rfl rfl (by omega) (by omega)) rfl (by decide) ?_
                    refine oP rfl (by exact pMv (.inl rfl) rfl) rfl (by decide) ?_
                    refine oP rfl (by exact pBin rfl rfl rfl rfl rfl) rfl (by decide) ?_
                    refine oNil ?_
                    refine aCondDec rfl (fun c110 => ?_) (fun c110 => ?_)
                    · skip
                      refine aReg ?_
                      refine oP rfl (by exact pMv (.inl rfl) rfl) rfl (by decide) ?_
                      refine oP rfl (by exact pMv (.inl rfl) rfl) rfl (by decide) ?_
                      refine oP rfl (by exact pMv (.inl rfl) rfl) rfl (by decide) ?_
                      refine oP rfl (by exact pAdd rfl rfl rfl (by omega) (by omega)) rfl (by decide) ?_
                      refine oP rfl (by exact pMv (.inl rfl) rfl) rfl (by decide) ?_
                      refine oP rfl (by exact pMul rfl rfl rfl (by omega) (by omega)) rfl (by decide) ?_
                      refine oP rfl (by exact pMv (.inl rfl) rfl) rfl (by decide) ?_
                      refine oP rfl (by exact pAdd rfl rfl rfl (by omega) (by omega)) rfl (by decide) ?_
                      refine oP rfl (by exact pAdd rfl rfl rfl (by omega) (by omega)) rfl (by decide) ?_
                      refine oP rfl (by exact pMv (.inl rfl) rfl) rfl (by decide) ?_
                      refine oQ rfl ?_
                      refine qCall0 rfl rfl (by decide) rfl rfl (ref51_put _ _ _ _ (by first | omega | (have := putW_len (refS kind n col cost (a - 1)) (mkW a (a + 1) cost); omega) | (have := putW_len (refS kind n col cost (a - 1)) (mkW a (((a : Int) - 1).tdiv col * col + ((a : Int) - 1).tmod col + 2) cost); omega))) ?_
                      rintro _ _ ⟨rfl, rfl⟩
                      refine oP rfl (by exact pMv (.inr rfl) rfl) rfl (by decide) ?_
                      refine oNil ?_
                      refine aReg ?_
                      refine oP rfl (by exact pMv (.inl rfl) rfl) rfl (by decide) ?_
                      refine oP rfl (by exact pAdd rfl rfl rfl (by omega) (by omega)) rfl (by decide) ?_
                      refine oP rfl (by exact pMv (.inr rfl) rfl) rfl (by decide) ?_
                      refine oNil ?_
                      try (have hbe : a = b := by omega
                           subst hbe)
                      refine ⟨a + 1, ⟨by omega, by omega⟩, ?_, weak_sub ⟨rfl, rfl, rfl, rfl, gAv rfl (congrArg (fun z => AV.sl 5 (List.map wireC z)) ?_), gInt rfl (by simp), trivial⟩ .nil⟩
                      · show n + 1 - (a + 1) < n + 1 - a; omega
                      · rw [Nat.add_sub_cancel, hst, stepS]
                        dsimp only
                        (repeat' split) <;> first | rfl | (exfalso; omega)
                    · skip
                      refine aSkip ?_
                      refine aReg ?_
                      refine oP rfl (by exact pMv (.inl rfl) rfl) rfl (by decide) ?_
                      refine oP rfl (by exact pAdd rfl rfl rfl (by omega) (by omega)) rfl (by decide) ?_
                      refine oP rfl (by exact pMv (.inr rfl) rfl) rfl (by decide) ?_
                      refine oNil ?_
                      try (have hbe : a = b := by omega
                           subst hbe)
                      refine ⟨a + 1, ⟨by omega, by omega⟩, ?_, weak_sub ⟨rfl, rfl, rfl, rfl, gAv rfl (congrArg (fun z => AV.sl 5 (List.map wireC z)) ?_), gInt rfl (by simp), trivial⟩ .nil⟩
                      · show n + 1 - (a + 1) < n + 1 - a; omega
                      · rw [Nat.add_sub_cancel, hst, stepS]
                        dsimp only
                        (repeat' split) <;> first | rfl | (exfalso; omega)
                · skip
                  refine oGF rfl rfl rfl rfl rfl (by decide) ?_
                  refine oGF rfl rfl rfl rfl rfl (by decide) ?_
                  refine oGF rfl rfl rfl rfl rfl (by decide) ?_
                  refine oGF rfl rfl rfl rfl rfl (by decide) ?_
                  refine oGF rfl rfl rfl rfl rfl (by decide) ?_
                  refine oGF rfl rfl rfl rfl rfl (by decide) ?_
                  refine oGF rfl rfl rfl rfl rfl (by decide) ?_
                  refine oGF rfl rfl rfl rfl rfl (by decide) ?_
                  refine oP rfl (by exact pPick rfl rfl rfl) rfl (by decide) ?_
                  refine oNil ?_
                  refine aCondF rfl ?_
                  refine aSkip ?_
                  refine aSeq ?_
                  refine aReg ?_
                  refine oP rfl (by exact pMv (.inl rfl) rfl) rfl (by decide) ?_
                  refine oP rfl (by exact pAdd rfl rfl rfl (by omega) (by omega)) rfl (by decide) ?_
                  refine oP rfl (by exact pMv (.inl rfl) rfl) rfl (by decide) ?_
                  refine oP rfl (by exact pMul rfl rfl rfl (by omega) (by omega)) rfl (by decide) ?_
                  refine oP rfl (by exact pMv (.inl rfl) rfl) rfl (by decide) ?_
                  refine oP rfl (by exact pAdd rfl rfl rfl (by omega) (by omega)) rfl (by decide) ?_
                  refine oP rfl (by exact pAdd rfl rfl rfl (by omega) (by omega)) rfl (by decide) ?_
                  refine oP rfl (by exact pMv (.inl rfl) rfl) rfl (by decide) ?_
                  refine oP rfl (by exact pBin rfl rfl rfl rfl rfl) rfl (by decide) ?_
                  refine oNil ?_
                  refine aCondDec rfl (fun c110 => ?_) (fun c110 => ?_)
                  · skip
                    refine aReg ?_
                    refine oP rfl (by exact pMv (.inl rfl) rfl) rfl (by decide) ?_
                    refine oP rfl (by exact pMv (.inl rfl) rfl) rfl (by decide) ?_
                    refine oP rfl (by exact pMv (.inl rfl) rfl) rfl (by decide) ?_
                    refine oP rfl (by exact pAdd rfl rfl rfl (by omega) (by omega)) rfl (by decide) ?_
                    refine oP rfl (by exact pMv (.inl rfl) rfl) rfl (by decide) ?_
                    refine oP rfl (by exact pMul rfl rfl rfl (by omega) (by omega)) rfl (by decide) ?_
                    refine oP rfl (by exact pMv (.inl rfl) rfl) rfl (by decide) ?_
                    refine oP rfl (by exact pAdd rfl rfl rfl (by omega) (by omega)) rfl (by decide) ?_
                    refine oP rfl (by exact pAdd rfl rfl rfl (by omega) (by omega)) rfl (by decide) ?_
                    refine oP rfl (by exact pMv (.inl rfl) rfl) rfl (by decide) ?_
                    refine oQ rfl ?_
                    refine qCall0 rfl rfl (by decide) rfl rfl (ref51_put _ _ _ _ (by first | omega | (have := putW_len (refS kind n col cost (a - 1)) (mkW a (a + 1) cost); omega) | (have := putW_len (refS kind n col cost (a - 1)) (mkW a (((a : Int) - 1).tdiv col * col + ((a : Int) - 1).tmod col + 2) cost); omega))) ?_
                    rintro _ _ ⟨rfl, rfl⟩
                    refine oP rfl (by exact pMv (.inr rfl) rfl) rfl (by decide) ?_
                    refine oNil ?_
                    refine aReg ?_
                    refine oP rfl (by exact pMv (.inl rfl) rfl) rfl (by decide) ?_
                    refine oP rfl (by exact pAdd rfl rfl rfl (by omega) (by omega)) rfl (by decide) ?_
                    refine oP rfl (by exact pMv (.inr rfl) rfl) rfl (by decide) ?_
                    refine oNil ?_
                    try (have hbe : a = b := by omega
                         subst hbe)
                    refine ⟨a + 1, ⟨by omega, by omega⟩, ?_, weak_sub ⟨rfl, rfl, rfl, rfl, gAv rfl (congrArg (fun z => AV.sl 5 (List.map wireC z)) ?_), gInt rfl (by simp), trivial⟩ .nil⟩
                    · show n + 1 - (a + 1) < n + 1 - a; omega
                    · rw [Nat.add_sub_cancel, hst, stepS]
                      dsimp only
                      (repeat' split) <;> first | rfl | (exfalso; omega)
                  · skip
                    refine aSkip ?_
                    refine aReg ?_
                    refine oP rfl (by exact pMv (.inl rfl) rfl) rfl (by decide) ?_
                    refine oP rfl (by exact pAdd rfl rfl rfl (by omega) (by omega)) rfl (by decide) ?_
                    refine oP rfl (by exact pMv (.inr rfl) rfl) rfl (by decide) ?_
                    refine oNil ?_
                    try (have hbe : a = b := by omega
                         subst hbe)
                    refine ⟨a + 1, ⟨by omega, by omega⟩, ?_, weak_sub ⟨rfl, rfl, rfl, rfl, gAv rfl (congrArg (fun z => AV.sl 5 (List.map wireC z)) ?_), gInt rfl (by simp), trivial⟩ .nil⟩
                    · show n + 1 - (a + 1) < n + 1 - a; omega
                    · rw [Nat.add_sub_cancel, hst, stepS]
                      dsimp only
                      (repeat' split) <;> first | rfl | (exfalso; omega)
              · skip
                refine aSkip ?_
                refine aReg ?_
                refine oP rfl (by exact pMv (.inl rfl) rfl) rfl (by decide) ?_
                refine oP rfl (by exact pAdd rfl rfl rfl (by omega) (by omega)) rfl (by decide) ?_
                refine oP rfl (by exact pMv (.inr rfl) rfl) rfl (by decide) ?_
                refine oNil ?_
                try (have hbe : a = b := by omega
                     subst hbe)
                refine ⟨a + 1, ⟨by omega, by omega⟩, ?_, weak_sub ⟨rfl, rfl, rfl, rfl, gAv rfl (congrArg (fun z => AV.sl 5 (List.map wireC z)) ?_), gInt rfl (by simp), trivial⟩ .nil⟩
                · show n + 1 - (a + 1) < n + 1 - a; omega
                · rw [Nat.add_sub_cancel, hst, stepS]
                  dsimp only
                  (repeat' split) <;> first | rfl | (exfalso; omega)
      · skip
        refine aReg ?_
        refine oP rfl (by exact pBin rfl rfl rfl rfl rfl) rfl (by decide) ?_
        refine oP rfl (by exact pMv (.inr rfl) rfl) rfl (by decide) ?_
        refine oNil ?_
        refine aCondEq rfl (fun c21 => ?_) (fun c21 => ?_)
        · skip
          refine aSeq ?_
          refine aSeq ?_
          refine aReg ?_
          refine oP rfl (by exact pMv (.inl rfl) rfl) rfl (by decide) ?_
          refine oP rfl (by exact pMv (.inl rfl) rfl) rfl (by decide) ?_
          refine oP rfl (by exact pBin rfl rfl rfl rfl rfl) rfl (by decide) ?_
          refine oNil ?_
          refine aCondDec rfl (fun c26 => ?_) (fun c26 => ?_)
          · skip
            refine aReg ?_
            refine oP rfl (by exact pMv (.inl rfl) rfl) rfl (by decide) ?_
            refine oP rfl (by exact pMv (.inl rfl) rfl) rfl (by decide) ?_
            refine oP rfl (by exact pMv (.inl rfl) rfl) rfl (by decide) ?_
            refine oP rfl (by exact pAdd rfl rfl rfl (by omega) (by omega)) rfl (by decide) ?_
            refine oP rfl (by exact pMv (.inl rfl) rfl) rfl (by decide) ?_
            refine oQ rfl ?_
            refine qCall0 rfl rfl (by decide) rfl rfl (ref51_put _ _ _ _ (by first | omega | (have := putW_len (refS kind n col cost (a - 1)) (mkW a (a + 1) cost); omega) | (have := putW_len (refS kind n col cost (a - 1)) (mkW a (((a : Int) - 1).tdiv col * col + ((a : Int) - 1).tmod col + 2) cost); omega))) ?_
            rintro _ _ ⟨rfl, rfl⟩
            refine oP rfl (by exact pMv (.inr rfl) rfl) rfl (by decide) ?_
            refine oNil ?_
            refine aSeq ?_
            refine aReg ?_
            refine oP rfl (by exact pMv (.inl rfl) rfl) rfl (by decide) ?_
            refine oP rfl (by exact pBin rfl rfl rfl rfl rfl) rfl (by decide) ?_
            refine oP rfl (by exact pMv (.inl rfl) rfl) rfl (by decide) ?_
            refine oSplitEq 35 rfl (fun c35 => ?_) (fun c35 => ?_)
            · skip
              refine oGP rfl rfl rfl rfl (by exact pMv (.inl rfl) rfl) rfl (by decide) ?_
              refine oGP rfl rfl rfl rfl (by exact pMv (.inl rfl) rfl) rfl (by decide) ?_
              refine oGP rfl rfl rfl rfl (by exact pBin rfl rfl rfl rfl rfl) rfl (by decide) ?_
              refine oP rfl (by exact pPick rfl rfl rfl) rfl (by decide) ?_
              refine oP rfl (by exact pMv (.inl rfl) rfl) rfl (by decide) ?_
              refine oSplitEq 40 rfl (fun c40 => ?_) (fun c40 => ?_)
              · skip
                refine oGP rfl rfl rfl rfl (by exact pMv (.inl rfl) rfl) rfl (by decide) ?_
                refine oGP rfl rfl rfl rfl (by exact pBin rfl rfl rfl rfl rfl) rfl (by decide) ?_
                refine oP rfl (by exact pPick rfl rfl rfl) rfl (by decide) ?_
                refine oNil ?_
                refine aCondDec rfl (fun c43 => ?_) (fun c43 => ?_)
                · skip
                  refine aReg ?_
                  refine oP rfl (by exact pMv (.inl rfl) rfl) rfl (by decide) ?_
                  refine oP rfl (by exact pMv (.inl rfl) rfl) rfl (by decide) ?_
                  refine oP rfl (by exact pMv (.inl rfl) rfl) rfl (by decide) ?_
                  refine oQ rfl ?_
                  refine qCall0 rfl rfl (by decide) rfl rfl (ref51_put _ _ _ _ (by first | omega | (have := putW_len (refS kind n col cost (a - 1)) (mkW a (a + 1) cost); omega) | (have := putW_len (refS kind n col cost (a - 1)) (mkW a (((a : Int) - 1).tdiv col * col + ((a : Int) - 1).tmod col + 2) cost); omega))) ?_
                  rintro _ _ ⟨rfl, rfl⟩
                  refine oP rfl (by exact pMv (.inr rfl) rfl) rfl (by decide) ?_
                  refine oNil ?_
                  refine aReg ?_
                  refine oP rfl (by exact pMv (.inl rfl) rfl) rfl (by decide) ?_
                  refine oP rfl (by exact pAdd rfl rfl rfl (by omega) (by omega)) rfl (by decide) ?_
                  refine oP rfl (by exact pMv (.inr rfl) rfl) rfl (by decide) ?_
                  refine oNil ?_
                  try (have hbe : a = b := by omega
                       subst hbe)
                  refine ⟨a + 1, ⟨by omega, by omega⟩, ?_, weak_sub ⟨rfl, rfl, rfl, rfl, gAv rfl (congrArg (fun z => AV.sl 5 (List.map wireC z)) ?_), gInt rfl (by simp), trivial⟩ .nil⟩
                  · show n + 1 - (a + 1) < n + 1 - a; omega
                  · rw [Nat.add_sub_cancel, hst, stepS]
                    dsimp only
                    (repeat' split) <;> first | rfl | (exfalso; omega)
                · skip
                  refine aSkip ?_
                  refine aReg ?_
                  refine oP rfl (by exact pMv (.inl rfl) rfl) rfl (by decide) ?_
                  refine oP rfl (by exact pAdd rfl rfl rfl (by omega) (by omega)) rfl (by decide) ?_
                  refine oP rfl (by exact pMv (.inr rfl) rfl) rfl (by decide) ?_
                  refine oNil ?_
                  try (have hbe : a = b := by omega
                       subst hbe)
                  refine ⟨a + 1, ⟨by omega, by omega⟩, ?_, weak_sub ⟨rfl, rfl, rfl, rfl, gAv rfl (congrArg (fun z => AV.sl 5 (List.map wireC z)) ?_), gInt rfl (by simp), trivial⟩ .nil⟩
                  · show n + 1 - (a + 1) < n + 1 - a; omega
                  · rw [Nat.add_sub_cancel, hst, stepS]
                    dsimp only
                    (repeat' split) <;> first | rfl | (exfalso; omega)
              · skip
                refine oGF rfl rfl rfl rfl rfl (by decide) ?_
                refine oGF rfl rfl rfl rfl rfl (by decide) ?_
                refine oP rfl (by exact pPick rfl rfl rfl) rfl (by decide) ?_
                refine oNil ?_
                refine aCondF rfl ?_
                refine aSkip ?_
                refine aReg ?_
                refine oP rfl (by exact pMv (.inl rfl) rfl) rfl (by decide) ?_
                refine oP rfl (by exact pAdd rfl rfl rfl (by omega) (by omega)) rfl (by decide) ?_
                refine oP rfl (by exact pMv (.inr rfl) rfl) rfl (by decide) ?_
                refine oNil ?_
                try (have hbe : a = b := by omega
                     subst hbe)
                refine ⟨a + 1, ⟨by omega, by omega⟩, ?_, weak_sub ⟨rfl, rfl, rfl, rfl, gAv rfl (congrArg (fun z => AV.sl 5 (List.map wireC z)) ?_), gInt rfl (by simp), trivial⟩ .nil⟩
                · show n + 1 - (a + 1) < n + 1 - a; omega
                · rw [Nat.add_sub_cancel, hst, stepS]
                  dsimp only
                  (repeat' split) <;> first | rfl | (exfalso; omega)
            · skip
              refine oGF rfl rfl rfl rfl rfl (by decide) ?_
              refine oGF rfl rfl rfl rfl rfl (by decide) ?_
              refine oGF rfl rfl rfl rfl rfl (by decide) ?_
              refine oP rfl (by exact pPick rfl rfl rfl) rfl (by decide) ?_
              refine oP rfl (by exact pMv (.inl rfl) rfl) rfl (by decide) ?_
              refine oGF rfl rfl rfl rfl rfl (by decide) ?_
              refine oGF rfl rfl rfl rfl rfl (by decide) ?_
              refine oP rfl (by exact pPick rfl rfl rfl) rfl (by decide) ?_
              refine oNil ?_
              refine aCondF rfl ?_
              refine aSkip ?_
              refine aReg ?_
              refine oP rfl (by exact pMv (.inl rfl) rfl) rfl (by decide) ?_
              refine oP rfl (by exact pAdd rfl rfl rfl (by omega) (by omega)) rfl (by decide) ?_
              refine oP rfl (by exact pMv (.inr rfl) rfl) rfl (by decide) ?_
              refine oNil ?_
              try (have hbe : a = b := by omega
                   subst hbe)
              refine ⟨a + 1, ⟨by omega, by omega⟩, ?_, weak_sub ⟨rfl, rfl, rfl, rfl, gAv rfl (congrArg (fun z => AV.sl 5 (List.map wireC z)) ?_), gInt rfl (by simp), trivial⟩ .nil⟩
              · show n + 1 - (a + 1) < n + 1 - a; omega
              · rw [Nat.add_sub_cancel, hst, stepS]
                dsimp only
                (repeat' split) <;> first | rfl | (exfalso; omega)
          · skip
            refine aSkip ?_
            refine aSeq ?_
            refine aReg ?_
            refine oP rfl (by exact pMv (.inl rfl) rfl) rfl (by decide) ?_
            refine oP rfl (by exact pBin rfl rfl rfl rfl rfl) rfl (by decide) ?_
            refine oP rfl (by exact pMv (.inl rfl) rfl) rfl (by decide) ?_
            refine oSplitEq 35 rfl (fun c35 => ?_) (fun c35 => ?_)
            · skip
              refine oGP rfl rfl rfl rfl (by exact pMv (.inl rfl) rfl) rfl (by decide) ?_
              refine oGP rfl rfl rfl rfl (by exact pMv (.inl rfl) rfl) rfl (by decide) ?_
              refine oGP rfl rfl rfl rfl (by exact pBin rfl rfl rfl rfl rfl) rfl (by decide) ?_
              refine oP rfl (by exact pPick rfl rfl rfl) rfl (by decide) ?_
              refine oP rfl (by exact pMv (.inl rfl) rfl) rfl (by decide) ?_
              refine oSplitEq 40 rfl (fun c40 => ?_) (fun c40 => ?_)
              · skip
                refine oGP rfl rfl rfl rfl (by exact pMv (.inl rfl) rfl) rfl (by decide) ?_
                refine oGP rfl rfl rfl rfl (by exact pBin rfl rfl rfl rfl rfl) rfl (by decide) ?_
                refine oP rfl (by exact pPick rfl rfl rfl) rfl (by decide) ?_
                refine oNil ?_
                refine aCondDec rfl (fun c43 => ?_) (fun c43 => ?_)
                · skip
                  refine aReg ?_
                  refine oP rfl (by exact pMv (.inl rfl) rfl) rfl (by decide) ?_
                  refine oP rfl (by exact pMv (.inl rfl) rfl) rfl (by decide) ?_
                  refine oP rfl (by exact pMv (.inl rfl) rfl) rfl (by decide) ?_
                  refine oQ rfl ?_
                  refine qCall0 rfl rfl (by decide) rfl rfl (ref51_put _ _ _ _ (by first | omega | (have := putW_len (refS kind n col cost (a - 1)) (mkW a (a + 1) cost); omega) | (have := putW_len (refS kind n col cost (a - 1)) (mkW a (((a : Int) - 1).tdiv col * col + ((a : Int) - 1).tmod col + 2) cost); omega))) ?_
                  rintro _ _ ⟨rfl, rfl⟩
                  refine oP rfl (by exact pMv (.inr rfl) rfl) rfl (by decide) ?_
                  refine oNil ?_
                  refine aReg ?_
                  refine oP rfl (by exact pMv (.inl rfl) rfl) rfl (by decide) ?_
                  refine oP rfl (by exact pAdd rfl rfl rfl (by omega) (by omega)) rfl (by decide) ?_
                  refine oP rfl (by exact pMv (.inr rfl) rfl) rfl (by decide) ?_
                  refine oNil ?_
                  try (have hbe : a = b := by omega
                       subst hbe)
                  refine ⟨a + 1, ⟨by omega, by omega⟩, ?_, weak_sub ⟨rfl, rfl, rfl, rfl, gAv rfl (congrArg (fun z => AV.sl 5 (List.map wireC z)) ?_), gInt rfl (by simp), trivial⟩ .nil⟩
                  · show n + 1 - (a + 1) < n + 1 - a; omega
                  · rw [Nat.add_sub_cancel, hst, stepS]
                    dsimp only
                    (repeat' split) <;> first | rfl | (exfalso; omega)
                · skip
                  refine aSkip ?_
                  refine aReg ?_
                  refine oP rfl (by exact pMv (.inl rfl) rfl) rfl (by decide) ?_
                  refine oP rfl (by exact pAdd rfl rfl rfl (by omega) (by omega)) rfl (by decide) ?_
                  refine oP rfl (by exact pMv (.inr rfl) rfl) rfl (by decide) ?_
                  refine oNil ?_
                  try (have hbe : a = b := by omega
                       subst hbe)
                  refine ⟨a + 1, ⟨by omega, by omega⟩, ?_, weak_sub ⟨rfl, rfl, rfl, rfl, gAv rfl (congrArg (fun z => AV.sl 5 (List.map wireC z)) ?_), gInt rfl (by simp), trivial⟩ .nil⟩
                  · show n + 1 - (a + 1) < n + 1 - a; omega
                  · rw [Nat.add_sub_cancel, hst, stepS]
                    dsimp only
                    (repeat' split) <;> first | rfl | (exfalso; omega)
              · skip
                refine oGF rfl rfl rfl rfl rfl (by decide) ?_
                refine oGF rfl rfl rfl rfl rfl (by decide) ?_
                refine oP rfl (by exact pPick rfl rfl rfl) rfl (by decide) ?_
                refine oNil ?_
                refine aCondF rfl ?_
                refine aSkip ?_
                refine aReg ?_
                refine oP rfl (by exact pMv (.inl rfl) rfl) rfl (by decide) ?_
                refine oP rfl (by exact pAdd rfl rfl rfl (by omega) (by omega)) rfl (by decide) ?_
                refine oP rfl (by exact pMv (.inr rfl) rfl) rfl (by decide) ?_
                refine oNil ?_
                try (have hbe : a = b := by omega
                     subst hbe)
                refine ⟨a + 1, ⟨by omega, by omega⟩, ?_, weak_sub ⟨rfl, rfl, rfl, rfl, gAv rfl (congrArg (fun z => AV.sl 5 (List.map wireC z)) ?_), gInt rfl (by simp), trivial⟩ .nil⟩
                · show n + 1 - (a + 1) < n + 1 - a; omega
                · rw [Nat.add_sub_cancel, hst, stepS]
                  dsimp only
                  (repeat' split) <;> first | rfl | (exfalso; omega)
            · skip
              refine oGF rfl rfl rfl rfl rfl (by decide) ?_
              refine oGF rfl rfl rfl rfl rfl (by decide) ?_
              refine oGF rfl rfl rfl rfl rfl (by decide) ?_
              refine oP rfl (by exact pPick rfl rfl rfl) rfl (by decide) ?_
              refine oP rfl (by exact pMv (.inl rfl) rfl) rfl (by decide) ?_
              refine oGF rfl rfl rfl rfl rfl (by decide) ?_
              refine oGF rfl rfl rfl rfl rfl (by decide) ?_
              refine oP rfl (by exact pPick rfl rfl rfl) rfl (by decide) ?_
              refine oNil ?_
              refine aCondF rfl ?_
              refine aSkip ?_
              refine aReg ?_
              refine oP rfl (by exact pMv (.inl rfl) rfl) rfl (by decide) ?_
              refine oP rfl (by exact pAdd rfl rfl rfl (by omega) (by omega)) rfl (by decide) ?_
              refine oP rfl (by exact pMv (.inr rfl) rfl) rfl (by decide) ?_
              refine oNil ?_
              try (have hbe : a = b := by omega
                   subst hbe)
              refine ⟨a + 1, ⟨by omega, by omega⟩, ?_, weak_sub ⟨rfl, rfl, rfl, rfl, gAv rfl (congrArg (fun z => AV.sl 5 (List.map wireC z)) ?_), gInt rfl (by simp), trivial⟩ .nil⟩
              · show n + 1 - (a + 1) < n + 1 - a; omega
              · rw [Nat.add_sub_cancel, hst, stepS]
                dsimp only
                (repeat' split) <;> first | rfl | (exfalso; omega)
        · skip
          refine aSeq ?_
          refine aReg ?_
          refine oP rfl (by exact pBin rfl rfl rfl rfl rfl) rfl (by decide) ?_
          refine oP rfl (by exact pMv (.inr rfl) rfl) rfl (by decide) ?_
          refine oNil ?_
          refine aCondEq rfl (fun c48 => ?_) (fun c48 => ?_)
          · skip
            refine aSeq ?_
            refine aReg ?_
            refine oP rfl (by exact pMv (.inl rfl) rfl) rfl (by decide) ?_
            refine oP rfl (by exact pBin rfl rfl rfl rfl rfl) rfl (by decide) ?_
            refine oNil ?_
            refine aCondDec rfl (fun c51 => ?_) (fun c51 => ?_)
            · skip
              refine aReg ?_
              refine oP rfl (by exact pMv (.inl rfl) rfl) rfl (by decide) ?_
              refine oP rfl (by exact pMv (.inl rfl) rfl) rfl (by decide) ?_
              refine oP rfl (by exact pMv (.inl rfl) rfl) rfl (by decide) ?_
              refine oQ rfl ?_
              refine qCall0 rfl rfl (by decide) rfl rfl (ref51_put _ _ _ _ (by first | omega | (have := putW_len (refS kind n col cost (a - 1)) (mkW a (a + 1) cost); omega) | (have := putW_len (refS kind n col cost (a - 1)) (mkW a (((a : Int) - 1).tdiv col * col + ((a : Int) - 1).tmod col + 2) cost); omega))) ?_
              rintro _ _ ⟨rfl, rfl⟩
              refine oP rfl (by exact pMv (.inr rfl) rfl) rfl (by decide) ?_
              refine oNil ?_
              refine aReg ?_
              refine oP rfl (by exact pMv (.inl rfl) rfl) rfl (by decide) ?_
              refine oP rfl (by exact pAdd rfl rfl rfl (by omega) (by omega)) rfl (by decide) ?_
              refine oP rfl (by exact pMv (.inr rfl) rfl) rfl (by decide) ?_
              refine oNil ?_
              try (have hbe : a = b := by omega
                   subst hbe)
              refine ⟨a + 1, ⟨by omega, by omega⟩, ?_, weak_sub ⟨rfl, rfl, rfl, rfl, gAv rfl (congrArg (fun z => AV.sl 5 (List.map wireC z)) ?_), gInt rfl (by simp), trivial⟩ .nil⟩
              · show n + 1 - (a + 1) < n + 1 - a; omega
              · rw [Nat.add_sub_cancel, hst, stepS]
                dsimp only
                (repeat' split) <;> first | rfl | (exfalso; omega)
            · skip
              refine aSkip ?_
              refine aReg ?_
              refine oP rfl (by exact pMv (.inl rfl) rfl) rfl (by decide) ?_
              refine oP rfl (by exact pAdd rfl rfl rfl (by omega) (by omega)) rfl (by decide) ?_
              refine oP rfl (by exact pMv (.inr rfl) rfl) rfl (by decide) ?_
              refine oNil ?_
              try (have hbe : a = b := by omega
                   subst hbe)
              refine ⟨a + 1, ⟨by omega, by omega⟩, ?_, weak_sub ⟨rfl, rfl, rfl, rfl, gAv rfl (congrArg (fun z => AV.sl 5 (List.map wireC z)) ?_), gInt rfl (by simp), trivial⟩ .nil⟩
              · show n + 1 - (a + 1) < n + 1 - a; omega
              · rw [Nat.add_sub_cancel, hst, stepS]
                dsimp only
                (repeat' split) <;> first | rfl | (exfalso; omega)
          · skip
            refine aSeq ?_
            refine aReg ?_
            refine oP rfl (by exact pBin rfl rfl rfl rfl rfl) rfl (by decide) ?_
            refine oP rfl (by exact pMv (.inr rfl) rfl) rfl (by decide) ?_
            refine oNil ?_
            refine aCondEq rfl (fun c56 => ?_) (fun c56 => ?_)
            · skip
              refine aSeq ?_
              refine aReg ?_
              refine oP rfl (by exact pMv (.inr rfl) rfl) rfl (by decide) ?_
              refine oNil ?_
              refine aBlock ?_
              refine aLoopI (α := Nat) (fun b => 1 ≤ b ∧ b ≤ a) (fun b => ([(0, .int kind), (1, .int n), (2, .int col), (3, .int cost), (9, .sl 5 (((List.range' 1 (b - 1)).foldl (fun o (b : Nat) => putW o (mkW b a cost)) (refS kind n col cost (a - 1))).map wireC)), (10, .int a), (11, .int b)], [])) (fun b => a - b) 1 ?_ ?_ ?_
              · skip
                exact ⟨by omega, by omega⟩
              · skip
                exact weak_sub ⟨rfl, rfl, rfl, rfl, rfl, rfl, rfl, trivial⟩ .nil
              · rintro b ⟨hb1, hb2⟩
                skip
                refine aSeq ?_
                refine aSeq ?_
                refine aReg ?_
                refine oP rfl (by exact pMv (.inl rfl) rfl) rfl (by decide) ?_
                refine oP rfl (by exact pMv (.inl rfl) rfl) rfl (by decide) ?_
                refine oP rfl (by exact pBin rfl rfl rfl rfl rfl) rfl (by decide) ?_
                refine oNil ?_
                refine aCondDec rfl (fun c60 => ?_) (fun c60 => ?_)
                · skip
                  refine aSkip ?_
                  refine aSeq ?_
                  refine aBlock ?_
                  refine aReg ?_
                  refine oP rfl (by exact pMv (.inl rfl) rfl) rfl (by decide) ?_
                  refine oP rfl (by exact pMv (.inl rfl) rfl) rfl (by decide) ?_
                  refine oP rfl (by exact pMv (.inl rfl) rfl) rfl (by decide) ?_
                  refine oP rfl (by exact pMv (.inl rfl) rfl) rfl (by decide) ?_
                  refine oQ rfl ?_
                  refine qCall0 rfl rfl (by decide) rfl rfl (ref51_put _ _ _ _ (by have := foldS_len cost a (List.range' 1 (b - 1)) (refS kind n col cost (a - 1)); rw [List.length_range'] at this; omega)) ?_
                  rintro _ _ ⟨rfl, rfl⟩
                  refine oP rfl (by exact pMv (.inr rfl) rfl) rfl (by decide) ?_
                  refine oNil ?_
                  refine aReg ?_
                  refine oP rfl (by exact pMv (.inl rfl) rfl) rfl (by decide) ?_
                  refine oP rfl (by exact pAdd rfl rfl rfl (by omega) (by omega)) rfl (by decide) ?_
                  refine oP rfl (by exact pMv (.inr rfl) rfl) rfl (by decide) ?_
                  refine oNil ?_
                  refine ⟨b + 1, ⟨by omega, by omega⟩, by show a - (b + 1) < a - b; omega, weak_sub ⟨rfl, rfl, rfl, rfl, gAv rfl ?_, rfl, gInt rfl (by simp), trivial⟩ .nil⟩
                  rw [show b + 1 - 1 = (b - 1) + 1 by omega, List.range'_concat, List.foldl_append]
                  simp only [List.foldl_cons, List.foldl_nil, Nat.one_mul]
                  rw [show 1 + (b - 1) = b by omega]
                · skip
                  refine aExit rfl ?_
                  refine aReg ?_
                  refine oP rfl (by exact pMv (.inl rfl) rfl) rfl (by decide) ?_
                  refine oP rfl (by exact pAdd rfl rfl rfl (by omega) (by omega)) rfl (by decide) ?_
                  refine oP rfl (by exact pMv (.inr rfl) rfl) rfl (by decide) ?_
                  refine oNil ?_
                  try (have hbe : a = b := by omega
                       subst hbe)
                  refine ⟨a + 1, ⟨by omega, by omega⟩, ?_, weak_sub ⟨rfl, rfl, rfl, rfl, gAv rfl (congrArg (fun z => AV.sl 5 (List.map wireC z)) ?_), gInt rfl (by simp), trivial⟩ .nil⟩
                  · show n + 1 - (a + 1) < n + 1 - a; omega
                  · rw [Nat.add_sub_cancel, hst, stepS]
                    dsimp only
                    (repeat' split) <;> first | rfl | (exfalso; omega)
            · skip
              refine aSeq ?_
              refine aReg ?_
              refine oP rfl (by exact pBin rfl rfl rfl rfl rfl) rfl (by decide) ?_
              refine oP rfl (by exact pMv (.inr rfl) rfl) rfl (by decide) ?_
              refine oNil ?_
              refine aCondEq rfl (fun c68 => ?_) (fun c68 => ?_)
              · skip
                refine aSeq ?_
                have hcol := hc c68
                obtain ⟨hq0, hq1, hr0, hr1, hdm, hrow, hq2⟩ := gridQ (a := (a : Int) - 1) (col := col) (by omega) hcol.1
                refine aDrawT ref51_Shape_r21_t ref51_Shape_r21_b [] 10 #[false, false, false, false, false, false, false, false, false, false] (by kernel_rfl) rfl rfl (fun HT => ?_)
                refine dPure (i := 0) #[true, false, false, false, false, false, false, false, false, false] rfl rfl rfl (HT.any (by kernel_rfl)) (by exact pMv (.inl rfl) rfl) (by decide) ?_
                refine dPure (i := 1) #[true, true, false, false, false, false, false, false, false, false] rfl rfl rfl (HT.any (by kernel_rfl)) (by exact pSub rfl rfl rfl (by omega) (by omega)) (by decide) ?_
                refine dPure (i := 2) #[true, true, true, false, false, false, false, false, false, false] rfl rfl rfl (HT.any (by kernel_rfl)) (by exact pMv (.inl rfl) rfl) (by decide) ?_
                refine dPure (i := 3) #[true, true, true, true, false, false, false, false, false, false] rfl rfl rfl (HT.any (by kernel_rfl)) (by exact pQuoI rfl rfl rfl (by omega) (by omega) (by omega)) (by decide) ?_
                refine dPure (i := 4) #[true, true, true, true, true, false, false, false, false, false] rfl rfl rfl (HT.any (by kernel_rfl)) (by exact pMv (.inl rfl) rfl) (by decide) ?_
                refine dPure (i := 5) #[true, true, true, true, true, true, false, false, false, false] rfl rfl rfl (HT.any (by kernel_rfl)) (by exact pSub rfl rfl rfl (by omega) (by omega)) (by decide) ?_
                refine dPure (i := 6) #[true, true, true, true, true, true, true, false, false, false] rfl rfl rfl (HT.any (by kernel_rfl)) (by exact pMv (.inl rfl) rfl) (by decide) ?_
                refine dPure (i := 7) #[true, true, true, true, true, true, true, true, false, false] rfl rfl rfl (HT.any (by kernel_rfl)) (by exact pRem rfl rfl rfl (by first | decide | omega)) (by decide) ?_
                refine dPure (i := 8) #[true, true, true, true, true, true, true, true, true, false] rfl rfl rfl (HT.any (by kernel_rfl)) (by exact pMv (.inr rfl) rfl) (by decide) ?_
                refine dPure (i := 9) #[true, true, true, true, true, true, true, true, true, true] rfl rfl rfl (HT.any (by kernel_rfl)) (by exact pMv (.inr rfl) rfl) (by decide) ?_
                refine dEnd (HT.done (by kernel_rfl)) ?_
                clear HT
                refine aSeq ?_
                refine aSeq ?_
                refine aReg ?_
                refine oP rfl (by exact pMv (.inl rfl) rfl) rfl (by decide) ?_
                refine oP rfl (by exact pAdd rfl rfl rfl (by omega) (by omega)) rfl (by decide) ?_
                refine oP rfl (by exact pMv (.inl rfl) rfl) rfl (by decide) ?_
                refine oP rfl (by exact pBin rfl rfl rfl rfl rfl) rfl (by decide) ?_
                refine oP rfl (by exact pMv (.inl rfl) rfl) rfl (by decide) ?_
                refine oSplitDec 82 rfl (fun c82 => ?_) (fun c82 => ?_)
                · skip
                  refine oGP rfl rfl rfl rfl (by exact pMv (.inl rfl) rfl) rfl (by decide) ?_
                  refine oGP rfl rfl rfl rfl (by exact pMv (.inl rfl) rfl) rfl (by decide) ?_
                  refine oGP rfl rfl rfl rfl (by exact pMul rfl rfl rfl (by omega) (by omega)) rfl (by decide) ?_
                  refine oGP rfl rfl rfl rfl (by exact pMv (.inl rfl) rfl) rfl (by decide) ?_
                  refine oGP rfl rfl rfl rfl (by exact pAdd rfl rfl rfl (by omega) (by omega)) rfl (by decide) ?_
                  refine oGP rfl rfl rfl rfl (by exact pAdd rfl rfl rfl (by omega) (by omega)) rfl (by decide) ?_
                  refine oGP rfl rfl rfl rfl (by exact pMv (.inl rfl) rfl) rfl (by decide) ?_
                  refine oGP rfl rfl rfl rfl (by exact pBin rfl rfl rfl rfl rfl) rfl (by decide) ?_
                  refine oP rfl (by exact pPick rfl rfl rfl) rfl (by decide) ?_
                  refine oNil ?_
                  refine aCondDec rfl (fun c91 => ?_) (fun c91 => ?_)
                  · skip
                    refine aReg ?_
                    refine oP rfl (by exact pMv (.inl rfl) rfl) rfl (by decide) ?_
                    refine oP rfl (by exact pMv (.inl rfl) rfl) rfl (by decide) ?_
                    refine oP rfl (by exact pMv (.inl rfl) rfl) rfl (by decide) ?_
                    refine oP rfl (by exact pMv (.inl rfl) rfl) rfl (by decide) ?_
                    refine oP rfl (by exact pMul rfl rfl rfl (by omega) (by omega)) rfl (by decide) ?_
                    refine oP rfl (by exact pMv (.inl rfl) rfl) rfl (by decide) ?_
                    refine oP rfl (by exact pAdd rfl rfl rfl (by omega) (by omega)) rfl (by decide) ?_
                    refine oP rfl (by exact pAdd rfl rfl rfl (by omega) (by omega)) rfl (by decide) ?_
                    refine oP rfl (by exact pMv (.inl rfl) rfl) rfl (by decide) ?_
                    refine oQ rfl ?_
                    refine qCall0 rfl rfl (by decide) rfl rfl (ref51_put _ _ _ _ (by first | omega | (have := putW_len (refS kind n col cost (a - 1)) (mkW a (a + 1) cost); omega) | (have := putW_len (refS kind n col cost (a - 1)) (mkW a (((a : Int) - 1).tdiv col * col + ((a : Int) - 1).tmod col + 2) cost); omega))) ?_
                    rintro _ _ ⟨rfl, rfl⟩
                    refine oP rfl (by exact pMv (.inr rfl) rfl) rfl (by decide) ?_
                    refine oNil ?_
                    refine aSeq ?_
                    refine aReg ?_
                    refine oP rfl (by exact pMv (.inl rfl) rfl) rfl (by decide) ?_
                    refine oP rfl (by exact pAdd rfl rfl rfl (by omega) (by omega)) rfl (by decide) ?_
                    refine oP rfl (by exact pMv (.inl rfl) rfl) rfl (by decide) ?_
                    refine oP rfl (by exact pMul rfl rfl rfl (by omega) (by omega)) rfl (by decide) ?_
                    refine oP rfl (by exact pMv (.inl rfl) rfl) rfl (by decide) ?_
                    refine oP rfl (by exact pAdd rfl rfl rfl (by omega) (by omega)) rfl (by decide) ?_
                    refine oP rfl (by exact pAdd rfl rfl rfl (by omega) (by omega)) rfl (by decide) ?_
                    refine oP rfl (by exact pMv (.inl rfl) rfl) rfl (by decide) ?_
                    refine oP rfl (by exact pBin rfl rfl rfl rfl rfl) rfl (by decide) ?_
                    refine oNil ?_
                    refine aCondDec rfl (fun c110 => ?_) (fun c110 => ?_)
                    · skip
                      refine aReg ?_
                      refine oP rfl (by exact pMv (.inl rfl) rfl) rfl (by decide) ?_
                      refine oP rfl (by exact pMv (.inl rfl) rfl) rfl (by decide) ?_
                      refine oP rfl (by exact pMv (.inl rfl) rfl) rfl (by decide) ?_
                      refine oP rfl (by exact pAdd rfl rfl rfl (by omega) (by omega)) rfl (by decide) ?_
                      refine oP rfl (by exact pMv (.inl rfl) rfl) rfl (by decide) ?_
                      refine oP rfl (by exact pMul rfl rfl rfl (by omega) (by omega)) rfl (by decide) ?_
                      refine oP rfl (by exact pMv (.inl rfl) rfl) rfl (by decide) ?_
                      refine oP rfl (by exact pAdd rfl rfl rfl (by omega) (by omega)) rfl (by decide) ?_
                      refine oP rfl (by exact pAdd rfl rfl rfl (by omega) (by omega)) rfl (by decide) ?_
                      refine oP rfl (by exact pMv (.inl rfl) rfl) rfl (by decide) ?_
                      refine oQ rfl ?_
                      refine qCall0 rfl rfl (by decide) rfl rfl (ref51_put _ _ _ _ (by first | omega | (have := putW_len (refS kind n col cost (a - 1)) (mkW a (a + 1) cost); omega) | (have := putW_len (refS kind n col cost (a - 1)) (mkW a (((a : Int) - 1).tdiv col * col + ((a : Int) - 1).tmod col + 2) cost); omega))) ?_
                      rintro _ _ ⟨rfl, rfl⟩
                      refine oP rfl (by exact pMv (.inr rfl) rfl) rfl (by decide) ?_
                      refine oNil ?_
                      refine aReg ?_
                      refine oP rfl (by exact pMv (.inl rfl) rfl) rfl (by decide) ?_
                      refine oP rfl (by exact pAdd rfl rfl rfl (by omega) (by omega)) rfl (by decide) ?_
                      refine oP rfl (by exact pMv (.inr rfl) rfl) rfl (by decide) ?_
                      refine oNil ?_
                      try (have hbe : a = b := by omega
                           subst hbe)
                      refine ⟨a + 1, ⟨by omega, by omega⟩, ?_, weak_sub ⟨rfl, rfl, rfl, rfl, gAv rfl (congrArg (fun z => AV.sl 5 (List.map wireC z)) ?_), gInt rfl (by simp), trivial⟩ .nil⟩
                      · show n + 1 - (a + 1) < n + 1 - a; omega
                      · rw [Nat.add_sub_cancel, hst, stepS]
                        dsimp only
                        (repeat' split) <;> first | rfl | (exfalso; omega)
                    · skip
                      refine aSkip ?_
                      refine aReg ?_
                      refine oP rfl (by exact pMv (.inl rfl) rfl) rfl (by decide) ?_
                      refine oP rfl (by exact pAdd rfl rfl rfl (by omega) (by omega)) rfl (by decide) ?_
                      refine oP rfl (by exact pMv (.inr rfl) rfl) rfl (by decide) ?_
                      refine oNil ?_
                      try (have hbe : a = b := by omega
                           subst hbe)
                      refine ⟨a + 1, ⟨by omega, by omega⟩, ?_, weak_sub ⟨rfl, rfl, rfl, rfl, gAv rfl (congrArg (fun z => AV.sl 5 (List.map wireC z)) ?_), gInt rfl (by simp), trivial⟩ .nil⟩
                      · show n + 1 - (a + 1) < n + 1 - a; omega
                      · rw [Nat.add_sub_cancel, hst, stepS]
                        dsimp only
                        (repeat' split) <;> first | rfl | (exfalso; omega)
                  · skip
                    refine aSkip ?_
                    refine aSeq ?_
                    refine aReg ?_
                    refine oP rfl (by exact pMv (.inl rfl) rfl) rfl (by decide) ?_
                    refine oP rfl (by exact pAdd rfl rfl rfl (by omega) (by omega)) rfl (by decide) ?_
                    refine oP rfl (by exact pMv (.inl rfl) rfl) rfl (by decide) ?_
                    refine oP rfl (by exact pMul rfl rfl rfl (by omega) (by omega)) rfl (by decide) ?_
                    refine oP rfl (by exact pMv (.inl rfl) rfl) rfl (by decide) ?_
                    refine oP rfl (by exact pAdd rfl rfl rfl (by omega) (by omega)) rfl (by decide) ?_
                    refine oP rfl (by exact pAdd rfl rfl rfl (by omega) (by omega)) rfl (by decide) ?_
                    refine oP rfl (by exact pMv (.inl rfl) rfl) rfl (by decide) ?_
                    refine oP rfl (by exact pBin rfl rfl rfl rfl rfl) rfl (by decide) ?_
                    refine oNil ?_
                    refine aCondDec rfl (fun c110 => ?_) (fun c110 => ?_)
                    · skip
                      refine aReg ?_
                      refine oP rfl (by exact pMv (.inl rfl) rfl) rfl (by decide) ?_
                      refine oP rfl (by exact pMv (.inl rfl) rfl) rfl (by decide) ?_
                      refine oP rfl (by exact pMv (.inl rfl) rfl) rfl (by decide) ?_
                      refine oP rfl (by exact pAdd rfl rfl rfl (by omega) (by omega)) rfl (by decide) ?_
                      refine oP rfl (by exact pMv (.inl rfl) rfl) rfl (by decide) ?_
                      refine oP rfl (by exact pMul rfl rfl rfl (by omega) (by omega)) rfl (by decide) ?_
                      refine oP rfl (by exact pMv (.inl rfl) rfl) rfl (by decide) ?_
                      refine oP rfl (by exact pAdd rfl rfl rfl (by omega) (by omega)) rfl (by decide) ?_
                      refine oP rfl (by exact pAdd rfl rfl rfl (by omega) (by omega)) rfl (by decide) ?_
                      refine oP rfl (by exact pMv (.inl rfl) rfl) rfl (by decide) ?_
                      refine oQ rfl ?_
                      refine qCall0 rfl rfl (by decide) rfl rfl (ref51_put _ _ _ _ (by first | omega | (have := putW_len (refS kind n col cost (a - 1)) (mkW a (a + 1) cost); omega) | (have := putW_len (refS kind n col cost (a - 1)) (mkW a (((a : Int) - 1).tdiv col * col + ((a : Int) - 1).tmod col + 2) cost); omega))) ?_
                      rintro _ _ ⟨rfl, rfl⟩
                      refine oP rfl (by exact pMv (.inr rfl) rfl) rfl (by decide) ?_
                      refine oNil ?_
                      refine aReg ?_
                      refine oP rfl (by exact pMv (.inl rfl) rfl) rfl (by decide) ?_
                      refine oP rfl (by exact pAdd rfl rfl rfl (by omega) (by omega)) rfl (by decide) ?_
                      refine oP rfl (by exact pMv (.inr rfl) rfl) rfl (by decide) ?_
                      refine oNil ?_
                      try (have hbe : a = b := by omega
                           subst hbe)
                      refine ⟨a + 1, ⟨by omega, by omega⟩, ?_, weak_sub ⟨rfl, rfl, rfl, rfl, gAv rfl (congrArg (fun z => AV.sl 5 (List.map wireC z)) ?_), gInt rfl (by simp), trivial⟩ .nil⟩
                      · show n + 1 - (a + 1) < n + 1 - a; omega
                      · rw [Nat.add_sub_cancel, hst, stepS]
                        dsimp only
                        (repeat' split) <;> first | rfl | (exfalso; omega)
                    · skip
                      refine aSkip ?_
                      refine aReg ?_
                      refine oP rfl (by exact pMv (.inl rfl) rfl) rfl (by decide) ?_
                      refine oP rfl (by exact pAdd rfl rfl rfl (by omega) (by omega)) rfl (by decide) ?_
                      refine oP rfl (by exact pMv (.inr rfl) rfl) rfl (by decide) ?_
                      refine oNil ?_
                      try (have hbe : a = b := by omega
                           subst hbe)
                      refine ⟨a + 1, ⟨by omega, by omega⟩, ?_, weak_sub ⟨rfl, rfl, rfl, rfl, gAv rfl (congrArg (fun z => AV.sl 5 (List.map wireC z)) ?_), gInt rfl (by simp), trivial⟩ .nil⟩
                      · show n + 1 - (a + 1) < n + 1 - a; omega
                      · rw [Nat.add_sub_cancel, hst, stepS]
                        dsimp only
                        (repeat' split) <;> first | rfl | (exfalso; omega)
                · skip
                  refine oGF rfl rfl rfl rfl rfl (by decide) ?_
                  refine oGF rfl rfl rfl rfl rfl (by decide) ?_
                  refine oGF rfl rfl rfl rfl rfl (by decide) ?_
                  refine oGF rfl rfl rfl rfl rfl (by decide) ?_
                  refine oGF rfl rfl rfl rfl rfl (by decide) ?_
                  refine oGF rfl rfl rfl rfl rfl (by decide) ?_
                  refine oGF rfl rfl rfl rfl rfl (by decide) ?_
                  refine oGF rfl rfl rfl rfl rfl (by decide) ?_
                  refine oP rfl (by exact pPick rfl rfl rfl) rfl (by decide) ?_
                  refine oNil ?_
                  refine aCondF rfl ?_
                  refine aSkip ?_
                  refine aSeq ?_
                  refine aReg ?_
                  refine oP rfl (by exact pMv (.inl rfl) rfl) rfl (by decide) ?_
                  refine oP rfl (by exact pAdd rfl rfl rfl (by omega) (by omega)) rfl (by decide) ?_
                  refine oP rfl (by exact pMv (.inl rfl) rfl) rfl (by decide) ?_
                  refine oP rfl (by exact pMul rfl rfl rfl (by omega) (by omega)) rfl (by decide) ?_
                  refine oP rfl (by exact pMv (.inl rfl) rfl) rfl (by decide) ?_
                  refine oP rfl (by exact pAdd rfl rfl rfl (by omega) (by omega)) rfl (by decide) ?_
                  refine oP rfl (by exact pAdd rfl rfl rfl (by omega) (by omega)) rfl (by decide) ?_
                  refine oP rfl (by exact pMv (.inl rfl) rfl) rfl (by decide) ?_
                  refine oP rfl (by exact pBin rfl rfl rfl rfl rfl) rfl (by decide) ?_
                  refine oNil ?_
                  refine aCondDec rfl (fun c110 => ?_) (fun c110 => ?_)
                  · skip
                    refine aReg ?_
                    refine oP rfl (by exact pMv (.inl rfl) rfl) rfl (by decide) ?_
                    refine oP rfl (by exact pMv (.inl rfl) rfl) rfl (by decide) ?_
                    refine oP rfl (by exact pMv (.inl rfl) rfl) rfl (by decide) ?_
                    refine oP rfl (by exact pAdd rfl rfl rfl (by omega) (by omega)) rfl (by decide) ?_
                    refine oP rfl (by exact pMv (.inl rfl) rfl) rfl (by decide) ?_
                    refine oP rfl (by exact pMul rfl rfl rfl (by omega) (by omega)) rfl (by decide) ?_
                    refine oP rfl (by exact pMv (.inl rfl) rfl) rfl (by decide) ?_
                    refine oP rfl (by exact pAdd rfl rfl rfl (by omega) (by omega)) rfl (by decide) ?_
                    refine oP rfl (by exact pAdd rfl rfl rfl (by omega) (by omega)) rfl (by decide) ?_
                    refine oP rfl (by exact pMv (.inl rfl) rfl) rfl (by decide) ?_
                    refine oQ rfl ?_
                    refine qCall0 rfl rfl (by decide) rfl rfl (ref51_put _ _ _ _ (by first | omega | (have := putW_len (refS kind n col cost (a - 1)) (mkW a (a + 1) cost); omega) | (have := putW_len (refS kind n col cost (a - 1)) (mkW a (((a : Int) - 1).tdiv col * col + ((a : Int) - 1).tmod col + 2) cost); omega))) ?_
                    rintro _ _ ⟨rfl, rfl⟩
                    refine oP rfl (by exact pMv (.inr rfl) rfl) rfl (by decide) ?_
                    refine oNil ?_
                    refine aReg ?_
                    refine oP rfl (by exact pMv (.inl rfl) rfl) rfl (by decide) ?_
                    refine oP rfl (by exact pAdd rfl rfl rfl (by omega) (by omega)) rfl (by decide) ?_
                    refine oP rfl (by exact pMv (.inr rfl) rfl) rfl (by decide) ?_
                    refine oNil ?_
                    try (have hbe : a = b := by omega
                         subst hbe)
                    refine ⟨a + 1, ⟨by omega, by omega⟩, ?_, weak_sub ⟨rfl, rfl, rfl, rfl, gAv rfl (congrArg (fun z => AV.sl 5 (List.map wireC z)) ?_), gInt rfl (by simp), trivial⟩ .nil⟩
                    · show n + 1 - (a + 1) < n + 1 - a; omega
                    · rw [Nat.add_sub_cancel, hst, stepS]
                      dsimp only
                      (repeat' split) <;> first | rfl | (exfalso; omega)
                  · skip
                    refine aSkip ?_
                    refine aReg ?_
                    refine oP rfl (by exact pMv (.inl rfl) rfl) rfl (by decide) ?_
                    refine oP rfl (by exact pAdd rfl rfl rfl (by omega) (by omega)) rfl (by decide) ?_
                    refine oP rfl (by exact pMv (.inr rfl) rfl) rfl (by decide) ?_
                    refine oNil ?_
                    try (have hbe : a = b := by omega
                         subst hbe)
                    refine ⟨a + 1, ⟨by omega, by omega⟩, ?_, weak_sub ⟨rfl, rfl, rfl, rfl, gAv rfl (congrArg (fun z => AV.sl 5 (List.map wireC z)) ?_), gInt rfl (by simp), trivial⟩ .nil⟩
                    · show n + 1 - (a + 1) < n + 1 - a; omega
                    · rw [Nat.add_sub_cancel, hst, stepS]
                      dsimp only
                      (repeat' split) <;> first | rfl | (exfalso; omega)
              · skip
                refine aSkip ?_
                refine aReg ?_
                refine oP rfl (by exact pMv (.inl rfl) rfl) rfl (by decide) ?_
                refine oP rfl (by exact pAdd rfl rfl rfl (by omega) (by omega)) rfl (by decide) ?_
                refine oP rfl (by exact pMv (.inr rfl) rfl) rfl (by decide) ?_
                refine oNil ?_
                try (have hbe : a = b := by omega
                     subst hbe)
                refine ⟨a + 1, ⟨by omega, by omega⟩, ?_, weak_sub ⟨rfl, rfl, rfl, rfl, gAv rfl (congrArg (fun z => AV.sl 5 (List.map wireC z)) ?_), gInt rfl (by simp), trivial⟩ .nil⟩
                · show n + 1 - (a + 1) < n + 1 - a; omega
                · rw [Nat.add_sub_cancel, hst, stepS]
                  dsimp only
                  (repeat' split) <;> first | rfl | (exfalso; omega)
    · skip
      refine aExit rfl ?_
      refine aSeq ?_
      refine aReg ?_
      refine oP rfl (by exact pMv (.inl rfl) rfl) rfl (by decide) ?_
      refine oP rfl (by exact pMv (.inr rfl) rfl) rfl (by decide) ?_
      refine oNil ?_
      refine aRet ?_
      have hae : a = n + 1 := by omega
      subst hae
      exact ⟨_, [], _, rfl, .nil, rfl, rfl⟩

end A
end Go.Proofs.Ytmkphhjlmhhokaa
