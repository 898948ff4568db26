/- What functions of the program compute: gen51 -/
import Derived.Test.YtmkphhjlmhhokaaBlsa
import Derived.Test.YtmkphhjlmhhokaaProg
import Derived.KernelRfl
set_option linter.unusedVariables false
set_option linter.unusedSimpArgs false
namespace Go.Proofs.Ytmkphhjlmhhokaa
namespace A

structure Wire where
  a : Int
  b : Int
  up : Bool
  ca : Int
  cb : Int
  deriving DecidableEq
def wireC (w : Wire) : List AV := [.int w.a, .int w.b, .v (.bool w.up), .int w.ca, .int w.cb]
theorem wireC_len (l : List Wire) : ∀ y ∈ l.map wireC, y.length = 5 := by
  intro y hy
  obtain ⟨a, _, rfl⟩ := List.mem_map.1 hy
  rfl
/-- All pairs up to n, the lesser one first; those ahead of (a, b). -/
def rowP (n a : Nat) : List (Nat × Nat) := (List.range' (a + 1) (n - a)).map fun j => (a, j)
def pairsL (n : Nat) : List (Nat × Nat) := (List.range' 1 n).flatMap (rowP n)
def pairsPre (n a b : Nat) : List (Nat × Nat) := (List.range' 1 (a - 1)).flatMap (rowP n) ++ (List.range' (a + 1) (b - (a + 1))).map fun j => (a, j)
def pairAV (q : Nat × Nat) : List AV := [.int q.1, .int q.2]
theorem pairsPre_first (n : Nat) : pairsPre n 1 2 = [] := by simp [pairsPre]
theorem pairsPre_step {n a b : Nat} (h : a < b) : pairsPre n a (b + 1) = pairsPre n a b ++ [(a, b)] := by
  have : b + 1 - (a + 1) = (b - (a + 1)) + 1 := by omega
  rw [pairsPre, this, List.range'_concat, List.map_append, ← List.append_assoc, pairsPre]
  simp only [List.map_cons, List.map_nil, Nat.one_mul]
  rw [show a + 1 + (b - (a + 1)) = b by omega]
theorem pairsPre_row {n a : Nat} (h : 1 ≤ a) (h2 : a ≤ n) : pairsPre n a (n + 1) = pairsPre n (a + 1) (a + 2) := by
  have e1 : n + 1 - (a + 1) = n - a := by omega
  have e2 : a + 2 - (a + 1 + 1) = 0 := by omega
  have e3 : a + 1 - 1 = (a - 1) + 1 := by omega
  rw [pairsPre, pairsPre, e1, e2, e3, List.range'_concat, List.flatMap_append]
  simp only [List.range'_zero, List.map_nil, List.append_nil, List.flatMap_cons, List.flatMap_nil, Nat.one_mul]
  rw [show 1 + (a - 1) = a by omega]
  rfl
theorem pairsPre_all (n : Nat) : pairsPre n (n + 1) (n + 2) = pairsL n := by simp [pairsPre, pairsL]
theorem pairAV_inj {xs ys : List (Nat × Nat)} (h : xs.map pairAV = ys.map pairAV) : xs = ys := by
  have : Function.Injective pairAV := fun x y h => by
    simp only [pairAV, List.cons.injEq, AV.v.injEq, Value.int.injEq, true_and, and_true] at h
    exact Prod.ext (by omega) (by omega)
  exact (List.map_inj_right this).1 h
def PairNx (n : Nat) (pre : List (List AV)) (x : List AV) : Prop := ∃ a b : Nat, 1 ≤ a ∧ a < b ∧ b ≤ n ∧ pre = (pairsPre n a b).map pairAV ∧ x = pairAV (a, b)
def PairE (n : Nat) (xs : List (List AV)) : Prop := xs = (pairsL n).map pairAV

/- gen.pairs$1 -/
set_option maxRecDepth 100000 in
set_option maxHeartbeats 400000 in
theorem gen_pairs1 (n : Nat) (hn : n ≤ 64) (l : Nat) (I : List (List AV) → List HA → Prop) (S : List HA → Prop) (hy : ∀ pre x hc, PairNx n pre x → I pre hc → YTriple Try.prog l x hc (fun r h' => ∃ v : Bool, r = .v (.bool v) ∧ (v = true → I (pre ++ [x]) h') ∧ (v = false → S h'))) (hc0 : List HA) (h0 : I [] hc0) : Triple Try.prog 68 [.fn (.yield l) [], .sp [.int n]] hc0 (fun r h' => I ((pairsL n).map pairAV) h' ∨ S h') := by
  refine triple_of Try.func68 rfl (by kernel_rfl) rfl (by simp) ?_
  refine aSeq ?_
  refine aReg ?_
  refine oP rfl (by exact pMv (.inr rfl) rfl) rfl (by decide) ?_
  refine oNil ?_
  refine aBlock ?_
  refine aLoopI (α := Nat × List HA) (fun (a, hc) => 1 ≤ a ∧ a ≤ n + 1 ∧ I ((pairsPre n a (a + 1)).map pairAV) hc) (fun (a, hc) => ([(0, .fn (.yield l) []), (1, .sp [.int n]), (3, .int a)], hc)) (fun (a, hc) => n + 1 - a) (1, hc0) ?_ ?_ ?_
  · skip
    exact ⟨by omega, by omega, by rw [pairsPre_first]; exact h0⟩
  · skip
    exact weak_env ⟨rfl, rfl, rfl, trivial⟩
  · rintro ⟨a, hc⟩ ⟨ha1, ha2, hi⟩
    skip
    refine aSeq ?_
    refine aSeq ?_
    refine aReg ?_
    refine oP rfl (by exact pMv (.inl rfl) rfl) rfl (by decide) ?_
    refine oR rfl (by first | exact rLdS1 rfl rfl ty_3 rfl | exact rLdB1 rfl rfl (by repeat constructor) ty_3 rfl) rfl (by decide) ?_
    refine oP rfl (by exact pBin rfl rfl rfl rfl rfl) rfl (by decide) ?_
    refine oNil ?_
    refine aCondDec rfl (fun c7 => ?_) (fun c7 => ?_)
    · skip
      refine aSkip ?_
      refine aSeq ?_
      refine aBlock ?_
      refine aSeq ?_
      refine aReg ?_
      refine oP rfl (by exact pMv (.inl rfl) rfl) rfl (by decide) ?_
      refine oP rfl (by exact pAdd rfl rfl rfl (by omega) (by omega)) rfl (by decide) ?_
      refine oP rfl (by exact pMv (.inr rfl) rfl) rfl (by decide) ?_
      refine oNil ?_
      refine aBlock ?_
      refine aLoopI (α := Nat × List HA) (fun (b, hc') => a < b ∧ b ≤ n + 1 ∧ I ((pairsPre n a b).map pairAV) hc') (fun (b, hc') => ([(0, .fn (.yield l) []), (1, .sp [.int n]), (3, .int a), (4, .int b)], hc')) (fun (b, hc') => n + 1 - b) (a + 1, hc) ?_ ?_ ?_
      · skip
        exact ⟨by omega, by omega, hi⟩
      · skip
        exact weak_env ⟨rfl, rfl, rfl, gInt rfl (by simp), trivial⟩
      · rintro ⟨b, hc'⟩ ⟨hab, hb2, hj⟩
        skip
        refine aSeq ?_
        refine aSeq ?_
        refine aReg ?_
        refine oP rfl (by exact pMv (.inl rfl) rfl) rfl (by decide) ?_
        refine oR rfl (by first | exact rLdS1 rfl rfl ty_3 rfl | exact rLdB1 rfl rfl (by repeat constructor) ty_3 rfl) rfl (by decide) ?_
        refine oP rfl (by exact pBin rfl rfl rfl rfl rfl) rfl (by decide) ?_
        refine oNil ?_
        refine aCondDec rfl (fun c14 => ?_) (fun c14 => ?_)
        · skip
          refine aSkip ?_
          refine aSeq ?_
          refine aBlock ?_
          refine aSeq ?_
          refine aReg ?_
          refine oP rfl (by exact pMv (.inl rfl) rfl) rfl (by decide) ?_
          refine oP rfl (by exact pMv (.inl rfl) rfl) rfl (by decide) ?_
          refine oP rfl (by exact pMv (.inl rfl) rfl) rfl (by decide) ?_
          refine oYield (hfr := []) rfl rfl rfl (by decide) rfl rfl (hy _ (pairAV (a, b)) hc' ⟨a, b, by omega, hab, by omega, rfl, rfl⟩ hj) ?_
          rintro _ h2 ⟨v, rfl, hq1, hq2⟩
          refine oP rfl (by exact pNot rfl rfl) rfl (by decide) ?_
          refine oNil ?_
          refine aCondNot rfl (fun c21 => ?_) (fun c21 => ?_)
          · skip
            refine aRet ?_
            exact ⟨_, h2, [], rfl, tk_refl, .inr (hq2 (by simpa using c21))⟩
          · skip
            refine aSkip ?_
            refine aReg ?_
            refine oP rfl (by exact pMv (.inl rfl) rfl) rfl (by decide) ?_
            refine oP rfl (by exact pAdd rfl rfl rfl (by omega) (by omega)) rfl (by decide) ?_
            refine oP rfl (by exact pMv (.inr rfl) rfl) rfl (by decide) ?_
            refine oNil ?_
            have hq := hq1 (by simpa using c21)
            rw [← List.map_singleton, ← List.map_append, ← pairsPre_step hab] at hq
            exact ⟨(b + 1, h2), ⟨by omega, by omega, hq⟩, by show n + 1 - (b + 1) < n + 1 - b; omega, weak_env ⟨rfl, rfl, rfl, gInt rfl (by simp), trivial⟩⟩
        · skip
          refine aExit rfl ?_
          refine aReg ?_
          refine oP rfl (by exact pMv (.inl rfl) rfl) rfl (by decide) ?_
          refine oP rfl (by exact pAdd rfl rfl rfl (by omega) (by omega)) rfl (by decide) ?_
          refine oP rfl (by exact pMv (.inr rfl) rfl) rfl (by decide) ?_
          refine oNil ?_
          have hbe : b = n + 1 := by omega
          subst hbe
          rw [pairsPre_row (by omega) (by omega)] at hj
          exact ⟨(a + 1, hc'), ⟨by omega, by omega, hj⟩, by show n + 1 - (a + 1) < n + 1 - a; omega, weak_env ⟨rfl, rfl, gInt rfl (by simp), trivial⟩⟩
    · skip
      refine aExit rfl ?_
      have hae : a = n + 1 := by omega
      subst hae
      rw [pairsPre_all] at hi
      exact ⟨_, hc, [], rfl, tk_refl, .inl hi⟩

theorem gen_pairs1_iter (n : Nat) (hn : n ≤ 64) : IterT Try.prog 68 [.sp [.int n]] (PairNx n) (PairE n) [] :=
  ⟨⟨_, Try.func68, by kernel_rfl, rfl⟩, fun l I S hy hc h0 => (gen_pairs1 n hn l I S (fun pre x hc hn hi => (hy pre x hc hn hi).bool) hc h0).mono fun r h' hq => ⟨h', rfl, hq.imp (fun hi => ⟨_, rfl, hi⟩) id⟩⟩

/- gen.pairs -/
set_option maxRecDepth 100000 in
set_option maxHeartbeats 400000 in
theorem gen_pairs (n : Nat) : Triple Try.prog 61 [.int n] [] (fun r h' => r = .fn (.func 68) [.sp [.int n]] ∧ h' = []) := by
  refine triple_of Try.func61 rfl (by kernel_rfl) rfl (by simp) ?_
  refine aSeq ?_
  refine aReg ?_
  refine oQ rfl ?_
  refine qBox rfl rfl (by decide) rfl rfl (fun b1 => ?_)
  refine oP rfl (by exact pMv (.inr rfl) rfl) rfl (by decide) ?_
  refine oNil ?_
  refine aSeq ?_
  refine aReg ?_
  refine oP rfl (by exact pFn rfl rfl) rfl (by decide) ?_
  refine oP rfl (by exact pMv (.inr rfl) rfl) rfl (by decide) ?_
  refine oNil ?_
  refine aWeak (weak_deep (k := 2) (b := .fn (.func 68) [.sp [.int n]]) rfl (.cons .hd .nil) (by repeat constructor)) ?_
  refine aRet ?_
  exact ⟨_, [], [], rfl, .nil, rfl, rfl⟩

def pRow (a b : Int) : Bool := b == a + 1
def pRing (n a b : Int) : Bool := (b == a + 1) || ((decide (3 ≤ n) && (a == 1)) && (b == n))
def pStar (a _ : Int) : Bool := a == 1
def pFull (_ _ : Int) : Bool := true
def pGrid (c a b : Int) : Bool := (b == a + c) || ((b == a + 1) && (a.tmod c != 0))
def wireOf (cost : Int) (q : Nat × Nat) : Wire := ⟨q.1, q.2, true, cost, cost⟩
def goodN (n cost : Int) : Bool := decide (1 ≤ n) && decide (n ≤ 64) && decide (1 ≤ cost) && decide (cost ≤ 1073741824)
def thoseL (n cost : Int) (p : Int → Int → Bool) : List Wire := if goodN n cost then ((pairsL n.toNat).filter fun q => p q.1 q.2).map (wireOf cost) else []
/-- What a function that is meant answers. -/
def Meant (P : Program) (n : Int) (gf : FuncId) (caps : List AV) (p : Int → Int → Bool) : Prop := ∀ a b : Nat, 1 ≤ a → a < b → (b : Int) ≤ n → n ≤ 64 → Triple P gf ([.int a, .int b] ++ caps) [] (fun r h' => r = .v (.bool (p a b)) ∧ h' = [])
theorem pairsPre_len {n a b : Nat} (ha : a ≤ n) (hb : b ≤ n + 1) : (pairsPre n a b).length ≤ 64 * 64 + 64 ∨ 64 < n := by
  by_cases hn : 64 < n
  · exact .inr hn
  · left
    have h1 : ∀ m, ((List.range' 1 m).flatMap (rowP n)).length ≤ m * 64 := by
      intro m
      induction m with
      | zero => simp
      | succ m ih =>
        rw [List.range'_concat, List.flatMap_append, List.length_append]
        have : ((rowP n (1 + 1 * m))).length ≤ 64 := by simp [rowP]; omega
        simp only [List.flatMap_cons, List.flatMap_nil, List.append_nil]
        omega
    have := h1 (a - 1)
    simp only [pairsPre, List.length_append, List.length_map, List.length_range']
    have : (a - 1) * 64 ≤ 64 * 64 := Nat.mul_le_mul_right _ (by omega)
    omega

/- gen.those -/
set_option maxRecDepth 100000 in
set_option maxHeartbeats 1000000 in
theorem gen_those (n cost : Int) (gf : FuncId) (caps : List AV) (p : Int → Int → Bool) (hp : Meant Try.prog n gf caps p) : Triple Try.prog 44 [.int n, .int cost, .fn (.func gf) caps] [] (fun r h' => ∃ g c, r = .v (slV g (thoseL n cost p).length c) ∧ h' = [.sl g c 46 5 ((thoseL n cost p).map wireC)]) := by
  refine triple_of Try.func44 rfl (by kernel_rfl) rfl (by simp) ?_
  refine aSeq ?_
  refine aReg ?_
  refine oQ rfl ?_
  refine qBox rfl rfl (by decide) rfl rfl (fun b4 => ?_)
  refine oQ rfl ?_
  refine qBox rfl rfl (by decide) rfl rfl (fun b5 => ?_)
  refine oP rfl (by exact pMv (.inr rfl) rfl) rfl (by decide) ?_
  refine oNil ?_
  refine aSeq ?_
  refine aReg ?_
  refine oQ rfl ?_
  refine qAlloc rfl rfl (by decide) ze_24 rfl (fun b7 => ?_)
  refine oNil ?_
  refine aSeq ?_
  refine aSeq ?_
  refine aReg ?_
  refine oP rfl (by exact pMv (.inl rfl) rfl) rfl (by decide) ?_
  refine oP rfl (by exact pBin rfl rfl rfl rfl rfl) rfl (by decide) ?_
  refine oP rfl (by exact pMv (.inl rfl) rfl) rfl (by decide) ?_
  refine oSplitDec 12 rfl (fun c12 => ?_) (fun c12 => ?_)
  · skip
    refine oGF rfl rfl rfl rfl rfl (by decide) ?_
    refine oGF rfl rfl rfl rfl rfl (by decide) ?_
    refine oP rfl (by exact pPick rfl rfl rfl) rfl (by decide) ?_
    refine oP rfl (by exact pMv (.inl rfl) rfl) rfl (by decide) ?_
    refine oGF rfl rfl rfl rfl rfl (by decide) ?_
    refine oGF rfl rfl rfl rfl rfl (by decide) ?_
    refine oP rfl (by exact pPick rfl rfl rfl) rfl (by decide) ?_
    refine oP rfl (by exact pMv (.inl rfl) rfl) rfl (by decide) ?_
    refine oGF rfl rfl rfl rfl rfl (by decide) ?_
    refine oGF rfl rfl rfl rfl rfl (by decide) ?_
    refine oP rfl (by exact pPick rfl rfl rfl) rfl (by decide) ?_
    refine oNil ?_
    refine aCondT rfl ?_
    refine aSeq ?_
    refine aReg ?_
    refine oP rfl (by exact pMv (.inr rfl) rfl) rfl (by decide) ?_
    refine oNil ?_
    refine aWeak (weak_nil 46 5) ?_
    refine aRet ?_
    have hz : thoseL n cost p = [] := by rw [thoseL, if_neg (by simp only [goodN, Bool.and_eq_true, decide_eq_true_eq]; omega)]
    exact ⟨_, [.sl none 0 46 5 []], _, rfl, .cons .hd .nil, none, 0, by rw [hz]; rfl, by rw [hz]; rfl⟩
  · skip
    refine oGP rfl rfl rfl rfl (by exact pMv (.inl rfl) rfl) rfl (by decide) ?_
    refine oGP rfl rfl rfl rfl (by exact pBin rfl rfl rfl rfl rfl) rfl (by decide) ?_
    refine oP rfl (by exact pPick rfl rfl rfl) rfl (by decide) ?_
    refine oP rfl (by exact pMv (.inl rfl) rfl) rfl (by decide) ?_
    refine oSplitDec 16 rfl (fun c16 => ?_) (fun c16 => ?_)
    · skip
      refine oGF rfl rfl rfl rfl rfl (by decide) ?_
      refine oGF rfl rfl rfl rfl rfl (by decide) ?_
      refine oP rfl (by exact pPick rfl rfl rfl) rfl (by decide) ?_
      refine oP rfl (by exact pMv (.inl rfl) rfl) rfl (by decide) ?_
      refine oGF rfl rfl rfl rfl rfl (by decide) ?_
      refine oGF rfl rfl rfl rfl rfl (by decide) ?_
      refine oP rfl (by exact pPick rfl rfl rfl) rfl (by decide) ?_
      refine oNil ?_
      refine aCondT rfl ?_
      refine aSeq ?_
      refine aReg ?_
      refine oP rfl (by exact pMv (.inr rfl) rfl) rfl (by decide) ?_
      refine oNil ?_
      refine aWeak (weak_nil 46 5) ?_
      refine aRet ?_
      have hz : thoseL n cost p = [] := by rw [thoseL, if_neg (by simp only [goodN, Bool.and_eq_true, decide_eq_true_eq]; omega)]
      exact ⟨_, [.sl none 0 46 5 []], _, rfl, .cons .hd .nil, none, 0, by rw [hz]; rfl, by rw [hz]; rfl⟩
    · skip
      refine oGR rfl rfl rfl rfl (by first | exact rLdS1 rfl rfl ty_3 rfl | exact rLdB1 rfl rfl (by repeat constructor) ty_3 rfl) rfl (by decide) ?_
      refine oGP rfl rfl rfl rfl (by exact pBin rfl rfl rfl rfl rfl) rfl (by decide) ?_
      refine oP rfl (by exact pPick rfl rfl rfl) rfl (by decide) ?_
      refine oP rfl (by exact pMv (.inl rfl) rfl) rfl (by decide) ?_
      refine oSplitDec 20 rfl (fun c20 => ?_) (fun c20 => ?_)
      · skip
        refine oGF rfl rfl rfl rfl rfl (by decide) ?_
        refine oGF rfl rfl rfl rfl rfl (by decide) ?_
        refine oP rfl (by exact pPick rfl rfl rfl) rfl (by decide) ?_
        refine oNil ?_
        refine aCondT rfl ?_
        refine aSeq ?_
        refine aReg ?_
        refine oP rfl (by exact pMv (.inr rfl) rfl) rfl (by decide) ?_
        refine oNil ?_
        refine aWeak (weak_nil 46 5) ?_
        refine aRet ?_
        have hz : thoseL n cost p = [] := by rw [thoseL, if_neg (by simp only [goodN, Bool.and_eq_true, decide_eq_true_eq]; omega)]
        exact ⟨_, [.sl none 0 46 5 []], _, rfl, .cons .hd .nil, none, 0, by rw [hz]; rfl, by rw [hz]; rfl⟩
      · skip
        refine oGR rfl rfl rfl rfl (by first | exact rLdS1 rfl rfl ty_3 rfl | exact rLdB1 rfl rfl (by repeat constructor) ty_3 rfl) rfl (by decide) ?_
        refine oGP rfl rfl rfl rfl (by exact pBin rfl rfl rfl rfl rfl) rfl (by decide) ?_
        refine oP rfl (by exact pPick rfl rfl rfl) rfl (by decide) ?_
        refine oNil ?_
        refine aCondDec rfl (fun c23 => ?_) (fun c23 => ?_)
        · skip
          refine aSeq ?_
          refine aReg ?_
          refine oP rfl (by exact pMv (.inr rfl) rfl) rfl (by decide) ?_
          refine oNil ?_
          refine aWeak (weak_nil 46 5) ?_
          refine aRet ?_
          have hz : thoseL n cost p = [] := by rw [thoseL, if_neg (by simp only [goodN, Bool.and_eq_true, decide_eq_true_eq]; omega)]
          exact ⟨_, [.sl none 0 46 5 []], _, rfl, .cons .hd .nil, none, 0, by rw [hz]; rfl, by rw [hz]; rfl⟩
        · skip
          refine aSkip ?_
          refine aSeq ?_
          refine aSeq ?_
          obtain ⟨m, rfl⟩ : ∃ m : Nat, n = m := ⟨n.toNat, by omega⟩
          refine aReg ?_
          refine oP rfl (by exact pMv (.inl rfl) rfl) rfl (by decide) ?_
          refine oQ rfl ?_
          refine qCall0 rfl rfl (by decide) rfl rfl (gen_pairs m) ?_
          rintro _ _ ⟨rfl, rfl⟩
          refine oNil ?_
          refine aBlock ?_
          refine aRangeFunc (α := List (Nat × Nat) × Option Nat × Nat) (fun (qs, g, c) => [.sl g c 46 5 (((qs.filter fun q => p q.1 q.2).map (wireOf cost)).map wireC), .box b7 [.v (slV g ((qs.filter fun q => p q.1 q.2).map (wireOf cost)).length c)], .box b5 [.fn (.func gf) caps], .box b4 [.int cost]]) (fun pre (qs, g, c) => pre = qs.map pairAV) ([], none, 0) rfl (by decide) (gen_pairs1_iter m (by omega)) ?_ ?_ ?_ ?_ ?_
          · skip
            rintro _ _ ⟨a, b, _, _, _, _, rfl⟩; rfl
          · skip
            refine Weak.trans (weak_nil 46 5) ?_
            exact weak_heap (by repeat constructor)
          · skip
            rfl
          · rintro pre x ⟨qs, g, c⟩ ⟨a, b, ha1, hab, hbn, hpre, rfl⟩ hJ
            replace hJ : pre = qs.map pairAV := hJ
            obtain rfl : qs = pairsPre m a b := pairAV_inj (hJ.symm.trans hpre)
            have hfl := List.length_filter_le (fun q : Nat × Nat => p q.1 q.2) (pairsPre m a b)
            have hlen := pairsPre_len (n := m) (a := a) (b := b) (by omega) (by omega)
            refine aSeq ?_
            refine aReg ?_
            refine oP rfl (by exact pMv (.inr rfl) rfl) rfl (by decide) ?_
            refine oNil ?_
            refine aReg ?_
            refine oP rfl (by exact pMv (.inr rfl) rfl) rfl (by decide) ?_
            refine oNil ?_
            refine aBlock ?_
            refine aSeq ?_
            refine aReg ?_
            refine oR rfl (by first | exact rLdS1 rfl rfl ty_69 rfl | exact rLdB1 rfl rfl (by repeat constructor) ty_69 rfl) rfl (by decide) ?_
            refine oP rfl (by exact pMv (.inl rfl) rfl) rfl (by decide) ?_
            refine oP rfl (by exact pMv (.inl rfl) rfl) rfl (by decide) ?_
            refine oQ rfl ?_
            refine qCallV rfl rfl (by decide) rfl rfl (lents_refl _) (hp a b ha1 hab (by omega) (by omega)) ?_
            refine oNil ?_
            refine aCond rfl (fun c31 => ?_) (fun c31 => ?_)
            · skip
              refine aReg ?_
              refine oR rfl (by first | exact rLdS1 rfl rfl ty_24 rfl | exact rLdB1 rfl rfl (by repeat constructor) ty_24 rfl) rfl (by decide) ?_
              refine oP rfl (by exact pMv (.inl rfl) rfl) rfl (by decide) ?_
              refine oP rfl (by exact pMv (.inl rfl) rfl) rfl (by decide) ?_
              refine oR rfl (by first | exact rLdS1 rfl rfl ty_3 rfl | exact rLdB1 rfl rfl (by repeat constructor) ty_3 rfl) rfl (by decide) ?_
              refine oR rfl (by first | exact rLdS1 rfl rfl ty_3 rfl | exact rLdB1 rfl rfl (by repeat constructor) ty_3 rfl) rfl (by decide) ?_
              refine oP rfl (by exact pBuild rfl st_46 ze_46 rfl rfl rfl rfl) rfl (by decide) ?_
              refine oQ rfl ?_
              refine qLit (l := [_]) rfl rfl (by decide) us_24 ty_46 ze_46 rfl (by decide) (by decide) rfl rfl rfl (fun b38 => ?_)
              refine oA rfl ?_
              refine oApp rfl rfl (by decide) rfl (by repeat constructor) (by simp) (srcOwn rfl (by repeat constructor) (by first | rfl | simp)) el_24 sl_24 (by intro z hz; rcases List.mem_cons.1 hz with rfl | hz; rfl; cases hz) (by simp; omega) (by simp; omega) (fun g39 k39 => ?_)
              refine oA rfl ?_
              refine oStB rfl rfl rfl rfl (by repeat constructor) ty_24 rfl (Nat.le_of_ble_eq_true rfl) rfl ?_
              refine oNil ?_
              first
                | (refine ⟨(pairsPre m a b ++ [(a, b)], g39, k39), by show pre ++ _ = List.map pairAV (pairsPre m a b ++ [(a, b)]); rw [List.map_append, hJ]; rfl, ?_⟩
                   simp only [List.filter_append, List.map_append, List.filter_cons, c31, ↓reduceIte, List.filter_nil, List.map_cons, List.map_nil, List.length_map, List.length_append, List.length_cons, List.length_nil]
                   exact weak_sub trivial (by repeat constructor))
                | (refine ⟨(pairsPre m a b ++ [(a, b)], g, c), by show pre ++ _ = List.map pairAV (pairsPre m a b ++ [(a, b)]); rw [List.map_append, hJ]; rfl, ?_⟩
                   simp only [List.filter_append, List.map_append, List.filter_cons, c31, Bool.false_eq_true, ↓reduceIte, List.filter_nil, List.map_nil, List.append_nil]
                   exact weak_sub trivial (by repeat constructor))
            · skip
              refine aSkip ?_
              first
                | (refine ⟨(pairsPre m a b ++ [(a, b)], g39, k39), by show pre ++ _ = List.map pairAV (pairsPre m a b ++ [(a, b)]); rw [List.map_append, hJ]; rfl, ?_⟩
                   simp only [List.filter_append, List.map_append, List.filter_cons, c31, ↓reduceIte, List.filter_nil, List.map_cons, List.map_nil, List.length_map, List.length_append, List.length_cons, List.length_nil]
                   exact weak_sub trivial (by repeat constructor))
                | (refine ⟨(pairsPre m a b ++ [(a, b)], g, c), by show pre ++ _ = List.map pairAV (pairsPre m a b ++ [(a, b)]); rw [List.map_append, hJ]; rfl, ?_⟩
                   simp only [List.filter_append, List.map_append, List.filter_cons, c31, Bool.false_eq_true, ↓reduceIte, List.filter_nil, List.map_nil, List.append_nil]
                   exact weak_sub trivial (by repeat constructor))
          · rintro xs ⟨qs, g, c⟩ hE hJ
            try dsimp only [List.nil_append, List.cons_append]
            replace hJ : xs = qs.map pairAV := hJ
            obtain rfl : qs = pairsL m := pairAV_inj (hJ.symm.trans hE)
            refine aSeq ?_
            refine aReg ?_
            refine oR rfl (by first | exact rLdS1 rfl rfl ty_24 rfl | exact rLdB1 rfl rfl (by repeat constructor) ty_24 rfl) rfl (by decide) ?_
            refine oP rfl (by exact pMv (.inr rfl) rfl) rfl (by decide) ?_
            refine oNil ?_
            refine aRet ?_
            have hz : thoseL m cost p = ((pairsL m).filter fun q => p q.1 q.2).map (wireOf cost) := by rw [thoseL, if_pos (by simp only [goodN, Bool.and_eq_true, decide_eq_true_eq]; omega)]; rfl
            rw [← hz]
            exact ⟨_, [.sl g c 46 5 ((thoseL m cost p).map wireC)], _, rfl, .cons .hd .nil, g, c, rfl, rfl⟩

/- gen.Row$1 -/
set_option maxRecDepth 100000 in
set_option maxHeartbeats 400000 in
theorem gen_Row1 (a b : Nat) (ha : 1 ≤ a) (hab : a < b) (hb : b ≤ 64) : Triple Try.prog 46 [.int a, .int b] [] (fun r h' => r = .v (.bool (pRow a b)) ∧ h' = []) := by
  refine triple_of Try.func46 rfl (by kernel_rfl) rfl (by simp) ?_
  refine aSeq ?_
  refine aReg ?_
  refine oP rfl (by exact pMv (.inr rfl) rfl) rfl (by decide) ?_
  refine oNil ?_
  refine aSeq ?_
  refine aReg ?_
  refine oP rfl (by exact pMv (.inl rfl) rfl) rfl (by decide) ?_
  refine oP rfl (by exact pMv (.inl rfl) rfl) rfl (by decide) ?_
  refine oP rfl (by exact pAdd rfl rfl rfl (by omega) (by omega)) rfl (by decide) ?_
  refine oP rfl (by exact pBin rfl rfl rfl rfl rfl) rfl (by decide) ?_
  refine oP rfl (by exact pMv (.inr rfl) rfl) rfl (by decide) ?_
  refine oNil ?_
  refine aRet ?_
  refine ⟨_, [], _, rfl, .nil, ?_, rfl⟩
  rfl

/- gen.Star$1 -/
set_option maxRecDepth 100000 in
set_option maxHeartbeats 400000 in
theorem gen_Star1 (a b : Nat) (ha : 1 ≤ a) (hab : a < b) (hb : b ≤ 64) : Triple Try.prog 48 [.int a, .int b] [] (fun r h' => r = .v (.bool (pStar a b)) ∧ h' = []) := by
  refine triple_of Try.func48 rfl (by kernel_rfl) rfl (by simp) ?_
  refine aSeq ?_
  refine aReg ?_
  refine oP rfl (by exact pMv (.inr rfl) rfl) rfl (by decide) ?_
  refine oNil ?_
  refine aSeq ?_
  refine aReg ?_
  refine oP rfl (by exact pMv (.inl rfl) rfl) rfl (by decide) ?_
  refine oP rfl (by exact pBin rfl rfl rfl rfl rfl) rfl (by decide) ?_
  refine oP rfl (by exact pMv (.inr rfl) rfl) rfl (by decide) ?_
  refine oNil ?_
  refine aRet ?_
  refine ⟨_, [], _, rfl, .nil, ?_, rfl⟩
  rfl

/- gen.Full$1 -/
set_option maxRecDepth 100000 in
set_option maxHeartbeats 400000 in
theorem gen_Full1 (a b : Nat) (ha : 1 ≤ a) (hab : a < b) (hb : b ≤ 64) : Triple Try.prog 49 [.int a, .int b] [] (fun r h' => r = .v (.bool (pFull a b)) ∧ h' = []) := by
  refine triple_of Try.func49 rfl (by kernel_rfl) rfl (by simp) ?_
  refine aSeq ?_
  refine aReg ?_
  refine oP rfl (by exact pMv (.inr rfl) rfl) rfl (by decide) ?_
  refine oNil ?_
  refine aSeq ?_
  refine aReg ?_
  refine oP rfl (by exact pMv (.inr rfl) rfl) rfl (by decide) ?_
  refine oNil ?_
  refine aRet ?_
  refine ⟨_, [], _, rfl, .nil, ?_, rfl⟩
  rfl

/- gen.Ring$1 -/
set_option maxRecDepth 100000 in
set_option maxHeartbeats 400000 in
theorem gen_Ring1 (a b : Nat) (ha : 1 ≤ a) (hab : a < b) (hb : b ≤ 64) (n : Int) : Triple Try.prog 47 [.int a, .int b, .sp [.int n]] [] (fun r h' => r = .v (.bool (pRing n a b)) ∧ h' = []) := by
  refine triple_of Try.func47 rfl (by kernel_rfl) rfl (by simp) ?_
  refine aSeq ?_
  refine aReg ?_
  refine oP rfl (by exact pMv (.inr rfl) rfl) rfl (by decide) ?_
  refine oNil ?_
  refine aSeq ?_
  refine aReg ?_
  refine oP rfl (by exact pMv (.inl rfl) rfl) rfl (by decide) ?_
  refine oP rfl (by exact pMv (.inl rfl) rfl) rfl (by decide) ?_
  refine oP rfl (by exact pAdd rfl rfl rfl (by omega) (by omega)) rfl (by decide) ?_
  refine oP rfl (by exact pBin rfl rfl rfl rfl rfl) rfl (by decide) ?_
  refine oP rfl (by exact pMv (.inl rfl) rfl) rfl (by decide) ?_
  refine oSplitEq 10 rfl (fun c10 => ?_) (fun c10 => ?_)
  · skip
    refine oGF rfl rfl rfl rfl rfl (by decide) ?_
    refine oGF rfl rfl rfl rfl rfl (by decide) ?_
    refine oGF rfl rfl rfl rfl rfl (by decide) ?_
    refine oGF rfl rfl rfl rfl rfl (by decide) ?_
    refine oGF rfl rfl rfl rfl rfl (by decide) ?_
    refine oGF rfl rfl rfl rfl rfl (by decide) ?_
    refine oGF rfl rfl rfl rfl rfl (by decide) ?_
    refine oGF rfl rfl rfl rfl rfl (by decide) ?_
    refine oGF rfl rfl rfl rfl rfl (by decide) ?_
    refine oGF rfl rfl rfl rfl rfl (by decide) ?_
    refine oGF rfl rfl rfl rfl rfl (by decide) ?_
    refine oP rfl (by exact pPick rfl rfl rfl) rfl (by decide) ?_
    refine oP rfl (by exact pMv (.inr rfl) rfl) rfl (by decide) ?_
    refine oNil ?_
    refine aRet ?_
    refine ⟨_, [], _, rfl, .nil, ?_, rfl⟩
    show AV.v (.bool _) = AV.v (.bool _)
    simp_all [pRing]
    all_goals omega
  · skip
    refine oGR rfl rfl rfl rfl (by first | exact rLdS1 rfl rfl ty_3 rfl | exact rLdB1 rfl rfl (by repeat constructor) ty_3 rfl) rfl (by decide) ?_
    refine oGP rfl rfl rfl rfl (by exact pBin rfl rfl rfl rfl rfl) rfl (by decide) ?_
    refine oGP rfl rfl rfl rfl (by exact pMv (.inl rfl) rfl) rfl (by decide) ?_
    refine oSplitDec 13 rfl (fun c13 => ?_) (fun c13 => ?_)
    · skip
      refine oGP rfl rfl rfl rfl (by exact pMv (.inl rfl) rfl) rfl (by decide) ?_
      refine oGP rfl rfl rfl rfl (by exact pBin rfl rfl rfl rfl rfl) rfl (by decide) ?_
      refine oGP rfl rfl rfl rfl (by exact pPick rfl rfl rfl) rfl (by decide) ?_
      refine oGP rfl rfl rfl rfl (by exact pMv (.inl rfl) rfl) rfl (by decide) ?_
      refine oSplitEq 17 rfl (fun c17 => ?_) (fun c17 => ?_)
      · skip
        refine oGP rfl rfl rfl rfl (by exact pMv (.inl rfl) rfl) rfl (by decide) ?_
        refine oGR rfl rfl rfl rfl (by first | exact rLdS1 rfl rfl ty_3 rfl | exact rLdB1 rfl rfl (by repeat constructor) ty_3 rfl) rfl (by decide) ?_
        refine oGP rfl rfl rfl rfl (by exact pBin rfl rfl rfl rfl rfl) rfl (by decide) ?_
        refine oGP rfl rfl rfl rfl (by exact pPick rfl rfl rfl) rfl (by decide) ?_
        refine oP rfl (by exact pPick rfl rfl rfl) rfl (by decide) ?_
        refine oP rfl (by exact pMv (.inr rfl) rfl) rfl (by decide) ?_
        refine oNil ?_
        refine aRet ?_
        refine ⟨_, [], _, rfl, .nil, ?_, rfl⟩
        show AV.v (.bool _) = AV.v (.bool _)
        simp_all [pRing]
        all_goals omega
      · skip
        refine oGF rfl rfl rfl rfl rfl (by decide) ?_
        refine oGF rfl rfl rfl rfl rfl (by decide) ?_
        refine oGF rfl rfl rfl rfl rfl (by decide) ?_
        refine oGP rfl rfl rfl rfl (by exact pPick rfl rfl rfl) rfl (by decide) ?_
        refine oP rfl (by exact pPick rfl rfl rfl) rfl (by decide) ?_
        refine oP rfl (by exact pMv (.inr rfl) rfl) rfl (by decide) ?_
        refine oNil ?_
        refine aRet ?_
        refine ⟨_, [], _, rfl, .nil, ?_, rfl⟩
        show AV.v (.bool _) = AV.v (.bool _)
        simp_all [pRing]
        all_goals omega
    · skip
      refine oGF rfl rfl rfl rfl rfl (by decide) ?_
      refine oGF rfl rfl rfl rfl rfl (by decide) ?_
      refine oGP rfl rfl rfl rfl (by exact pPick rfl rfl rfl) rfl (by decide) ?_
      refine oGP rfl rfl rfl rfl (by exact pMv (.inl rfl) rfl) rfl (by decide) ?_
      refine oGF rfl rfl rfl rfl rfl (by decide) ?_
      refine oGF rfl rfl rfl rfl rfl (by decide) ?_
      refine oGF rfl rfl rfl rfl rfl (by decide) ?_
      refine oGP rfl rfl rfl rfl (by exact pPick rfl rfl rfl) rfl (by decide) ?_
      refine oP rfl (by exact pPick rfl rfl rfl) rfl (by decide) ?_
      refine oP rfl (by exact pMv (.inr rfl) rfl) rfl (by decide) ?_
      refine oNil ?_
      refine aRet ?_
      refine ⟨_, [], _, rfl, .nil, ?_, rfl⟩
      show AV.v (.bool _) = AV.v (.bool _)
      simp_all [pRing]
      all_goals omega

/- gen.Grid$1 -/
set_option maxRecDepth 100000 in
set_option maxHeartbeats 400000 in
theorem gen_Grid1 (a b : Nat) (ha : 1 ≤ a) (hab : a < b) (hb : b ≤ 64) (c : Int) (hc : 1 ≤ c) (hc2 : c ≤ 64) : Triple Try.prog 45 [.int a, .int b, .sp [.int c]] [] (fun r h' => r = .v (.bool (pGrid c a b)) ∧ h' = []) := by
  refine triple_of Try.func45 rfl (by kernel_rfl) rfl (by simp) ?_
  refine aSeq ?_
  refine aReg ?_
  refine oP rfl (by exact pMv (.inr rfl) rfl) rfl (by decide) ?_
  refine oNil ?_
  refine aSeq ?_
  refine aReg ?_
  refine oP rfl (by exact pMv (.inl rfl) rfl) rfl (by decide) ?_
  refine oP rfl (by exact pMv (.inl rfl) rfl) rfl (by decide) ?_
  refine oR rfl (by first | exact rLdS1 rfl rfl ty_3 rfl | exact rLdB1 rfl rfl (by repeat constructor) ty_3 rfl) rfl (by decide) ?_
  refine oP rfl (by exact pAdd rfl rfl rfl (by omega) (by omega)) rfl (by decide) ?_
  refine oP rfl (by exact pBin rfl rfl rfl rfl rfl) rfl (by decide) ?_
  refine oP rfl (by exact pMv (.inl rfl) rfl) rfl (by decide) ?_
  refine oSplitEq 11 rfl (fun c11 => ?_) (fun c11 => ?_)
  · skip
    refine oGF rfl rfl rfl rfl rfl (by decide) ?_
    refine oGF rfl rfl rfl rfl rfl (by decide) ?_
    refine oGF rfl rfl rfl rfl rfl (by decide) ?_
    refine oGF rfl rfl rfl rfl rfl (by decide) ?_
    refine oGF rfl rfl rfl rfl rfl (by decide) ?_
    refine oGF rfl rfl rfl rfl rfl (by decide) ?_
    refine oGF rfl rfl rfl rfl rfl (by decide) ?_
    refine oGF rfl rfl rfl rfl rfl (by decide) ?_
    refine oGF rfl rfl rfl rfl rfl (by decide) ?_
    refine oGF rfl rfl rfl rfl rfl (by decide) ?_
    refine oP rfl (by exact pPick rfl rfl rfl) rfl (by decide) ?_
    refine oP rfl (by exact pMv (.inr rfl) rfl) rfl (by decide) ?_
    refine oNil ?_
    refine aRet ?_
    refine ⟨_, [], _, rfl, .nil, ?_, rfl⟩
    show AV.v (.bool _) = AV.v (.bool _)
    simp_all [pGrid]
  · skip
    refine oGP rfl rfl rfl rfl (by exact pMv (.inl rfl) rfl) rfl (by decide) ?_
    refine oGP rfl rfl rfl rfl (by exact pMv (.inl rfl) rfl) rfl (by decide) ?_
    refine oGP rfl rfl rfl rfl (by exact pAdd rfl rfl rfl (by omega) (by omega)) rfl (by decide) ?_
    refine oGP rfl rfl rfl rfl (by exact pBin rfl rfl rfl rfl rfl) rfl (by decide) ?_
    refine oGP rfl rfl rfl rfl (by exact pMv (.inl rfl) rfl) rfl (by decide) ?_
    refine oSplitEq 16 rfl (fun c16 => ?_) (fun c16 => ?_)
    · skip
      refine oGP rfl rfl rfl rfl (by exact pMv (.inl rfl) rfl) rfl (by decide) ?_
      refine oGR rfl rfl rfl rfl (by first | exact rLdS1 rfl rfl ty_3 rfl | exact rLdB1 rfl rfl (by repeat constructor) ty_3 rfl) rfl (by decide) ?_
      refine oGP rfl rfl rfl rfl (by exact pRem rfl rfl rfl (by omega)) rfl (by decide) ?_
      refine oGP rfl rfl rfl rfl (by exact pBin rfl rfl rfl rfl rfl) rfl (by decide) ?_
      refine oGP rfl rfl rfl rfl (by exact pPick rfl rfl rfl) rfl (by decide) ?_
      refine oP rfl (by exact pPick rfl rfl rfl) rfl (by decide) ?_
      refine oP rfl (by exact pMv (.inr rfl) rfl) rfl (by decide) ?_
      refine oNil ?_
      refine aRet ?_
      refine ⟨_, [], _, rfl, .nil, ?_, rfl⟩
      show AV.v (.bool _) = AV.v (.bool _)
      simp_all [pGrid]
    · skip
      refine oGF rfl rfl rfl rfl rfl (by decide) ?_
      refine oGF rfl rfl rfl rfl rfl (by decide) ?_
      refine oGF rfl rfl rfl rfl rfl (by decide) ?_
      refine oGF rfl rfl rfl rfl rfl (by decide) ?_
      refine oGP rfl rfl rfl rfl (by exact pPick rfl rfl rfl) rfl (by decide) ?_
      refine oP rfl (by exact pPick rfl rfl rfl) rfl (by decide) ?_
      refine oP rfl (by exact pMv (.inr rfl) rfl) rfl (by decide) ?_
      refine oNil ?_
      refine aRet ?_
      refine ⟨_, [], _, rfl, .nil, ?_, rfl⟩
      show AV.v (.bool _) = AV.v (.bool _)
      simp_all [pGrid]

/- gen.Row -/
set_option maxRecDepth 100000 in
set_option maxHeartbeats 400000 in
theorem gen_Row (n cost : Int) : Triple Try.prog 26 [.int n, .int cost] [] (fun r h' => ∃ g c, r = .v (slV g (thoseL n cost pRow).length c) ∧ h' = [.sl g c 46 5 ((thoseL n cost pRow).map wireC)]) := by
  refine triple_of Try.func26 rfl (by kernel_rfl) rfl (by simp) ?_
  refine aSeq ?_
  refine aReg ?_
  refine oP rfl (by exact pMv (.inr rfl) rfl) rfl (by decide) ?_
  refine oNil ?_
  refine aSeq ?_
  refine aReg ?_
  refine oP rfl (by exact pMv (.inl rfl) rfl) rfl (by decide) ?_
  refine oP rfl (by exact pMv (.inl rfl) rfl) rfl (by decide) ?_
  refine oA rfl ?_
  refine aCall rfl rfl (by decide) rfl rfl .nil (gen_those n cost _ [] pRow (fun a b ha hab hb hn => gen_Row1 a b ha hab (by omega))) ?_
  rintro _ _ ⟨g1, c1, rfl, rfl⟩
  refine oP rfl (by exact pMv (.inr rfl) rfl) rfl (by decide) ?_
  refine oNil ?_
  refine aRet ?_
  refine ⟨_, [.sl g1 c1 46 5 _], _, rfl, .cons .hd .nil, g1, c1, rfl, rfl⟩

/- gen.Star -/
set_option maxRecDepth 100000 in
set_option maxHeartbeats 400000 in
theorem gen_Star (n cost : Int) : Triple Try.prog 28 [.int n, .int cost] [] (fun r h' => ∃ g c, r = .v (slV g (thoseL n cost pStar).length c) ∧ h' = [.sl g c 46 5 ((thoseL n cost pStar).map wireC)]) := by
  refine triple_of Try.func28 rfl (by kernel_rfl) rfl (by simp) ?_
  refine aSeq ?_
  refine aReg ?_
  refine oP rfl (by exact pMv (.inr rfl) rfl) rfl (by decide) ?_
  refine oNil ?_
  refine aSeq ?_
  refine aReg ?_
  refine oP rfl (by exact pMv (.inl rfl) rfl) rfl (by decide) ?_
  refine oP rfl (by exact pMv (.inl rfl) rfl) rfl (by decide) ?_
  refine oA rfl ?_
  refine aCall rfl rfl (by decide) rfl rfl .nil (gen_those n cost _ [] pStar (fun a b ha hab hb hn => gen_Star1 a b ha hab (by omega))) ?_
  rintro _ _ ⟨g1, c1, rfl, rfl⟩
  refine oP rfl (by exact pMv (.inr rfl) rfl) rfl (by decide) ?_
  refine oNil ?_
  refine aRet ?_
  refine ⟨_, [.sl g1 c1 46 5 _], _, rfl, .cons .hd .nil, g1, c1, rfl, rfl⟩

/- gen.Full -/
set_option maxRecDepth 100000 in
set_option maxHeartbeats 400000 in
theorem gen_Full (n cost : Int) : Triple Try.prog 29 [.int n, .int cost] [] (fun r h' => ∃ g c, r = .v (slV g (thoseL n cost pFull).length c) ∧ h' = [.sl g c 46 5 ((thoseL n cost pFull).map wireC)]) := by
  refine triple_of Try.func29 rfl (by kernel_rfl) rfl (by simp) ?_
  refine aSeq ?_
  refine aReg ?_
  refine oP rfl (by exact pMv (.inr rfl) rfl) rfl (by decide) ?_
  refine oNil ?_
  refine aSeq ?_
  refine aReg ?_
  refine oP rfl (by exact pMv (.inl rfl) rfl) rfl (by decide) ?_
  refine oP rfl (by exact pMv (.inl rfl) rfl) rfl (by decide) ?_
  refine oA rfl ?_
  refine aCall rfl rfl (by decide) rfl rfl .nil (gen_those n cost _ [] pFull (fun a b ha hab hb hn => gen_Full1 a b ha hab (by omega))) ?_
  rintro _ _ ⟨g1, c1, rfl, rfl⟩
  refine oP rfl (by exact pMv (.inr rfl) rfl) rfl (by decide) ?_
  refine oNil ?_
  refine aRet ?_
  refine ⟨_, [.sl g1 c1 46 5 _], _, rfl, .cons .hd .nil, g1, c1, rfl, rfl⟩

/- gen.Ring -/
set_option maxRecDepth 100000 in
set_option maxHeartbeats 400000 in
theorem gen_Ring (n cost : Int) : Triple Try.prog 27 [.int n, .int cost] [] (fun r h' => ∃ g c, r = .v (slV g (thoseL n cost (pRing n)).length c) ∧ h' = [.sl g c 46 5 ((thoseL n cost (pRing n)).map wireC)]) := by
  refine triple_of Try.func27 rfl (by kernel_rfl) rfl (by simp) ?_
  refine aSeq ?_
  refine aReg ?_
  refine oQ rfl ?_
  refine qBox rfl rfl (by decide) rfl rfl (fun b2 => ?_)
  refine oP rfl (by exact pMv (.inr rfl) rfl) rfl (by decide) ?_
  refine oNil ?_
  refine aSeq ?_
  refine aReg ?_
  refine oR rfl (by first | exact rLdS1 rfl rfl ty_3 rfl | exact rLdB1 rfl rfl (by repeat constructor) ty_3 rfl) rfl (by decide) ?_
  refine oP rfl (by exact pMv (.inl rfl) rfl) rfl (by decide) ?_
  refine oP rfl (by exact pFn rfl rfl) rfl (by decide) ?_
  refine oWeak (weak_deep (k := 7) (b := .fn (.func 47) [.sp [.int n]]) rfl (.cons .hd .nil) (by repeat constructor)) ?_
  refine oA rfl ?_
  refine aCall rfl rfl (by decide) rfl rfl .nil (gen_those n cost _ [.sp [.int n]] (pRing n) (fun a b ha hab hb hn => gen_Ring1 a b ha hab (by omega) n)) ?_
  rintro _ _ ⟨g1, c1, rfl, rfl⟩
  refine oP rfl (by exact pMv (.inr rfl) rfl) rfl (by decide) ?_
  refine oNil ?_
  refine aRet ?_
  refine ⟨_, [.sl g1 c1 46 5 _], _, rfl, .cons .hd .nil, g1, c1, rfl, rfl⟩

def gridL (n c cost : Int) : List Wire := if 1 ≤ c ∧ c ≤ n then thoseL n cost (pGrid c) else []

/- gen.Grid -/
set_option maxRecDepth 100000 in
set_option maxHeartbeats 400000 in
theorem gen_Grid (n col cost : Int) : Triple Try.prog 25 [.int n, .int col, .int cost] [] (fun r h' => ∃ g c, r = .v (slV g (gridL n col cost).length c) ∧ h' = [.sl g c 46 5 ((gridL n col cost).map wireC)]) := by
  refine triple_of Try.func25 rfl (by kernel_rfl) rfl (by simp) ?_
  refine aSeq ?_
  refine aReg ?_
  refine oQ rfl ?_
  refine qBox rfl rfl (by decide) rfl rfl (fun b4 => ?_)
  refine oP rfl (by exact pMv (.inr rfl) rfl) rfl (by decide) ?_
  refine oNil ?_
  refine aSeq ?_
  refine aSeq ?_
  refine aReg ?_
  refine oR rfl (by first | exact rLdS1 rfl rfl ty_3 rfl | exact rLdB1 rfl rfl (by repeat constructor) ty_3 rfl) rfl (by decide) ?_
  refine oP rfl (by exact pBin rfl rfl rfl rfl rfl) rfl (by decide) ?_
  refine oP rfl (by exact pMv (.inl rfl) rfl) rfl (by decide) ?_
  refine oSplitDec 9 rfl (fun c9 => ?_) (fun c9 => ?_)
  · skip
    refine oGF rfl rfl rfl rfl rfl (by decide) ?_
    refine oGF rfl rfl rfl rfl rfl (by decide) ?_
    refine oGF rfl rfl rfl rfl rfl (by decide) ?_
    refine oP rfl (by exact pPick rfl rfl rfl) rfl (by decide) ?_
    refine oNil ?_
    refine aCondT rfl ?_
    refine aSeq ?_
    refine aReg ?_
    refine oP rfl (by exact pMv (.inr rfl) rfl) rfl (by decide) ?_
    refine oNil ?_
    refine aWeak (weak_nil 46 5) ?_
    refine aRet ?_
    have hz : gridL n col cost = [] := by rw [gridL, if_neg (by omega)]
    exact ⟨_, [.sl none 0 46 5 []], _, rfl, .cons .hd .nil, none, 0, by rw [hz]; rfl, by rw [hz]; rfl⟩
  · skip
    refine oGR rfl rfl rfl rfl (by first | exact rLdS1 rfl rfl ty_3 rfl | exact rLdB1 rfl rfl (by repeat constructor) ty_3 rfl) rfl (by decide) ?_
    refine oGP rfl rfl rfl rfl (by exact pMv (.inl rfl) rfl) rfl (by decide) ?_
    refine oGP rfl rfl rfl rfl (by exact pBin rfl rfl rfl rfl rfl) rfl (by decide) ?_
    refine oP rfl (by exact pPick rfl rfl rfl) rfl (by decide) ?_
    refine oNil ?_
    refine aCondDec rfl (fun c13 => ?_) (fun c13 => ?_)
    · skip
      refine aSeq ?_
      refine aReg ?_
      refine oP rfl (by exact pMv (.inr rfl) rfl) rfl (by decide) ?_
      refine oNil ?_
      refine aWeak (weak_nil 46 5) ?_
      refine aRet ?_
      have hz : gridL n col cost = [] := by rw [gridL, if_neg (by omega)]
      exact ⟨_, [.sl none 0 46 5 []], _, rfl, .cons .hd .nil, none, 0, by rw [hz]; rfl, by rw [hz]; rfl⟩
    · skip
      refine aSkip ?_
      refine aSeq ?_
      refine aReg ?_
      refine oP rfl (by exact pMv (.inl rfl) rfl) rfl (by decide) ?_
      refine oP rfl (by exact pMv (.inl rfl) rfl) rfl (by decide) ?_
      refine oP rfl (by exact pFn rfl rfl) rfl (by decide) ?_
      refine oWeak (weak_deep (k := 16) (b := .fn (.func 45) [.sp [.int col]]) rfl (.cons .hd .nil) (by repeat constructor)) ?_
      refine oA rfl ?_
      refine aCall rfl rfl (by decide) rfl rfl .nil (gen_those n cost _ [.sp [.int col]] (pGrid col) (fun a b ha hab hb hn => gen_Grid1 a b ha hab (by omega) col (by omega) (by omega))) ?_
      rintro _ _ ⟨g1, c1, rfl, rfl⟩
      refine oP rfl (by exact pMv (.inr rfl) rfl) rfl (by decide) ?_
      refine oNil ?_
      refine aRet ?_
      have hz : gridL n col cost = thoseL n cost (pGrid col) := by rw [gridL, if_pos (by omega)]
      rw [hz]
      refine ⟨_, [.sl g1 c1 46 5 _], _, rfl, .cons .hd .nil, g1, c1, rfl, rfl⟩

end A
end Go.Proofs.Ytmkphhjlmhhokaa
