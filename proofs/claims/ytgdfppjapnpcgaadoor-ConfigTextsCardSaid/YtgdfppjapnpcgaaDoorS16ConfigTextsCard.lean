/- Texts that ConfigTextsCard's proof rests on, part 17. -/
import Derived.KernelRfl
import Derived.Test.YtgdfppjapnpcgaaDoorProg
import Derived.Test.YtgdfppjapnpcgaaDoorS15ConfigTextsCard
set_option linter.unusedVariables false
set_option linter.unusedSimpArgs false
namespace Go.Proofs.YtgdfppjapnpcgaaDoor
namespace A
open Go.Lib (itoa join)
open Go.Lib (decDigits)
/-- A text cut at each place where a byte stands, from the left. -/
def cutC (c : UInt8) : SBs → List SBs
 | [] => [[]]
 | x :: t => if x = c then [] :: cutC c t else match cutC c t with
   | [] => [[x]]
   | y :: r => (x :: y) :: r
def preC (p : SBs) : List SBs → List SBs
 | [] => [p]
 | y :: r => (p ++ y) :: r
theorem cutC_ne (c : UInt8) : ∀ s : SBs, cutC c s ≠ []
 | [] => by simp [cutC]
 | x :: t => by
   unfold cutC
   split
   ·simp
   ·split <;> simp
theorem preC_nil {l : List SBs} (h : l ≠ []) : preC [] l = l := by
 cases l with
 | nil => exact absurd rfl h
 | cons y r => rfl
theorem cut_hit {c : UInt8} {p t : SBs} : preC p (cutC c (c :: t)) = p :: cutC c t := by
 rw [cutC, if_pos rfl]
 simp [preC]
theorem cut_miss {c x : UInt8} {p t : SBs} (h : x ≠ c) : preC p (cutC c (x :: t)) = preC (p ++ [x]) (cutC c t) := by
 rw [cutC, if_neg h]
 have := cutC_ne c t
 cases hc : cutC c t with
 | nil => exact absurd hc this
 | cons y r => simp [preC]
theorem cut_len {c : UInt8} : ∀ s : SBs, (cutC c s).length ≤ s.length + 1
 | [] => by simp [cutC]
 | x :: t => by
   have := cut_len (c := c) t
   unfold cutC
   split
   ·simp only [List.length_cons]; omega
   ·split
    ·simp
    ·rename_i h; rw [h] at this; simp only [List.length_cons] at *; omega
theorem cut_part {c : UInt8} : ∀ {s x : SBs}, x ∈ cutC c s → x.length ≤ s.length
 | [], x, h => by simp [cutC] at h; subst h; simp
 | y :: t, x, h => by
   unfold cutC at h
   split at h
   ·rcases List.mem_cons.1 h with rfl | h
    ·simp
    ·have := cut_part h; simp only [List.length_cons]; omega
   ·split at h
    ·rw [List.mem_singleton.1 h]; simp
    ·rename_i z r hz
     rcases List.mem_cons.1 h with rfl | h
     ·have := cut_part (c := c) (s := t) (x := z) (by rw [hz]; simp)
      simp only [List.length_cons]; omega
     ·have := cut_part (c := c) (s := t) (x := x) (by rw [hz]; simp [h])
      simp only [List.length_cons]; omega
theorem drop_at {s : SBs} {i : Nat} {x : UInt8} (h : s[i]? = some x) : s.drop i = x :: s.drop (i + 1) := drop_step h
theorem take_at {s : SBs} {i b : Nat} {x : UInt8} (h : s[i]? = some x) (hb : b ≤ i) : (s.take (i + 1)).drop b = (s.take i).drop b ++ [x] := by
 rw [take_step h, List.drop_append_of_le_length (by rw [List.length_take]; have := (List.getElem?_eq_some_iff.1 h).1; omega)]
def CutI (s : SBs) (c : UInt8) (i b : Nat) (out : List SBs) : Prop := i ≤ s.length + 1 ∧ (b ≤ i ∧ out.length ≤ i) ∧ (i ≤ s.length → cutC c s = out ++ preC ((s.take i).drop b) (cutC c (s.drop i))) ∧ (s.length < i → out = cutC c s)
theorem cut_i0 {s : SBs} {c : UInt8} : CutI s c 0 0 [] := ⟨by omega, ⟨by omega, by simp⟩, fun _ => by simp [preC_nil (cutC_ne c s)], fun h => by omega⟩
theorem cut_end {s : SBs} {c : UInt8} {i b : Nat} {out : List SBs} (h : CutI s c i b out) (hi : i = s.length) : CutI s c (i + 1) (i + 1) (out ++ [(s.take i).drop b]) := by
 obtain ⟨h0, ⟨hb, ho⟩, h1, h2⟩ := h
 refine ⟨by omega, ⟨by omega, by rw [List.length_append]; simp only [List.length_cons, List.length_nil]; omega⟩, fun hl => by omega, fun _ => ?_⟩
 rw [h1 (by omega), List.drop_of_length_le (i := i) (by omega)]
 simp [cutC, preC]
theorem cut_here {s : SBs} {c x : UInt8} {i b : Nat} {out : List SBs} (h : CutI s c i b out) (hx : s[i]? = some x) (hc : (x.toNat : Int) = c.toNat) : CutI s c (i + 1) (i + 1) (out ++ [(s.take i).drop b]) := by
 obtain ⟨h0, ⟨hb, ho⟩, h1, h2⟩ := h
 have hxc : x = c := UInt8.toNat_inj.1 (by omega)
 subst hxc
 have hi := (List.getElem?_eq_some_iff.1 hx).1
 refine ⟨by omega, ⟨by omega, by rw [List.length_append]; simp only [List.length_cons, List.length_nil]; omega⟩, fun hl => ?_, fun hl => by omega⟩
 rw [h1 (by omega), drop_at hx, cut_hit, List.append_assoc]
 rw [show (s.take (i + 1)).drop (i + 1) = [] by rw [List.drop_of_length_le (by rw [List.length_take]; omega)], preC_nil (cutC_ne _ _)]
 rfl
theorem cut_on {s : SBs} {c x : UInt8} {i b : Nat} {out : List SBs} (h : CutI s c i b out) (hx : s[i]? = some x) (hc : (x.toNat : Int) ≠ c.toNat) : CutI s c (i + 1) b out := by
 obtain ⟨h0, ⟨hb, ho⟩, h1, h2⟩ := h
 have hxc : x ≠ c := fun e => hc (by rw [e])
 have hi := (List.getElem?_eq_some_iff.1 hx).1
 refine ⟨by omega, ⟨by omega, by omega⟩, fun hl => ?_, fun hl => by omega⟩
 rw [h1 (by omega), drop_at hx, cut_miss hxc, take_at hx hb]
/-- The number that a word seems to be, as the reference reads it. -/
def numGo : Nat → Int → SBs → Int
 | 0, n, _ => n
 | _ + 1, n, [] => n
 | k + 1, n, x :: t => if x.toNat < 48 ∨ 57 < x.toNat then -1 else numGo k (10 * n + (x.toNat - 48)) t
def numR (s : SBs) : Int := numGo 12 0 s
theorem dig_at : ∀ n : Nat, n < 10 → (([48, 49, 50, 51, 52, 53, 54, 55, 56, 57] : SBs).take (n + 1)).drop n = [UInt8.ofNat (48 + n)] := by decide
/- waymarkref31.Cut -/
set_option maxRecDepth 100000 in
set_option maxHeartbeats 4000000 in
theorem ref31_CutO {s : SBs} {c : UInt8} (hs : s.length ≤ 100000) : Triple Tryd.prog 15 [strA s, .v (.int .u8 (c.toNat : Int))] [] (Own 9 1 ((cutC c s).map strC) []) := by
 refine triple_of Tryd.func15 rfl (by kernel_rfl) rfl (by simp) ?_
 refine aSeq ?_
 refine aReg ?_
 refine sp pMa ?_
 refine oNil ?_
 refine aSeq ?_
 refine aReg ?_
 refine sq ?_
 refine qLit (l := []) rfl rfl (by decide) us_39 ty_9 ze_9 rfl (by decide) (by decide) rfl rfl rfl (fun b8 => ?_)
 refine sp pMa ?_
 refine oNil ?_
 refine aSeq ?_
 refine aReg ?_
 refine sp pMa ?_
 refine oNil ?_
 refine aSeq ?_
 refine aSeq ?_
 refine aReg ?_
 refine sp pMa ?_
 refine oNil ?_
 refine aBlock ?_
 refine loopF (α := Nat × Nat × List SBs × Option Nat × Nat) (kept := [(0, _), (1, _)]) (fun (i, b, out, g, c2) => CutI s c i b out) (fun (i, b, out, g, c2) => [(7, .int i), (6, .int b), (5, .v (slV g out.length c2))]) (fun (i, b, out, g, c2) => [.sl g c2 9 1 (out.map strC)]) (fun (i, b, out, g, c2) => s.length + 1 - i) (0, 0, [], _, _) ?_ ⟨gInt rfl (by first | rfl | omega | simp), gInt rfl (by first | rfl | omega | simp), gLen rfl (by first | rfl | simp | (simp; omega)), rfl, rfl, trivial⟩ (by repeat constructor) ?_
 ·skip
  exact cut_i0
 ·rintro ⟨i, b, out, g, c2⟩ hI
  have hI2 := hI.1
  have hI3 := hI.2.1.1
  have hI4 := hI.2.1.2
  refine aSeq ?_
  refine aSeq ?_
  refine aReg ?_
  refine sp pM ?_
  refine sp pM ?_
  refine sp (pLenStr Tryd.underlying9) ?_
  refine sp pB ?_
  refine oNil ?_
  refine aCondDec rfl (fun c12 => ?_) (fun c12 => ?_)
  ·skip
   refine aSkip ?_
   refine aSeq ?_
   refine aBlock ?_
   refine aSeq ?_
   refine aReg ?_
   refine sp pM ?_
   refine sp pM ?_
   refine sp (pLenStr Tryd.underlying9) ?_
   refine sp pB ?_
   refine sp pM ?_
   refine oSplitEq 19 rfl (fun c19 => ?_) (fun c19 => ?_)
   ·skip
    refine gf ?_
    refine gf ?_
    refine gf ?_
    refine gf ?_
    refine gf ?_
    refine sp pK ?_
    refine oNil ?_
    refine aCondT rfl ?_
    refine aSeq ?_
    have hol : out.length ≤ 100001 := by omega
    refine aReg ?_
    refine sp pM ?_
    refine sp pM ?_
    refine sp pM ?_
    refine sp pM ?_
    refine sp (pCut (i := (b : Int)) (j := (i : Int)) Tryd.underlying9 (by omega) (by omega) (by omega)) ?_
    refine sq ?_
    refine qLit (l := [_]) rfl rfl (by decide) us_39 ty_9 ze_9 rfl (by decide) (by decide) rfl rfl rfl (fun b31 => ?_)
    refine sa ?_
    refine oAppT ([(s.take i).drop b] : List SBs) rfl rfl (by repeat constructor) (srcOwn rfl (by repeat constructor) rfl) el_39 sl_39 (fun g32 k32 => ?_)
    refine sp pMa ?_
    refine oNil ?_
    refine aReg ?_
    refine sp pM ?_
    refine sp pAd ?_
    refine sp pMa ?_
    refine oNil ?_
    refine aReg ?_
    refine sp pM ?_
    refine sp pAd ?_
    refine sp pMa ?_
    refine oNil ?_
    first
      | (refine ⟨(i + 1, i + 1, out ++ [(s.take i).drop b], _, _), ?_, by (try dsimp only); omega, ⟨gInt rfl (by first | rfl | omega | simp), gInt rfl (by first | rfl | omega | simp), gLen rfl (by first | rfl | simp | (simp; omega)), rfl, rfl, trivial⟩, _, (by repeat constructor)⟩
         first | exact cut_here hI hx ‹_› | exact cut_end hI (by omega))
      | (refine ⟨(i + 1, b, out, _, _), ?_, by (try dsimp only); omega, ⟨gInt rfl (by first | rfl | omega | simp), gInt rfl (by first | rfl | omega | simp), gLen rfl (by first | rfl | simp | (simp; omega)), rfl, rfl, trivial⟩, _, (by repeat constructor)⟩
         exact cut_on hI hx ‹_›)
   ·skip
    obtain ⟨x, hx⟩ : ∃ z, s[i]? = some z := ⟨_, List.getElem?_eq_getElem (by omega)⟩
    refine gp pM ?_
    refine gp pM ?_
    refine gp (pByte (c := x) (i := (i : Int)) Tryd.underlying9 ⟨by omega, by rw [Int.toNat_natCast]; exact hx⟩) ?_
    refine gp pM ?_
    refine gp pB ?_
    refine sp pK ?_
    refine oNil ?_
    refine aCondEq rfl (fun c25 => ?_) (fun c25 => ?_)
    ·skip
     refine aSeq ?_
     have hol : out.length ≤ 100001 := by omega
     refine aReg ?_
     refine sp pM ?_
     refine sp pM ?_
     refine sp pM ?_
     refine sp pM ?_
     refine sp (pCut (i := (b : Int)) (j := (i : Int)) Tryd.underlying9 (by omega) (by omega) (by omega)) ?_
     refine sq ?_
     refine qLit (l := [_]) rfl rfl (by decide) us_39 ty_9 ze_9 rfl (by decide) (by decide) rfl rfl rfl (fun b31 => ?_)
     refine sa ?_
     refine oAppT ([(s.take i).drop b] : List SBs) rfl rfl (by repeat constructor) (srcOwn rfl (by repeat constructor) rfl) el_39 sl_39 (fun g32 k32 => ?_)
     refine sp pMa ?_
     refine oNil ?_
     refine aReg ?_
     refine sp pM ?_
     refine sp pAd ?_
     refine sp pMa ?_
     refine oNil ?_
     refine aReg ?_
     refine sp pM ?_
     refine sp pAd ?_
     refine sp pMa ?_
     refine oNil ?_
     first
       | (refine ⟨(i + 1, i + 1, out ++ [(s.take i).drop b], _, _), ?_, by (try dsimp only); omega, ⟨gInt rfl (by first | rfl | omega | simp), gInt rfl (by first | rfl | omega | simp), gLen rfl (by first | rfl | simp | (simp; omega)), rfl, rfl, trivial⟩, _, (by repeat constructor)⟩
          first | exact cut_here hI hx ‹_› | exact cut_end hI (by omega))
       | (refine ⟨(i + 1, b, out, _, _), ?_, by (try dsimp only); omega, ⟨gInt rfl (by first | rfl | omega | simp), gInt rfl (by first | rfl | omega | simp), gLen rfl (by first | rfl | simp | (simp; omega)), rfl, rfl, trivial⟩, _, (by repeat constructor)⟩
          exact cut_on hI hx ‹_›)
    ·skip
     refine aSkip ?_
     refine aReg ?_
     refine sp pM ?_
     refine sp pAd ?_
     refine sp pMa ?_
     refine oNil ?_
     first
       | (refine ⟨(i + 1, i + 1, out ++ [(s.take i).drop b], _, _), ?_, by (try dsimp only); omega, ⟨gInt rfl (by first | rfl | omega | simp), gInt rfl (by first | rfl | omega | simp), gLen rfl (by first | rfl | simp | (simp; omega)), rfl, rfl, trivial⟩, _, (by repeat constructor)⟩
          first | exact cut_here hI hx ‹_› | exact cut_end hI (by omega))
       | (refine ⟨(i + 1, b, out, _, _), ?_, by (try dsimp only); omega, ⟨gInt rfl (by first | rfl | omega | simp), gInt rfl (by first | rfl | omega | simp), gLen rfl (by first | rfl | simp | (simp; omega)), rfl, rfl, trivial⟩, _, (by repeat constructor)⟩
          exact cut_on hI hx ‹_›)
  ·skip
   refine aExit rfl ?_
   refine aSeq ?_
   refine aReg ?_
   refine sp pM ?_
   refine sp pMa ?_
   refine oNil ?_
   refine aRet ?_
   refine finOwn rfl ?_
   have ho : out = cutC c s := hI.2.2.2 (by omega)
   rw [ho]
theorem ref31_Cut {s : SBs} {c : UInt8} (hs : s.length ≤ 100000) : Triple Tryd.prog 15 [strA s, .v (.int .u8 (c.toNat : Int))] [] (Is (.sl 1 ((cutC c s).map strC)) []) := (ref31_CutO (s := s) (c := c) hs).settle
end A
end Go.Proofs.YtgdfppjapnpcgaaDoor
namespace Go.Proofs.YtgdfppjapnpcgaaDoor
namespace A
theorem ik_5 : intKindOf Tryd.prog 5 = some .u8 := by kernel_rfl
theorem ik_74 : intKindOf Tryd.prog 74 = some .u64 := by kernel_rfl
open Go.Lib (itoa join)
open Go.Lib (decDigits)
def NumI (s : SBs) (i : Nat) (n : Int) : Prop := i ≤ s.length ∧ i ≤ 12 ∧ 0 ≤ n ∧ n < ((10 ^ i : Nat) : Int) ∧ numR s = numGo (12 - i) n (s.drop i)
theorem num_b {s : SBs} {i : Nat} {n : Int} (h : NumI s i n) : n ≤ 1000000000000 := by
 obtain ⟨_, h1, _, h2, _⟩ := h
 have : 10 ^ i ≤ 10 ^ 12 := Nat.pow_le_pow_right (by decide) h1
 have e : 10 ^ 12 = 1000000000000 := by decide
 omega
theorem num_0 {s : SBs} : NumI s 0 0 := ⟨by omega, by omega, by omega, by decide, rfl⟩
theorem num_on {s : SBs} {i : Nat} {n : Int} {x : UInt8} (h : NumI s i n) (hi : i < 12) (hx : s[i]? = some x) (h1 : ¬ (x.toNat : Int) < 48) (h2 : ¬ (x.toNat : Int) > 57) : NumI s (i + 1) (10 * n + ((x.toNat : Int) - 48)) := by
 obtain ⟨h0, _, hn, hb, hv⟩ := h
 have hl := (List.getElem?_eq_some_iff.1 hx).1
 refine ⟨by omega, by omega, by omega, by rw [Nat.pow_succ]; omega, ?_⟩
 rw [hv, drop_at hx, show 12 - i = (12 - (i + 1)) + 1 by omega]
 show (if _ then _ else _) = _
 rw [if_neg (by omega)]
theorem num_no {s : SBs} {i : Nat} {n : Int} {x : UInt8} (h : NumI s i n) (hi : i < 12) (hx : s[i]? = some x) (h1 : (x.toNat : Int) < 48 ∨ (x.toNat : Int) > 57) : numR s = -1 := by
 obtain ⟨h0, _, hn, hb, hv⟩ := h
 rw [hv, drop_at hx, show 12 - i = (12 - (i + 1)) + 1 by omega]
 show (if _ then _ else _) = _
 rw [if_pos (by omega)]
theorem num_end {s : SBs} {i : Nat} {n : Int} (h : NumI s i n) (hi : i = s.length ∨ i = 12) : numR s = n := by
 obtain ⟨h0, _, hn, hb, hv⟩ := h
 rw [hv]
 rcases hi with hi | hi
 ·rw [List.drop_of_length_le (by omega)]
  cases 12 - i <;> rfl
 ·rw [show 12 - i = 0 by omega]
  rfl
theorem dec_small {n : Nat} (h : n < 10) : decDigits n = [UInt8.ofNat (48 + n)] := by rw [decDigits, dif_pos h]
theorem dec_step {n : Nat} (h : ¬ n < 10) : decDigits n = decDigits (n / 10) ++ [UInt8.ofNat (48 + n % 10)] := by rw [decDigits, dif_neg h]
theorem dec_len {n : Nat} (h : n < 18446744073709551616) : (decDigits n).length ≤ 20 := by rw [Go.Lib.decDigits_length]; exact Go.Lib.nDigits_le20 n (by omega)
theorem itoa_nn {n : Int} (h : 0 ≤ n) : itoa n = decDigits n.toNat := by
 obtain ⟨u, rfl⟩ : ∃ u : Nat, n = u := ⟨n.toNat, by omega⟩
 rw [Go.Lib.itoa_nonneg]
 rfl
theorem lineW_eq {w : Wi} : lineW w = [119, 105, 114, 101, 32] ++ itoa w.a ++ [32] ++ itoa w.b ++ ([32] ++ howS w.u ++ [32]) ++ itoa w.ca ++ [32] ++ itoa w.cb := by
 unfold lineW wordsW spS
 simp [join, List.intercalate, List.intersperse]
theorem textP_0 {n s : Int} : textP n s [] = [110, 111, 100, 101, 115, 32] ++ itoa n ++ [10, 115, 101, 99, 116, 111, 114, 115, 32] ++ itoa s ++ [10] := by
 unfold textP linesP nlS
 simp [join, List.intercalate, List.intersperse]
theorem join_last : ∀ {xs : List SBs} {y sep : SBs}, xs ≠ [] → join (xs ++ [y]) sep = join xs sep ++ sep ++ y
 | [], _, _, h => absurd rfl h
 | [x], y, sep, _ => by simp [join, List.intercalate, List.intersperse]
 | x :: z :: t, y, sep, _ => by
   have ih := join_last (xs := z :: t) (y := y) (sep := sep) (by simp)
   have e : ∀ (a b : SBs) (r : List SBs), join (a :: b :: r) sep = a ++ sep ++ join (b :: r) sep := fun a b r => by simp [join, List.intercalate, List.intersperse]
   rw [List.cons_append, List.cons_append, e, e, ← List.cons_append, ih]
   simp
theorem textP_last {n s : Int} {l : List Wi} {w : Wi} : textP n s (l ++ [w]) = textP n s l ++ lineW w ++ [10] := by
 unfold textP
 have : linesP n s (l ++ [w]) = linesP n s l ++ [lineW w] := by unfold linesP; simp
 rw [this, join_last (by unfold linesP; simp)]
 simp [nlS]
theorem textP_len {n s : Int} : ∀ (k : Nat) (l : List Wi), l.length = k → 1 ≤ n → n ≤ 64 → 6 ≤ s → s ≤ 1024 → (∀ w ∈ l, WOk w) → (textP n s l).length ≤ 100 + l.length * 151
 | 0, l, hk, _, _, _, _, _ => by
   have i1 := itoa_len (n := n) (by omega) (by omega)
   have i2 := itoa_len (n := s) (by omega) (by omega)
   rw [List.eq_nil_of_length_eq_zero hk, textP_0]
   simp only [List.length_append, List.length_cons, List.length_nil]
   omega
 | k + 1, l, hk, h1, h2, h3, h4, hw => by
   obtain ⟨l', w, rfl⟩ : ∃ l' w, l = l' ++ [w] := ⟨l.dropLast, l.getLast (by intro e; rw [e] at hk; simp at hk), (List.dropLast_concat_getLast _).symm⟩
   have := textP_len k l' (by simpa using hk) h1 h2 h3 h4 (fun x hx => hw x (by simp [hx]))
   have hl := line_len (hw w (by simp))
   rw [textP_last]
   simp only [List.length_append, List.length_cons, List.length_nil]
   omega
theorem all_step {p : Wi → Bool} {l : List Wi} {i : Nat} {x : Wi} (h : l[i]? = some x) (hv : (l.take i).all p = true) (hp : p x = true) : (l.take (i + 1)).all p = true := by
 rw [take_step h, List.all_append, hv]
 simp [hp]
/- waymarkref50.number -/
set_option maxRecDepth 100000 in
set_option maxHeartbeats 400000 in
theorem ref50_number {s : SBs} (hs : s.length ≤ 100000) : Triple Tryd.prog 16 [strA s] [] (Is (.int (numR s)) []) := by
 refine triple_of Tryd.func16 rfl (by kernel_rfl) rfl (by simp) ?_
 refine aSeq ?_
 refine aReg ?_
 refine sp pMa ?_
 refine oNil ?_
 refine aSeq ?_
 refine aReg ?_
 refine sp pMa ?_
 refine oNil ?_
 refine aSeq ?_
 refine aSeq ?_
 refine aReg ?_
 refine sp pMa ?_
 refine oNil ?_
 refine aBlock ?_
 refine loopF (α := Nat × Int) (kept := [(0, _)]) (fun (i, n) => NumI s i n) (fun (i, n) => [(4, .int i), (3, .int n)]) (fun (i, n) => []) (fun (i, n) => 13 - i) (0, 0) ?_ ⟨gInt rfl (by first | rfl | omega | simp), gInt rfl (by first | rfl | omega | simp), rfl, trivial⟩ (by repeat constructor) ?_
 ·skip
  exact num_0
 ·rintro ⟨i, n⟩ hI
  have hI1 := hI.1
  have hI2 := hI.2.1
  refine aSeq ?_
  refine aSeq ?_
  refine aReg ?_
  refine sp pM ?_
  refine sp pM ?_
  refine sp (pLenStr Tryd.underlying9) ?_
  refine sp pB ?_
  refine sp pM ?_
  refine oSplitDec 9 rfl (fun c9 => ?_) (fun c9 => ?_)
  ·skip
   refine gp pM ?_
   refine gp pB ?_
   refine sp pK ?_
   refine oNil ?_
   refine aCondDec rfl (fun c12 => ?_) (fun c12 => ?_)
   ·skip
    refine aSkip ?_
    refine aSeq ?_
    refine aBlock ?_
    refine aSeq ?_
    refine aSeq ?_
    obtain ⟨x, hx⟩ : ∃ z, s[i]? = some z := ⟨_, List.getElem?_eq_getElem (by omega)⟩
    have hub : x.toNat < 256 := x.toNat_lt
    have hnb := num_b hI
    have hn0 := hI.2.2.1
    refine aReg ?_
    refine sp pM ?_
    refine sp pM ?_
    refine sp (pByte (c := x) (i := (i : Int)) Tryd.underlying9 ⟨by omega, by rw [Int.toNat_natCast]; exact hx⟩) ?_
    refine sp pB ?_
    refine sp pM ?_
    refine oSplitDec 19 rfl (fun c19 => ?_) (fun c19 => ?_)
    ·skip
     refine gf ?_
     refine gf ?_
     refine gf ?_
     refine gf ?_
     refine sp pK ?_
     refine oNil ?_
     refine aCondT rfl ?_
     refine aSeq ?_
     refine aReg ?_
     refine sp pMa ?_
     refine oNil ?_
     refine aRet ?_
     refine finIs rfl ?_
     rw [num_no hI (by omega) hx (by omega)]
     rfl
    ·skip
     refine gp pM ?_
     refine gp pM ?_
     refine gp (pByte (c := x) (i := (i : Int)) Tryd.underlying9 ⟨by omega, by rw [Int.toNat_natCast]; exact hx⟩) ?_
     refine gp pB ?_
     refine sp pK ?_
     refine oNil ?_
     refine aCondDec rfl (fun c24 => ?_) (fun c24 => ?_)
     ·skip
      refine aSeq ?_
      refine aReg ?_
      refine sp pMa ?_
      refine oNil ?_
      refine aRet ?_
      refine finIs rfl ?_
      rw [num_no hI (by omega) hx (by omega)]
      rfl
     ·skip
      refine aSkip ?_
      refine aReg ?_
      refine sp pM ?_
      refine sp pMu ?_
      refine sp pM ?_
      refine sp pM ?_
      refine sp (pByte (c := x) (i := (i : Int)) Tryd.underlying9 ⟨by omega, by rw [Int.toNat_natCast]; exact hx⟩) ?_
      refine sp (by first | exact pSuK | exact pB) ?_
      refine sp (by first | exact pCvK ik_5 ik_3 | exact pConv rfl rfl ik_5 ik_3 rfl) ?_
      refine sp pAd ?_
      refine sp pMa ?_
      refine oNil ?_
      refine aReg ?_
      refine sp pM ?_
      refine sp pAd ?_
      refine sp pMa ?_
      refine oNil ?_
      refine ⟨(i + 1, 10 * n + ((x.toNat : Int) - 48)), ?_, by (try dsimp only); omega, ⟨gInt rfl (by first | rfl | omega | simp), gInt rfl (by first | rfl | omega | simp), rfl, trivial⟩, _, (by repeat constructor)⟩
      exact num_on hI (by omega) hx (by omega) (by omega)
   ·skip
    refine aExit rfl ?_
    refine aSeq ?_
    refine aReg ?_
    refine sp pM ?_
    refine sp pMa ?_
    refine oNil ?_
    refine aRet ?_
    refine finIs rfl ?_
    rw [num_end hI (by omega)]
    rfl
  ·skip
   refine gf ?_
   refine gf ?_
   refine sp pK ?_
   refine oNil ?_
   refine aCondF rfl ?_
   refine aExit rfl ?_
   refine aSeq ?_
   refine aReg ?_
   refine sp pM ?_
   refine sp pMa ?_
   refine oNil ?_
   refine aRet ?_
   refine finIs rfl ?_
   rw [num_end hI (by omega)]
   rfl
theorem pQuoV {P : Program} {N : Nat} {env : Env} {o : Oper} {t t' : TypeId} {xo yo : Operand} {k : IntKind} {x y : Int} (z : Int) (h0 : y ≠ 0) (hz : k.wrap (x.tdiv y) = z) (ho : o.op = .binOp .quo t xo yo t' := by rfl) (hx : ev env xo = some (.v (.int k x)) := by rfl) (hy : ev env yo = some (.v (.int k y)) := by rfl) : APure P N o env (.v (.int k z)) := hz ▸ pQuo ho hx hy h0
theorem pRemV {P : Program} {N : Nat} {env : Env} {o : Oper} {t t' : TypeId} {xo yo : Operand} {k : IntKind} {x y : Int} (z : Int) (h0 : y ≠ 0) (hz : x.tmod y = z) (ho : o.op = .binOp .rem t xo yo t' := by rfl) (hx : ev env xo = some (.v (.int k x)) := by rfl) (hy : ev env yo = some (.v (.int k y)) := by rfl) : APure P N o env (.v (.int k z)) := hz ▸ pRem ho hx hy h0
theorem tdiv_nat (n : Nat) : ((n : Int).tdiv 10) = ((n / 10 : Nat) : Int) := by rw [Int.tdiv_eq_ediv_of_nonneg (by omega)]; omega
theorem tmod_nat (n : Nat) : ((n : Int).tmod 10) = ((n % 10 : Nat) : Int) := by rw [Int.tmod_eq_emod_of_nonneg (by omega)]; omega
/- waymarkref30.Long -/
def ref30_Long1_r4_T : Bool × List (List Nat × List Nat) := (true, [([], []), ([0], [0]), ([1], [1]), ([], []), ([], []), ([4], [4]), ([], []), ([6], [6]), ([7], [7]), ([3, 5, 8], [3, 5, 8]), ([2, 9], [2, 9]), ([10, 2, 0, 1, 2, 3, 4, 5, 6, 7, 8, 9, 10], [10])])
def ref30_Long1_r4_B : List Nat := [0, 1, 3, 0, 0, 16, 0, 64, 192, 504, 1023, 2047]
theorem ref30_Long1_r4_t : Go.Proofs.YtgdfppjapnpcgaaDoorW.PrintLast.rtab .any (Go.Proofs.YtgdfppjapnpcgaaDoorW.PrintLast.opsOf Tryd.f38 4) = ref30_Long1_r4_T := by kernel_rfl
theorem ref30_Long1_r4_b : Go.Proofs.YtgdfppjapnpcgaaDoorW.PrintLast.waitsOk ref30_Long1_r4_T.2 ref30_Long1_r4_B = true := by kernel_rfl
set_option maxRecDepth 100000 in
set_option maxHeartbeats 400000 in
theorem ref30_Long1 {n : Nat} (hn : n < 18446744073709551616) (ih : 10 ≤ n → Triple Tryd.prog 38 [.v (.int .u64 ((n / 10 : Nat) : Int))] [] (Is (strA (decDigits (n / 10))) [])) : Triple Tryd.prog 38 [.v (.int .u64 (n : Int))] [] (Is (strA (decDigits n)) []) := by
 refine triple_of Tryd.func38 rfl (by kernel_rfl) rfl (by simp) ?_
 refine aSeq ?_
 refine aReg ?_
 refine sp pMa ?_
 refine oNil ?_
 refine aSeq ?_
 refine aReg ?_
 refine sp pMa ?_
 refine oNil ?_
 refine aSeq ?_
 refine aSeq ?_
 refine aReg ?_
 refine sp pM ?_
 refine sp pB ?_
 refine oNil ?_
 refine aCondDec rfl (fun c5 => ?_) (fun c5 => ?_)
 ·skip
  refine aSeq ?_
  refine aReg ?_
  refine sp pM ?_
  refine sp pM ?_
  refine sp pM ?_
  refine sp (by first | exact pAdK | exact pB) ?_
  refine sp (pCut (a := [48, 49, 50, 51, 52, 53, 54, 55, 56, 57]) (i := ((n : Nat) : Int)) (j := ((n : Nat) : Int) + 1) Tryd.underlying9 (by omega) (by omega) (by simp only [List.length_cons, List.length_nil]; omega)) ?_
  refine sp pMa ?_
  refine oNil ?_
  refine aRet ?_
  refine finIs rfl ?_
  rw [dec_small (by omega)]
  show AV.v _ = AV.v _
  rw [show (((n : Nat) : Int) + 1).toNat = n + 1 by omega, Int.toNat_natCast, dig_at n (by omega)]
 ·skip
  refine aSkip ?_
  refine aSeq ?_
  have hdl := dec_len (n := n / 10) (by omega)
  have hmm : n % 10 < 10 := Nat.mod_lt _ (by decide)
  refine aDrawT ref30_Long1_r4_t ref30_Long1_r4_b [] 12 #[false, false, false, false, false, false, false, false, false, false, false, false] (by kernel_rfl) rfl rfl (fun HT => ?_)
  refine dp HT 0 rfl pM ?_
  refine dp HT 1 rfl (pQuoV (y := 10) ((n / 10 : Nat) : Int) (by decide) (by rw [tdiv_nat]; exact wrap_u64 (by omega) (by omega))) ?_
  refine dp HT 3 rfl pM ?_
  refine dp HT 4 rfl pM ?_
  refine dp HT 5 rfl (pRemV (y := 10) ((n % 10 : Nat) : Int) (by decide) (tmod_nat n)) ?_
  refine dp HT 6 rfl pM ?_
  refine dp HT 7 rfl (pRemV (y := 10) ((n % 10 : Nat) : Int) (by decide) (tmod_nat n)) ?_
  refine dp HT 8 rfl pAdK ?_
  refine dp HT 9 rfl (pCut (a := [48, 49, 50, 51, 52, 53, 54, 55, 56, 57]) (i := ((n % 10 : Nat) : Int)) (j := ((n % 10 : Nat) : Int) + 1) Tryd.underlying9 (by omega) (by omega) (by simp only [List.length_cons, List.length_nil]; omega)) ?_
  refine dGo ?_
  refine e1 HT 2 rfl ?_
  refine cv rfl rfl rfl (lents_refl _) ((ih (by omega))) ?_
  refine ef HT 10 rfl pCat ?_
  refine ePure (i := 11) #[true, true, true, true, true, true, true, true, true, true, true, true] rfl rfl rfl (HT.any (by kernel_rfl)) (by exact pMa) (by decide) ?_
  refine eE HT ?_
  clear HT
  refine aRet ?_
  refine finIs rfl ?_
  rw [dec_step (n := n) (by omega)]
  show AV.v _ = AV.v _
  rw [show (((n % 10 : Nat) : Int) + 1).toNat = n % 10 + 1 by omega, Int.toNat_natCast, dig_at (n % 10) (by omega)]
theorem ref30_Long (n : Nat) (hn : n < 18446744073709551616) : Triple Tryd.prog 38 [.v (.int .u64 ((n : Nat) : Int))] [] (Is (strA (decDigits (n))) []) := by
 induction n using Nat.strongRecOn with
 | _ n ih => exact ref30_Long1 hn (fun h => ih (n / 10) (by omega) (by omega))
theorem ref30_dead {a : List AV} (h : False) : Triple Tryd.prog 38 a [] (Is (strA []) []) := h.elim
/- waymarkref30.Digits -/
set_option maxRecDepth 100000 in
set_option maxHeartbeats 400000 in
theorem ref30_Digits {n : Int} (h0 : 0 ≤ n) (h1 : n ≤ 9223372036854775807) : Triple Tryd.prog 24 [.int n] [] (Is (strA (itoa n)) []) := by
 obtain ⟨u, rfl⟩ : ∃ u : Nat, n = u := ⟨n.toNat, by omega⟩
 refine triple_of Tryd.func24 rfl (by kernel_rfl) rfl (by simp) ?_
 refine aSeq ?_
 refine aReg ?_
 refine sp pMa ?_
 refine oNil ?_
 refine aSeq ?_
 refine aSeq ?_
 refine aReg ?_
 refine sp pM ?_
 refine sp pB ?_
 refine oNil ?_
 refine aCondDec rfl (fun c4 => ?_) (fun c4 => ?_)
 ·skip
  refine aSeq ?_
  refine aReg ?_
  refine sp pM ?_
  refine sp pAd ?_
  refine sp (pNeg rfl rfl) ?_
  refine sp (pCvK ik_3 ik_74 (hw := by exfalso; omega)) ?_
  refine sp (by first | exact pAdK | exact pB) ?_
  refine sq ?_
  refine cv rfl rfl rfl (lents_refl _) (ref30_dead (by omega)) ?_
  refine sp pCat ?_
  refine sp pMa ?_
  refine oNil ?_
  refine aRet ?_
  refine finIs rfl ?_
  exfalso; omega
 ·skip
  refine aSkip ?_
  refine aSeq ?_
  refine aReg ?_
  refine sp pM ?_
  refine sp (pCvK ik_3 ik_74 (hw := wrap_u64 (by omega) (by omega))) ?_
  refine sq ?_
  refine cv rfl rfl rfl (lents_refl _) ((ref30_Long u (by omega))) ?_
  refine sp pMa ?_
  refine oNil ?_
  refine aRet ?_
  refine finIs rfl ?_
  rw [itoa_nn (by omega)]
  rfl
/- waymarkref30.Wire -/
def ref30_Wire_r1_T : Bool × List (List Nat × List Nat) := (true, [([], []), ([0], [0]), ([1], [1]), ([2], [2]), ([3], [3]), ([], []), ([5], [5]), ([6, 2], [6]), ([4, 7], [4, 7]), ([8, 7, 0, 1, 2, 3, 4, 5, 6, 7, 8], [8])])
def ref30_Wire_r1_B : List Nat := [0, 1, 3, 7, 15, 0, 32, 103, 255, 511]
theorem ref30_Wire_r1_t : Go.Proofs.YtgdfppjapnpcgaaDoorW.PrintLast.rtab .any (Go.Proofs.YtgdfppjapnpcgaaDoorW.PrintLast.opsOf Tryd.f25 1) = ref30_Wire_r1_T := by kernel_rfl
theorem ref30_Wire_r1_b : Go.Proofs.YtgdfppjapnpcgaaDoorW.PrintLast.waitsOk ref30_Wire_r1_T.2 ref30_Wire_r1_B = true := by kernel_rfl
def ref30_Wire_r5_T : Bool × List (List Nat × List Nat) := (true, [([], []), ([], []), ([1], [1]), ([2], [2]), ([0, 3], [0, 3]), ([4], [4]), ([], []), ([6], [6]), ([7, 3], [7]), ([5, 8], [5, 8]), ([9, 8, 0, 1, 2, 3, 4, 5, 6, 7, 8, 9], [9])])
def ref30_Wire_r5_B : List Nat := [0, 0, 2, 6, 15, 31, 0, 64, 206, 511, 1023]
theorem ref30_Wire_r5_t : Go.Proofs.YtgdfppjapnpcgaaDoorW.PrintLast.rtab .any (Go.Proofs.YtgdfppjapnpcgaaDoorW.PrintLast.opsOf Tryd.f25 5) = ref30_Wire_r5_T := by kernel_rfl
theorem ref30_Wire_r5_b : Go.Proofs.YtgdfppjapnpcgaaDoorW.PrintLast.waitsOk ref30_Wire_r5_T.2 ref30_Wire_r5_B = true := by kernel_rfl
set_option maxRecDepth 100000 in
set_option maxHeartbeats 1000000 in
theorem ref30_Wire {w : Wi} (hw : WOk w) : Triple Tryd.prog 25 [.agg (wirC w)] [] (Is (strA (lineW w)) []) := by
 unfold WOk at hw
 have i1 := itoa_len (n := w.a) (by omega) (by omega)
 have i2 := itoa_len (n := w.b) (by omega) (by omega)
 have i3 := itoa_len (n := w.ca) (by omega) (by omega)
 have i4 := itoa_len (n := w.cb) (by omega) (by omega)
 refine triple_of Tryd.func25 rfl (by kernel_rfl) rfl (by simp) ?_
 refine aSeq ?_
 refine aReg ?_
 refine sq ?_
 refine qBox rfl rfl (by decide) rfl rfl (fun b1 => ?_)
 refine sp pMa ?_
 refine oNil ?_
 refine aSeq ?_
 refine aDrawT ref30_Wire_r1_t ref30_Wire_r1_b [] 10 #[false, false, false, false, false, false, false, false, false, false] (by kernel_rfl) rfl rfl (fun HT => ?_)
 refine dp HT 0 rfl (pFb fd_38_0) ?_
 refine dr HT 1 rfl (rB1 ty_3) ?_
 refine dp HT 5 rfl (pFb fd_38_1) ?_
 refine dr HT 6 rfl (rB1 ty_3) ?_
 refine dGo ?_
 refine e1 HT 2 rfl ?_
 refine cv rfl rfl rfl (lents_refl _) (ref30_Digits (n := w.a) (by omega) (by omega)) ?_
 refine ef HT 3 rfl pCat ?_
 refine ef HT 4 rfl pCat ?_
 refine e1 HT 7 rfl ?_
 refine cv rfl rfl rfl (lents_refl _) (ref30_Digits (n := w.b) (by omega) (by omega)) ?_
 refine ef HT 8 rfl pCat ?_
 refine ePure (i := 9) #[true, true, true, true, true, true, true, true, true, true] rfl rfl rfl (HT.any (by kernel_rfl)) (by exact pMa) (by decide) ?_
 refine eE HT ?_
 clear HT
 refine aSeq ?_
 refine aSeq ?_
 refine aReg ?_
 refine sp (pFb fd_38_2) ?_
 refine sr (rB1 ty_4) ?_
 refine oNil ?_
 refine aCond rfl (fun c14 => ?_) (fun c14 => ?_)
 ·skip
  refine aReg ?_
  refine sp pM ?_
  refine sp pCat ?_
  refine sp pMa ?_
  refine oNil ?_
  refine aSeq ?_
  refine aDrawT ref30_Wire_r5_t ref30_Wire_r5_b [] 11 #[false, false, false, false, false, false, false, false, false, false, false] (by kernel_rfl) rfl rfl (fun HT => ?_)
  refine dp HT 0 rfl pM ?_
  refine dp HT 1 rfl (pFb fd_38_3) ?_
  refine dr HT 2 rfl (rB1 ty_3) ?_
  refine dp HT 6 rfl (pFb fd_38_4) ?_
  refine dr HT 7 rfl (rB1 ty_3) ?_
  refine dGo ?_
  refine e1 HT 3 rfl ?_
  refine cv rfl rfl rfl (lents_refl _) (ref30_Digits (n := w.ca) (by omega) (by omega)) ?_
  refine ef HT 4 rfl pCat ?_
  refine ef HT 5 rfl pCat ?_
  refine e1 HT 8 rfl ?_
  refine cv rfl rfl rfl (lents_refl _) (ref30_Digits (n := w.cb) (by omega) (by omega)) ?_
  refine ef HT 9 rfl pCat ?_
  refine ePure (i := 10) #[true, true, true, true, true, true, true, true, true, true, true] rfl rfl rfl (HT.any (by kernel_rfl)) (by exact pMa) (by decide) ?_
  refine eE HT ?_
  clear HT
  refine aRet ?_
  refine finIs rfl ?_
  have hx : lineW w = _ := lineW_eq
  rw [hx]
  first | (rw [show howS w.u = [117, 112] by unfold howS; rw [if_pos (by simp_all)]]; simp; rfl) | (rw [show howS w.u = [100, 111, 119, 110] by unfold howS; rw [if_neg (by simp_all)]]; simp; rfl)
 ·skip
  refine aReg ?_
  refine sp pM ?_
  refine sp pCat ?_
  refine sp pMa ?_
  refine oNil ?_
  refine aSeq ?_
  refine aDrawT ref30_Wire_r5_t ref30_Wire_r5_b [] 11 #[false, false, false, false, false, false, false, false, false, false, false] (by kernel_rfl) rfl rfl (fun HT => ?_)
  refine dp HT 0 rfl pM ?_
  refine dp HT 1 rfl (pFb fd_38_3) ?_
  refine dr HT 2 rfl (rB1 ty_3) ?_
  refine dp HT 6 rfl (pFb fd_38_4) ?_
  refine dr HT 7 rfl (rB1 ty_3) ?_
  refine dGo ?_
  refine e1 HT 3 rfl ?_
  refine cv rfl rfl rfl (lents_refl _) (ref30_Digits (n := w.ca) (by omega) (by omega)) ?_
  refine ef HT 4 rfl pCat ?_
  refine ef HT 5 rfl pCat ?_
  refine e1 HT 8 rfl ?_
  refine cv rfl rfl rfl (lents_refl _) (ref30_Digits (n := w.cb) (by omega) (by omega)) ?_
  refine ef HT 9 rfl pCat ?_
  refine ePure (i := 10) #[true, true, true, true, true, true, true, true, true, true, true] rfl rfl rfl (HT.any (by kernel_rfl)) (by exact pMa) (by decide) ?_
  refine eE HT ?_
  clear HT
  refine aRet ?_
  refine finIs rfl ?_
  have hx : lineW w = _ := lineW_eq
  rw [hx]
  first | (rw [show howS w.u = [117, 112] by unfold howS; rw [if_pos (by simp_all)]]; simp; rfl) | (rw [show howS w.u = [100, 111, 119, 110] by unfold howS; rw [if_neg (by simp_all)]]; simp; rfl)
end A
end Go.Proofs.YtgdfppjapnpcgaaDoor
namespace Go.Proofs.YtgdfppjapnpcgaaDoor
namespace A
theorem eq_38 : eqType Tryd.prog 38 = some [(0, .i), (1, .i), (2, .b), (3, .i), (4, .i)] := by kernel_rfl
open Go.Lib (itoa join)
theorem may_all {n s : Int} {l : List Wi} (hv : (l.all fun w => decide (w.b ≤ n)) = true) : mayP n s l = (decide (1 ≤ n) && (decide (n ≤ 64) && (decide (6 ≤ s) && (decide (s ≤ 1024) && wiresB l)))) := by unfold mayP; rw [hv, Bool.and_true]
theorem may_not {n s : Int} {l : List Wi} {i : Nat} {x : Wi} (hx : l[i]? = some x) (h : x.b > n) : mayP n s l = false := by
 have : (l.all fun w => decide (w.b ≤ n)) = false := by
   rw [List.all_eq_false]
   exact ⟨x, List.mem_of_getElem? hx, by simp; omega⟩
 unfold mayP
 rw [this, Bool.and_false]
/- waymarkref50.May -/
set_option maxRecDepth 100000 in
set_option maxHeartbeats 1000000 in
theorem ref50_May {n s : Int} {l : List Wi} (hl : l.length ≤ 100000) : Triple Tryd.prog 9 [.int n, .int s, .sl 5 (l.map wirC)] [] (Is (.v (.bool (mayP n s l))) []) := by
 refine triple_of Tryd.func9 rfl (by kernel_rfl) rfl (by simp) ?_
 refine aSeq ?_
 refine aReg ?_
 refine sp pMa ?_
 refine oNil ?_
 refine aSeq ?_
 refine aSeq ?_
 refine aReg ?_
 refine sp pMa ?_
 refine oNil ?_
 refine aBlock ?_
 refine loopF (α := Nat) (kept := [(0, _), (1, _), (2, _)]) (fun i => i ≤ l.length ∧ ((l.take i).all fun w => decide (w.b ≤ n)) = true) (fun i => [(7, .int i)]) (fun i => []) (fun i => l.length - i) 0 ?_ ⟨gInt rfl (by first | rfl | omega | simp), rfl, rfl, rfl, trivial⟩ (by repeat constructor) ?_
 ·skip
  exact ⟨by omega, rfl⟩
 ·rintro i ⟨hi, hv⟩
  refine aSeq ?_
  refine aSeq ?_
  refine aReg ?_
  refine sp pM ?_
  refine sp pM ?_
  refine sp (by first | exact pLm sl_22 | exact pLs sl_22) ?_
  refine sp pB ?_
  refine oNil ?_
  refine aCondDec rfl (fun c11 => ?_) (fun c11 => ?_)
  ·skip
   refine aSkip ?_
   refine aSeq ?_
   refine aBlock ?_
   refine aSeq ?_
   obtain ⟨x, hx⟩ : ∃ z, l[i]? = some z := ⟨_, List.getElem?_eq_getElem (by omega)⟩
   refine aReg ?_
   refine sp pM ?_
   refine sp pM ?_
   first | refine sp (pIx es_22) ?_ | (refine obtSN 14 15 rfl rfl (by omega) (fun x16 hx16 => ?_); refine sp (pIs es_22 hx16) ?_) | (refine obtS 14 15 rfl rfl (by omega) (by omega) (fun x16 hx16 => ?_); refine sp (pIs es_22 hx16) ?_) | refine sp (pIo es_22) ?_
   refine sp (pFs fd_38_1) ?_
   refine sr (rS1 ty_3) ?_
   refine sp pM ?_
   refine sp pB ?_
   refine oNil ?_
   refine aCondDec rfl (fun c20 => ?_) (fun c20 => ?_)
   ·skip
    refine aSeq ?_
    refine aReg ?_
    refine sp pMa ?_
    refine oNil ?_
    refine aRet ?_
    refine finIs rfl ?_
    rw [may_not hx ‹_›]
    rfl
   ·skip
    refine aSkip ?_
    refine aReg ?_
    refine sp pM ?_
    refine sp pAd ?_
    refine sp pMa ?_
    refine oNil ?_
    refine ⟨i + 1, ?_, by (try dsimp only); omega, ⟨gInt rfl (by first | rfl | omega | simp), rfl, rfl, rfl, trivial⟩, _, (by repeat constructor)⟩
    exact ⟨by omega, all_step hx hv (by simp; omega)⟩
  ·skip
   refine aExit rfl ?_
   refine aSeq ?_
   refine aReg ?_
   refine sp pM ?_
   refine sp pB ?_
   refine sp pM ?_
   refine oSplitDec 23 rfl (fun c23 => ?_) (fun c23 => ?_)
   ·skip
    refine gp pM ?_
    refine gp pB ?_
    refine sp pK ?_
    refine sp pM ?_
    refine oSplitDec 27 rfl (fun c27 => ?_) (fun c27 => ?_)
    ·skip
     refine gp pM ?_
     refine gp pB ?_
     refine sp pK ?_
     refine sp pM ?_
     refine oSplitDec 31 rfl (fun c31 => ?_) (fun c31 => ?_)
     ·skip
      refine gp pM ?_
      refine gp pB ?_
      refine sp pK ?_
      refine sp pM ?_
      refine oSplitDec 35 rfl (fun c35 => ?_) (fun c35 => ?_)
      ·skip
       refine gp pM ?_
       refine ga ?_
       refine (cv rfl rfl rfl (lents_refl _) (ref27_May (l := l) (by omega)) ?_).op
       refine sp pK ?_
       refine sp pMa ?_
       refine oNil ?_
       refine aRet ?_
       refine finIs rfl ?_
       rw [take_all (by omega)] at hv
       rw [may_all hv]
       first
         | (rw [show decide (1 ≤ n) = false from decide_eq_false (by omega)]; rfl)
         | (rw [show decide (n ≤ 64) = false from decide_eq_false (by omega), Bool.false_and, Bool.and_false]; rfl)
         | (rw [show decide (6 ≤ s) = false from decide_eq_false (by omega), Bool.false_and, Bool.and_false, Bool.and_false]; rfl)
         | (rw [show decide (s ≤ 1024) = false from decide_eq_false (by omega), Bool.false_and, Bool.and_false, Bool.and_false, Bool.and_false]; rfl)
         | (rw [decide_eq_true (show 1 ≤ n by omega), decide_eq_true (show n ≤ 64 by omega), decide_eq_true (show 6 ≤ s by omega), decide_eq_true (show s ≤ 1024 by omega)]; rfl)
      ·skip
       refine gf ?_
       refine gf ?_
       refine sp pK ?_
       refine sp pMa ?_
       refine oNil ?_
       refine aRet ?_
       refine finIs rfl ?_
       rw [take_all (by omega)] at hv
       rw [may_all hv]
       first
         | (rw [show decide (1 ≤ n) = false from decide_eq_false (by omega)]; rfl)
         | (rw [show decide (n ≤ 64) = false from decide_eq_false (by omega), Bool.false_and, Bool.and_false]; rfl)
         | (rw [show decide (6 ≤ s) = false from decide_eq_false (by omega), Bool.false_and, Bool.and_false, Bool.and_false]; rfl)
         | (rw [show decide (s ≤ 1024) = false from decide_eq_false (by omega), Bool.false_and, Bool.and_false, Bool.and_false, Bool.and_false]; rfl)
         | (rw [decide_eq_true (show 1 ≤ n by omega), decide_eq_true (show n ≤ 64 by omega), decide_eq_true (show 6 ≤ s by omega), decide_eq_true (show s ≤ 1024 by omega)]; rfl)
     ·skip
      refine gf ?_
      refine gf ?_
      refine sp pK ?_
      refine sp pM ?_
      refine gf ?_
      refine gf ?_
      refine sp pK ?_
      refine sp pMa ?_
      refine oNil ?_
      refine aRet ?_
      refine finIs rfl ?_
      rw [take_all (by omega)] at hv
      rw [may_all hv]
      first
        | (rw [show decide (1 ≤ n) = false from decide_eq_false (by omega)]; rfl)
        | (rw [show decide (n ≤ 64) = false from decide_eq_false (by omega), Bool.false_and, Bool.and_false]; rfl)
        | (rw [show decide (6 ≤ s) = false from decide_eq_false (by omega), Bool.false_and, Bool.and_false, Bool.and_false]; rfl)
        | (rw [show decide (s ≤ 1024) = false from decide_eq_false (by omega), Bool.false_and, Bool.and_false, Bool.and_false, Bool.and_false]; rfl)
        | (rw [decide_eq_true (show 1 ≤ n by omega), decide_eq_true (show n ≤ 64 by omega), decide_eq_true (show 6 ≤ s by omega), decide_eq_true (show s ≤ 1024 by omega)]; rfl)
    ·skip
     refine gf ?_
     refine gf ?_
     refine sp pK ?_
     refine sp pM ?_
     refine gf ?_
     refine gf ?_
     refine sp pK ?_
     refine sp pM ?_
     refine gf ?_
     refine gf ?_
     refine sp pK ?_
     refine sp pMa ?_
     refine oNil ?_
     refine aRet ?_
     refine finIs rfl ?_
     rw [take_all (by omega)] at hv
     rw [may_all hv]
     first
       | (rw [show decide (1 ≤ n) = false from decide_eq_false (by omega)]; rfl)
       | (rw [show decide (n ≤ 64) = false from decide_eq_false (by omega), Bool.false_and, Bool.and_false]; rfl)
       | (rw [show decide (6 ≤ s) = false from decide_eq_false (by omega), Bool.false_and, Bool.and_false, Bool.and_false]; rfl)
       | (rw [show decide (s ≤ 1024) = false from decide_eq_false (by omega), Bool.false_and, Bool.and_false, Bool.and_false, Bool.and_false]; rfl)
       | (rw [decide_eq_true (show 1 ≤ n by omega), decide_eq_true (show n ≤ 64 by omega), decide_eq_true (show 6 ≤ s by omega), decide_eq_true (show s ≤ 1024 by omega)]; rfl)
   ·skip
    refine gf ?_
    refine gf ?_
    refine sp pK ?_
    refine sp pM ?_
    refine gf ?_
    refine gf ?_
    refine sp pK ?_
    refine sp pM ?_
    refine gf ?_
    refine gf ?_
    refine sp pK ?_
    refine sp pM ?_
    refine gf ?_
    refine gf ?_
    refine sp pK ?_
    refine sp pMa ?_
    refine oNil ?_
    refine aRet ?_
    refine finIs rfl ?_
    rw [take_all (by omega)] at hv
    rw [may_all hv]
    first
      | (rw [show decide (1 ≤ n) = false from decide_eq_false (by omega)]; rfl)
      | (rw [show decide (n ≤ 64) = false from decide_eq_false (by omega), Bool.false_and, Bool.and_false]; rfl)
      | (rw [show decide (6 ≤ s) = false from decide_eq_false (by omega), Bool.false_and, Bool.and_false, Bool.and_false]; rfl)
      | (rw [show decide (s ≤ 1024) = false from decide_eq_false (by omega), Bool.false_and, Bool.and_false, Bool.and_false, Bool.and_false]; rfl)
      | (rw [decide_eq_true (show 1 ≤ n by omega), decide_eq_true (show n ≤ 64 by omega), decide_eq_true (show 6 ≤ s by omega), decide_eq_true (show s ≤ 1024 by omega)]; rfl)
/- waymarkref50.Text -/
set_option maxRecDepth 100000 in
set_option maxHeartbeats 400000 in
theorem ref50_Text {n s : Int} {l : List Wi} (hl : l.length ≤ 100000) (hm : mayP n s l = true) : Triple Tryd.prog 10 [.int n, .int s, .sl 5 (l.map wirC)] [] (Is (strA (textP n s l)) []) := by
 obtain ⟨m1, m2, m3, m4, m5⟩ := may_bounds hm
 have i1 := itoa_len (n := n) (by omega) (by omega)
 have i2 := itoa_len (n := s) (by omega) (by omega)
 refine triple_of Tryd.func10 rfl (by kernel_rfl) rfl (by simp) ?_
 refine aSeq ?_
 refine aReg ?_
 refine sp pMa ?_
 refine oNil ?_
 refine aSeq ?_
 refine aReg ?_
 refine sp pM ?_
 refine sq ?_
 refine cv rfl rfl rfl (lents_refl _) (ref30_Digits (n := n) (by omega) (by omega)) ?_
 refine sp pCat ?_
 refine sp pCat ?_
 refine sp pM ?_
 refine sq ?_
 refine cv rfl rfl rfl (lents_refl _) (ref30_Digits (n := s) (by omega) (by omega)) ?_
 refine sp pCat ?_
 refine sp pCat ?_
 refine sp pMa ?_
 refine oNil ?_
 refine aSeq ?_
 refine aSeq ?_
 refine aReg ?_
 refine sp pMa ?_
 refine oNil ?_
 refine aBlock ?_
 refine loopF (α := Nat) (kept := [(2, _)]) (fun i => i ≤ l.length) (fun i => [(8, .int i), (7, strA (textP n s (l.take i)))]) (fun i => []) (fun i => l.length - i) 0 ?_ ⟨gInt rfl (by first | rfl | omega | simp), (by first | (rw [take_step hx, textP_last]; rfl) | (rw [List.take_zero, textP_0]; rfl)), rfl, trivial⟩ (by repeat constructor) ?_
 ·skip
  omega
 ·rintro i hi
  refine aSeq ?_
  refine aSeq ?_
  refine aReg ?_
  refine sp pM ?_
  refine sp pM ?_
  refine sp (by first | exact pLm sl_22 | exact pLs sl_22) ?_
  refine sp pB ?_
  refine oNil ?_
  refine aCondDec rfl (fun c20 => ?_) (fun c20 => ?_)
  ·skip
   refine aSkip ?_
   refine aSeq ?_
   refine aBlock ?_
   obtain ⟨x, hx⟩ : ∃ z, l[i]? = some z := ⟨_, List.getElem?_eq_getElem (by omega)⟩
   have hxw := m5 x (List.mem_of_getElem? hx)
   have hln := line_len hxw
   have htl := textP_len _ (l.take i) rfl m1 m2 m3 m4 (fun w hw => m5 w (List.mem_of_mem_take hw))
   rw [List.length_take] at htl
   refine aReg ?_
   refine sp pM ?_
   refine sp pM ?_
   refine sp pM ?_
   first | refine sp (pIx es_22) ?_ | (refine obtSN 24 25 rfl rfl (by omega) (fun x26 hx26 => ?_); refine sp (pIs es_22 hx26) ?_) | (refine obtS 24 25 rfl rfl (by omega) (by omega) (fun x26 hx26 => ?_); refine sp (pIs es_22 hx26) ?_) | refine sp (pIo es_22) ?_
   refine sr (by first | exact rSW ty_38 rfl | exact rSA ty_38) ?_
   refine sq ?_
   refine cv rfl rfl rfl (lents_refl _) (ref30_Wire (w := x) hxw) ?_
   refine sp pCat ?_
   refine sp pCat ?_
   refine sp pMa ?_
   refine oNil ?_
   refine aReg ?_
   refine sp pM ?_
   refine sp pAd ?_
   refine sp pMa ?_
   refine oNil ?_
   refine ⟨i + 1, ?_, by (try dsimp only); omega, ⟨gInt rfl (by first | rfl | omega | simp), (by first | (rw [take_step hx, textP_last]; rfl) | (rw [List.take_zero, textP_0]; rfl)), rfl, trivial⟩, _, (by repeat constructor)⟩
   omega
  ·skip
   refine aExit rfl ?_
   refine aSeq ?_
   refine aReg ?_
   refine sp pM ?_
   refine sp pMa ?_
   refine oNil ?_
   refine aRet ?_
   refine finIs rfl ?_
   rw [take_all (by omega)]
   rfl
/- waymarkref50.Same -/
def ref50_Same_r6_T : Bool × List (List Nat × List Nat) := (true, [([], []), ([], []), ([0, 1], [0, 1]), ([2], [2]), ([], []), ([], []), ([4, 5], [4, 5]), ([6], [6]), ([3, 7], [3, 7])])
def ref50_Same_r6_B : List Nat := [0, 0, 3, 7, 0, 0, 48, 112, 255]
theorem ref50_Same_r6_t : Go.Proofs.YtgdfppjapnpcgaaDoorW.PrintLast.rtab .any (Go.Proofs.YtgdfppjapnpcgaaDoorW.PrintLast.opsOf Tryd.f7 6) = ref50_Same_r6_T := by kernel_rfl
theorem ref50_Same_r6_b : Go.Proofs.YtgdfppjapnpcgaaDoorW.PrintLast.waitsOk ref50_Same_r6_T.2 ref50_Same_r6_B = true := by kernel_rfl
set_option maxRecDepth 100000 in
set_option maxHeartbeats 400000 in
theorem ref50_Same {a b : List Wi} (ha : a.length < 9223372036854775807 := by omega) (hb : b.length < 9223372036854775807 := by omega) : Triple Tryd.prog 7 [.sl 5 (a.map wirC), .sl 5 (b.map wirC)] [] (Is (.v (.bool (decide (a = b)))) []) := by
 refine triple_of Tryd.func7 rfl (by kernel_rfl) rfl (by simp) ?_
 refine aSeq ?_
 refine aReg ?_
 refine sp pMa ?_
 refine oNil ?_
 refine aSeq ?_
 refine aSeq ?_
 refine aReg ?_
 refine sp pM ?_
 refine sp (by first | exact pLm sl_22 | exact pLs sl_22) ?_
 refine sp pM ?_
 refine sp (by first | exact pLm sl_22 | exact pLs sl_22) ?_
 refine sp pB ?_
 refine oNil ?_
 refine aCondNe rfl (fun c10 => ?_) (fun c10 => ?_)
 ·skip
  refine aSeq ?_
  refine aReg ?_
  refine sp pMa ?_
  refine oNil ?_
  refine aRet ?_
  refine finIs rfl ?_
  rw [decide_eq_false (fun e => by subst e; simp at c10)]
  rfl
 ·skip
  refine aSkip ?_
  refine aSeq ?_
  refine aSeq ?_
  refine aReg ?_
  refine sp pMa ?_
  refine oNil ?_
  refine aBlock ?_
  refine loopF (α := Nat) (kept := [(0, _), (1, _)]) (fun i => i ≤ a.length ∧ a.length = b.length ∧ a.take i = b.take i) (fun i => [(5, .int i)]) (fun i => []) (fun i => a.length - i) 0 ?_ ⟨gInt rfl (by first | rfl | omega | simp), rfl, rfl, trivial⟩ (by repeat constructor) ?_
  ·skip
   exact ⟨by omega, by omega, rfl⟩
  ·rintro i ⟨hi, hl, hv⟩
   refine aSeq ?_
   refine aSeq ?_
   refine aReg ?_
   refine sp pM ?_
   refine sp pM ?_
   refine sp (by first | exact pLm sl_22 | exact pLs sl_22) ?_
   refine sp pB ?_
   refine oNil ?_
   refine aCondDec rfl (fun c14 => ?_) (fun c14 => ?_)
   ·skip
    refine aSkip ?_
    refine aSeq ?_
    refine aBlock ?_
    refine aSeq ?_
    refine aDrawT ref50_Same_r6_t ref50_Same_r6_b [] 9 #[false, false, false, false, false, false, false, false, false] (by kernel_rfl) rfl rfl (fun HT => ?_)
    refine dp HT 0 rfl pM ?_
    refine dp HT 1 rfl pM ?_
    first | refine dp HT 2 rfl (pIx es_22) ?_ | (refine obtDN 17 18 rfl rfl (by omega) (fun x19 hx19 => ?_); refine dp HT 2 rfl (pIs es_22 hx19) ?_) | (refine obtD 17 18 rfl rfl (by omega) (by omega) (fun x19 hx19 => ?_); refine dp HT 2 rfl (pIs es_22 hx19) ?_) | refine dp HT 2 rfl (pIo es_22) ?_
    refine dr HT 3 rfl (by first | exact rSW ty_38 rfl | exact rSA ty_38) ?_
    refine dp HT 4 rfl pM ?_
    refine dp HT 5 rfl pM ?_
    first | refine dp HT 6 rfl (pIx es_22) ?_ | (refine obtDN 21 22 rfl rfl (by omega) (fun x23 hx23 => ?_); refine dp HT 6 rfl (pIs es_22 hx23) ?_) | (refine obtD 21 22 rfl rfl (by omega) (by omega) (fun x23 hx23 => ?_); refine dp HT 6 rfl (pIs es_22 hx23) ?_) | refine dp HT 6 rfl (pIo es_22) ?_
    refine dr HT 7 rfl (by first | exact rSW ty_38 rfl | exact rSA ty_38) ?_
    refine dp HT 8 rfl (pEqAn eq_38) ?_
    refine dE HT ?_
    clear HT
    refine aCond rfl (fun c25 => ?_) (fun c25 => ?_)
    ·skip
     refine aSeq ?_
     refine aReg ?_
     refine sp pMa ?_
     refine oNil ?_
     refine aRet ?_
     refine finIs rfl ?_
     rw [decide_eq_false (fun e => by subst e; obtain rfl := Option.some.inj (hx19.symm.trans hx23); simp at c25)]
     rfl
    ·skip
     refine aSkip ?_
     refine aReg ?_
     refine sp pM ?_
     refine sp pAd ?_
     refine sp pMa ?_
     refine oNil ?_
     refine ⟨i + 1, ?_, by (try dsimp only); omega, ⟨gInt rfl (by first | rfl | omega | simp), rfl, rfl, trivial⟩, _, (by repeat constructor)⟩
     have hxy : x19 = x23 := by
       cases x19
       cases x23
       simp_all
     exact ⟨by omega, hl, by rw [take_step hx19, take_step hx23, hv, hxy]⟩
   ·skip
    refine aExit rfl ?_
    refine aSeq ?_
    refine aReg ?_
    refine sp pMa ?_
    refine oNil ?_
    refine aRet ?_
    refine finIs rfl ?_
    rw [take_all (by omega), take_all (by omega)] at hv
    rw [decide_eq_true hv]
    rfl
end A
end Go.Proofs.YtgdfppjapnpcgaaDoor
namespace Go.Proofs.YtgdfppjapnpcgaaDoor
namespace A
open Go.Lib (itoa join)
def wireR (line : SBs) : Option Wi := match cutC 32 line with | [_, a, b, u, c, d] => some ⟨numR a, numR b, decide (u = [117, 112]), numR c, numR d⟩ | _ => none
def wiresR : List SBs → Option (List Wi)
 | [] => some []
 | x :: t => match wireR x with | none => none | some w => (wiresR t).map (w :: ·)
def parseR (s : SBs) : Option (Int × Int × List Wi) :=
 match cutC 10 s with
 | x :: y :: r => if r.getLast? = some [] then (match cutC 32 x, cutC 32 y with
     | [_, a], [_, b] => (match wiresR r.dropLast with
       | none => none
       | some l => if mayP (numR a) (numR b) l = true ∧ textP (numR a) (numR b) l = s then some (numR a, numR b, l) else none)
     | _, _ => none) else none
 | _ => none
def parTR (s : SBs) : AV := match parseR s with
 | none => .tup [.int 0, .int 0, .sl 5 [], .v (.bool false)]
 | some p => .tup [.int p.1, .int p.2.1, .sl 5 (p.2.2.map wirC), .v (.bool true)]
theorem wireR_six {line a b u c d x : SBs} (h : cutC 32 line = [x, a, b, u, c, d]) : wireR line = some ⟨numR a, numR b, decide (u = [117, 112]), numR c, numR d⟩ := by unfold wireR; rw [h]
theorem wireR_no {line : SBs} (h : (cutC 32 line).length ≠ 6) : wireR line = none := by
 unfold wireR
 split
 ·rename_i h1; rw [h1] at h; exact absurd rfl h
 ·rfl
theorem wiresR_step {t : List SBs} {i : Nat} {x : SBs} (h : t[i]? = some x) : wiresR (t.drop i) = match wireR x with | none => none | some w => (wiresR (t.drop (i + 1))).map (w :: ·) := by
 rw [drop_step h]
 rfl
theorem parseR_few {s : SBs} (h : (cutC 10 s).length < 3) : parseR s = none := by
 unfold parseR
 split
 ·rename_i x y r h1
  rw [h1] at h
  have : r = [] := by
    cases r with
    | nil => rfl
    | cons z w => simp only [List.length_cons] at h; omega
  subst this
  rfl
 ·rfl
theorem parseR_tail {s z : SBs} (h : ¬ (cutC 10 s).length < 3) (hz : (cutC 10 s)[(((cutC 10 s).length : Int) - 1).toNat]? = some z) (hn : z ≠ []) : parseR s = none := by
 unfold parseR
 split
 ·rename_i x y r h1
  rw [h1] at h hz
  simp only [List.length_cons] at h
  have e : (((x :: y :: r).length : Int) - 1).toNat = r.length - 1 + 2 := by simp only [List.length_cons]; omega
  rw [e] at hz
  simp only [List.getElem?_cons_succ] at hz
  rw [if_neg]
  rw [List.getLast?_eq_getElem?, hz]
  exact fun e => hn (Option.some.inj e)
 ·rfl
theorem three_of {l : List SBs} {z : SBs} (h : ¬ l.length < 3) (hz : l[((l.length : Int) - 1).toNat]? = some z) (hn : z = []) : ∃ x y t, l = x :: y :: (t ++ [[]]) := by
 match l, h, hz with
 | [], h, _ => simp at h
 | [_], h, _ => simp at h
 | x :: y :: r, h, hz =>
   simp only [List.length_cons] at h
   have e : (((x :: y :: r).length : Int) - 1).toNat = r.length - 1 + 2 := by simp only [List.length_cons]; omega
   rw [e] at hz
   simp only [List.getElem?_cons_succ] at hz
   have hr : r ≠ [] := fun e => by subst e; simp at h
   have hl : r.getLast hr = [] := by
     have := List.getLast?_eq_getElem? (l := r)
     rw [hz, List.getLast?_eq_some_getLast hr] at this
     rw [Option.some.inj this, hn]
   exact ⟨x, y, r.dropLast, by rw [← hl, List.dropLast_concat_getLast]⟩
theorem parseR_of {s x y : SBs} {t : List SBs} (h : cutC 10 s = x :: y :: (t ++ [[]])) : parseR s = (match cutC 32 x, cutC 32 y with
     | [_, a], [_, b] => (match wiresR t with
       | none => none
       | some l => if mayP (numR a) (numR b) l = true ∧ textP (numR a) (numR b) l = s then some (numR a, numR b, l) else none)
     | _, _ => none) := by
 unfold parseR
 rw [h]
 simp only
 rw [if_pos (by simp), List.dropLast_concat]
theorem parseR_two {s x y : SBs} {t : List SBs} (h : cutC 10 s = x :: y :: (t ++ [[]])) (h2 : (cutC 32 x).length ≠ 2 ∨ (cutC 32 y).length ≠ 2) : parseR s = none := by
 rw [parseR_of h]
 split
 ·rename_i h3 h4
  rw [h3, h4] at h2
  simp at h2
 ·rfl
theorem parseR_is {s x y a b p q : SBs} {t : List SBs} (h : cutC 10 s = x :: y :: (t ++ [[]])) (hx : cutC 32 x = [p, a]) (hy : cutC 32 y = [q, b]) : parseR s = (match wiresR t with
       | none => none
       | some l => if mayP (numR a) (numR b) l = true ∧ textP (numR a) (numR b) l = s then some (numR a, numR b, l) else none) := by
 rw [parseR_of h, hx, hy]
theorem pair_of {l : List SBs} (h : l.length = 2) : ∃ x a, l = [x, a] := by
 match l, h with
 | [x, a], _ => exact ⟨x, a, rfl⟩
/- waymarkref50.Parse -/
def ref50_Parse_r4_T : Bool × List (List Nat × List Nat) := (true, [([], []), ([0], [0]), ([1], [1]), ([2], [2]), ([], []), ([4], [4]), ([5], [5]), ([6, 3], [6]), ([3, 7, 0, 1, 2, 3], [3]), ([7, 8, 0, 1, 2, 3, 4, 5, 6, 7, 8], [7])])
def ref50_Parse_r4_B : List Nat := [0, 1, 3, 7, 0, 16, 48, 127, 255, 511]
theorem ref50_Parse_r4_t : Go.Proofs.YtgdfppjapnpcgaaDoorW.PrintLast.rtab .any (Go.Proofs.YtgdfppjapnpcgaaDoorW.PrintLast.opsOf Tryd.f6 4) = ref50_Parse_r4_T := by kernel_rfl
theorem ref50_Parse_r4_b : Go.Proofs.YtgdfppjapnpcgaaDoorW.PrintLast.waitsOk ref50_Parse_r4_T.2 ref50_Parse_r4_B = true := by kernel_rfl
def ref50_Parse_r7_T : Bool × List (List Nat × List Nat) := (true, [([], []), ([0], [0]), ([1], [1]), ([2], [2]), ([], []), ([4], [4]), ([5], [5]), ([6, 3], [6]), ([3, 7, 0, 1, 2, 3], [3]), ([7, 8, 0, 1, 2, 3, 4, 5, 6, 7, 8], [7])])
def ref50_Parse_r7_B : List Nat := [0, 1, 3, 7, 0, 16, 48, 127, 255, 511]
theorem ref50_Parse_r7_t : Go.Proofs.YtgdfppjapnpcgaaDoorW.PrintLast.rtab .any (Go.Proofs.YtgdfppjapnpcgaaDoorW.PrintLast.opsOf Tryd.f6 7) = ref50_Parse_r7_T := by kernel_rfl
theorem ref50_Parse_r7_b : Go.Proofs.YtgdfppjapnpcgaaDoorW.PrintLast.waitsOk ref50_Parse_r7_T.2 ref50_Parse_r7_B = true := by kernel_rfl
def ref50_Parse_r15_T : Bool × List (List Nat × List Nat) := (true, [([], []), ([], []), ([1], [1]), ([2], [2]), ([3], [3]), ([], []), ([5], [5]), ([6], [6]), ([7, 4], [7]), ([], []), ([9], [9]), ([10], [10]), ([11], [11]), ([], []), ([13], [13]), ([14], [14]), ([15, 8], [15]), ([], []), ([17], [17]), ([18], [18]), ([19, 16], [19]), ([4, 8, 12, 16, 20], [4, 8, 12, 16, 20]), ([21], [21]), ([0, 22, 20], [0, 22]), ([23, 23, 0, 1, 2, 3, 4, 5, 6, 7, 8, 9, 10, 11, 12, 13, 14, 15, 16, 17, 18, 19, 20, 21, 22, 23], [0, 23])])
def ref50_Parse_r15_B : List Nat := [0, 0, 2, 6, 14, 0, 32, 96, 254, 0, 512, 1536, 3584, 0, 8192, 24576, 57854, 0, 131072, 393216, 1040894, 2097150, 4194302, 8388607, 16777215]
theorem ref50_Parse_r15_t : Go.Proofs.YtgdfppjapnpcgaaDoorW.PrintLast.rtab .any (Go.Proofs.YtgdfppjapnpcgaaDoorW.PrintLast.opsOf Tryd.f6 15) = ref50_Parse_r15_T := by kernel_rfl
theorem ref50_Parse_r15_b : Go.Proofs.YtgdfppjapnpcgaaDoorW.PrintLast.waitsOk ref50_Parse_r15_T.2 ref50_Parse_r15_B = true := by kernel_rfl
set_option maxRecDepth 100000 in
set_option maxHeartbeats 4000000 in
theorem ref50_Parse {s : SBs} (hs : s.length ≤ 90000) : Triple Tryd.prog 6 [strA s] [] (Is (parTR s) []) := by
 have hC := cut_len (c := 10) s
 refine triple_of Tryd.func6 rfl (by kernel_rfl) rfl (by simp) ?_
 refine aSeq ?_
 refine aReg ?_
 refine sp pMa ?_
 refine sp pMa ?_
 refine sp pMa ?_
 refine sp pMa ?_
 refine oNil ?_
 refine aSeq ?_
 refine aReg ?_
 refine sp pM ?_
 refine sq ?_
 refine ci rfl rfl rfl (ref31_Cut (s := s) (c := 10) (by omega)) ?_
 refine sp pMa ?_
 refine oNil ?_
 refine aSeq ?_
 refine aSeq ?_
 refine aReg ?_
 refine sp pM ?_
 refine sp (by first | exact pLm sl_39 | exact pLs sl_39 | exact pLv sl_39) ?_
 refine sp pB ?_
 refine sp pM ?_
 refine oSplitDec 19 rfl (fun c19 => ?_) (fun c19 => ?_)
 ·skip
  refine gf ?_
  refine gf ?_
  refine gf ?_
  refine gf ?_
  refine gf ?_
  refine gf ?_
  refine gf ?_
  refine sp pK ?_
  refine oNil ?_
  refine aCondT rfl ?_
  refine aSeq ?_
  refine aReg ?_
  refine sp pMa ?_
  refine sp pMa ?_
  refine sp pMa ?_
  refine sp pMa ?_
  refine oNil ?_
  have hP : parseR s = none := by
    first | exact parseR_few (by omega) | exact parseR_tail (by omega) hz (by intro e; simp_all)
  have hT : parTR s = .tup [.int 0, .int 0, .sl 5 [], .v (.bool false)] := by unfold parTR; rw [hP]
  rw [hT]
  refine aWeak (weak_cast (k := 4) (b := .sl 5 []) rfl cast_nil) ?_
  refine aRet ?_
  exact finIs rfl rfl
 ·skip
  obtain ⟨z, hz⟩ : ∃ z, (cutC 10 s)[(((cutC 10 s).length : Int) - 1).toNat]? = some z := ⟨_, List.getElem?_eq_getElem (by omega)⟩
  refine gp pM ?_
  refine gp pM ?_
  refine gp (by first | exact pLm sl_39 | exact pLs sl_39 | exact pLv sl_39) ?_
  refine gp pSu ?_
  first | refine gp (pIx es_39) ?_ | (refine obtSN 20 23 rfl rfl (by omega) (fun x24 hx24 => ?_); refine gp (pIs es_39 hx24) ?_) | (refine obtS 20 23 rfl rfl (by omega) (by omega) (fun x24 hx24 => ?_); refine gp (pIs es_39 hx24) ?_) | refine gp (pIo es_39) ?_
  refine gr (by first | exact rS1 ty_9 | exact rB1 ty_9 | exact rAr ty_9 | exact rArL ty_9 | exact rArR2 ty_9) ?_
  refine gp pNeStr ?_
  refine sp pK ?_
  refine oNil ?_
  refine aCond rfl (fun c27 => ?_) (fun c27 => ?_)
  ·skip
   refine aSeq ?_
   refine aReg ?_
   refine sp pMa ?_
   refine sp pMa ?_
   refine sp pMa ?_
   refine sp pMa ?_
   refine oNil ?_
   have hP : parseR s = none := by
     first | exact parseR_few (by omega) | exact parseR_tail (by omega) hz (by intro e; simp_all)
   have hT : parTR s = .tup [.int 0, .int 0, .sl 5 [], .v (.bool false)] := by unfold parTR; rw [hP]
   rw [hT]
   refine aWeak (weak_cast (k := 4) (b := .sl 5 []) rfl cast_nil) ?_
   refine aRet ?_
   exact finIs rfl rfl
  ·skip
   refine aSkip ?_
   refine aSeq ?_
   have hz0 : z = [] := by cases z <;> simp_all
   obtain ⟨x, y, t, hL⟩ := three_of (by omega) hz hz0
   have p1 := cut_part (c := 10) (s := s) (x := x) (by rw [hL]; simp)
   have p2 := cut_part (c := 10) (s := s) (x := y) (by rw [hL]; simp)
   have p3 : ∀ z ∈ t, z.length ≤ 90000 := fun z hz => by
     have := cut_part (c := 10) (s := s) (x := z) (by rw [hL]; simp [hz])
     omega
   have hxy : (x :: y :: (t ++ [[]])).length = t.length + 3 := by simp
   have htl : t.length ≤ 90001 := by rw [hL] at hC; omega
   rw [hL]
   refine aDrawT ref50_Parse_r4_t ref50_Parse_r4_b [] 10 #[false, false, false, false, false, false, false, false, false, false] (by kernel_rfl) rfl rfl (fun HT => ?_)
   refine dp HT 0 rfl pM ?_
   refine dp HT 1 rfl (pIdxS rfl rfl rfl es_39 (by decide) (rfl : _ = some (strC x))) ?_
   refine dr HT 2 rfl (by first | exact rS1 ty_9 | exact rB1 ty_9 | exact rAr ty_9 | exact rArL ty_9 | exact rArR2 ty_9) ?_
   refine dp HT 4 rfl pM ?_
   refine dp HT 5 rfl (pIdxS rfl rfl rfl es_39 (by decide) (rfl : _ = some (strC y))) ?_
   refine dr HT 6 rfl (by first | exact rS1 ty_9 | exact rB1 ty_9 | exact rAr ty_9 | exact rArL ty_9 | exact rArR2 ty_9) ?_
   refine dGo ?_
   refine e1 HT 3 rfl ?_
   refine ci rfl rfl rfl (ref31_Cut (s := x) (c := 32) (by omega)) ?_
   refine e1 HT 7 rfl ?_
   refine ci rfl rfl rfl (ref31_Cut (s := y) (c := 32) (by omega)) ?_
   refine ef HT 8 rfl pMa ?_
   refine ef HT 9 rfl pMa ?_
   refine eE HT ?_
   clear HT
   refine aSeq ?_
   refine aSeq ?_
   refine aReg ?_
   refine sp pM ?_
   refine sp (by first | exact pLm sl_39 | exact pLs sl_39 | exact pLv sl_39) ?_
   refine sp pB ?_
   refine sp pM ?_
   refine oSplitNe 39 rfl (fun c39 => ?_) (fun c39 => ?_)
   ·skip
    refine gf ?_
    refine gf ?_
    refine gf ?_
    refine sp pK ?_
    refine oNil ?_
    refine aCondT rfl ?_
    refine aSeq ?_
    refine aReg ?_
    refine sp pMa ?_
    refine sp pMa ?_
    refine sp pMa ?_
    refine sp pMa ?_
    refine oNil ?_
    have hP : parseR s = none := by
      exact parseR_two hL (by omega)
    have hT : parTR s = .tup [.int 0, .int 0, .sl 5 [], .v (.bool false)] := by unfold parTR; rw [hP]
    rw [hT]
    refine aWeak (weak_cast (k := 4) (b := .sl 5 []) rfl cast_nil) ?_
    refine aRet ?_
    exact finIs rfl rfl
   ·skip
    refine gp pM ?_
    refine gp (by first | exact pLm sl_39 | exact pLs sl_39 | exact pLv sl_39) ?_
    refine gp pB ?_
    refine sp pK ?_
    refine oNil ?_
    refine aCondNe rfl (fun c43 => ?_) (fun c43 => ?_)
    ·skip
     refine aSeq ?_
     refine aReg ?_
     refine sp pMa ?_
     refine sp pMa ?_
     refine sp pMa ?_
     refine sp pMa ?_
     refine oNil ?_
     have hP : parseR s = none := by
       exact parseR_two hL (by omega)
     have hT : parTR s = .tup [.int 0, .int 0, .sl 5 [], .v (.bool false)] := by unfold parTR; rw [hP]
     rw [hT]
     refine aWeak (weak_cast (k := 4) (b := .sl 5 []) rfl cast_nil) ?_
     refine aRet ?_
     exact finIs rfl rfl
    ·skip
     refine aSkip ?_
     refine aSeq ?_
     obtain ⟨px, a, hA⟩ := pair_of (l := cutC 32 x) (by omega)
     obtain ⟨py, b, hB⟩ := pair_of (l := cutC 32 y) (by omega)
     have hPA := parseR_is hL hA hB
     have p4 := cut_part (c := 32) (s := x) (x := a) (by rw [hA]; simp)
     have p5 := cut_part (c := 32) (s := y) (x := b) (by rw [hB]; simp)
     rw [hA, hB]
     refine aDrawT ref50_Parse_r7_t ref50_Parse_r7_b [] 10 #[false, false, false, false, false, false, false, false, false, false] (by kernel_rfl) rfl rfl (fun HT => ?_)
     refine dp HT 0 rfl pM ?_
     refine dp HT 1 rfl (pIdxS rfl rfl rfl es_39 (by decide) (rfl : _ = some (strC a))) ?_
     refine dr HT 2 rfl (by first | exact rS1 ty_9 | exact rB1 ty_9 | exact rAr ty_9 | exact rArL ty_9 | exact rArR2 ty_9) ?_
     refine dp HT 4 rfl pM ?_
     refine dp HT 5 rfl (pIdxS rfl rfl rfl es_39 (by decide) (rfl : _ = some (strC b))) ?_
     refine dr HT 6 rfl (by first | exact rS1 ty_9 | exact rB1 ty_9 | exact rAr ty_9 | exact rArL ty_9 | exact rArR2 ty_9) ?_
     refine dGo ?_
     refine e1 HT 3 rfl ?_
     refine cv rfl rfl rfl (lents_refl _) (ref50_number (s := a) (by omega)) ?_
     refine e1 HT 7 rfl ?_
     refine cv rfl rfl rfl (lents_refl _) (ref50_number (s := b) (by omega)) ?_
     refine ef HT 8 rfl pMa ?_
     refine ef HT 9 rfl pMa ?_
     refine eE HT ?_
     clear HT
     refine aSeq ?_
     refine aReg ?_
     refine sq ?_
     refine qLit (l := []) rfl rfl (by decide) us_22 ty_38 ze_38 rfl (by decide) (by decide) rfl rfl rfl (fun b52 => ?_)
     refine sp pMa ?_
     refine oNil ?_
     refine aSeq ?_
     refine aSeq ?_
     refine aReg ?_
     refine sp pMa ?_
     refine oNil ?_
     refine aBlock ?_
     refine loopF (α := Nat × List Wi × Option Nat × Nat) (kept := [(0, _), (6, _), (9, _), (10, _)]) (fun (i, out, g, c) => i ≤ t.length ∧ out.length = i ∧ wiresR t = (wiresR (t.drop i)).map (out ++ ·)) (fun (i, out, g, c) => [(12, .int (i + 2)), (11, .v (slV g out.length c))]) (fun (i, out, g, c) => [.sl g c 38 5 (out.map wirC)]) (fun (i, out, g, c) => t.length - i) (0, [], _, _) ?_ ⟨gInt rfl (by first | rfl | omega | simp), gLen rfl (by first | rfl | simp | (simp; omega)), rfl, rfl, rfl, rfl, trivial⟩ (by repeat constructor) ?_
     ·skip
      exact ⟨by omega, rfl, by simp⟩
     ·rintro ⟨i, out, g, c⟩ ⟨hi, hol, hv⟩
      refine aSeq ?_
      refine aSeq ?_
      refine aReg ?_
      refine sp pM ?_
      refine sp pM ?_
      refine sp (by first | exact pLm sl_39 | exact pLs sl_39 | exact pLv sl_39) ?_
      refine sp pSu ?_
      refine sp pB ?_
      refine oNil ?_
      refine aCondDec rfl (fun c57 => ?_) (fun c57 => ?_)
      ·skip
       refine aSkip ?_
       refine aSeq ?_
       refine aBlock ?_
       refine aSeq ?_
       obtain ⟨ln, hln⟩ : ∃ z, t[i]? = some z := ⟨_, List.getElem?_eq_getElem (by omega)⟩
       have hln2 : (x :: y :: (t ++ [[]]))[((i : Int) + 2).toNat]? = some ln := by rw [show ((i : Int) + 2).toNat = i + 2 by omega, List.getElem?_cons_succ, List.getElem?_cons_succ, List.getElem?_append_left (by omega)]; exact hln
       have hlnl := p3 ln (List.mem_of_getElem? hln)
       have hst := wiresR_step hln
       refine aReg ?_
       refine sp pM ?_
       refine sp pM ?_
       first | refine sp (pIx es_39) ?_ | (refine obtSN 60 61 rfl rfl (by omega) (fun x62 hx62 => ?_); refine sp (pIs es_39 hx62) ?_) | (refine obtS 60 61 rfl rfl (by omega) (by omega) (fun x62 hx62 => ?_); refine sp (pIs es_39 hx62) ?_) | refine sp (pIo es_39) ?_
       refine sr (by first | exact rS1 ty_9 | exact rB1 ty_9 | exact rAr ty_9 | exact rArL ty_9 | exact rArR2 ty_9) ?_
       refine sq ?_
       refine ci rfl rfl rfl (ref31_Cut (s := ln) (c := 32) (by omega)) ?_
       refine sp pMa ?_
       refine oNil ?_
       refine aSeq ?_
       refine aSeq ?_
       refine aReg ?_
       refine sp pM ?_
       refine sp (by first | exact pLm sl_39 | exact pLs sl_39 | exact pLv sl_39) ?_
       refine sp pB ?_
       refine oNil ?_
       refine aCondNe rfl (fun c67 => ?_) (fun c67 => ?_)
       ·skip
        refine aSeq ?_
        refine aReg ?_
        refine sp pMa ?_
        refine sp pMa ?_
        refine sp pMa ?_
        refine sp pMa ?_
        refine oNil ?_
        have hP : parseR s = none := by
          rw [hPA, hv, hst, wireR_no (by omega)]
          rfl
        have hT : parTR s = .tup [.int 0, .int 0, .sl 5 [], .v (.bool false)] := by unfold parTR; rw [hP]
        rw [hT]
        refine aWeak (weak_cast (k := 4) (b := .sl 5 []) rfl cast_nil) ?_
        refine aRet ?_
        exact finIs rfl rfl
       ·skip
        refine aSkip ?_
        obtain ⟨wx, wa, wb, wu, wc, wd, h6⟩ := split_six (l := cutC 32 ln) (by omega)
        have hW := wireR_six h6
        have pwa := cut_part (c := 32) (s := ln) (x := wa) (by rw [h6]; simp)
        have pwb := cut_part (c := 32) (s := ln) (x := wb) (by rw [h6]; simp)
        have pwc := cut_part (c := 32) (s := ln) (x := wc) (by rw [h6]; simp)
        have pwd := cut_part (c := 32) (s := ln) (x := wd) (by rw [h6]; simp)
        rw [h6]
        refine aDrawT ref50_Parse_r15_t ref50_Parse_r15_b [23] 25 #[false, false, false, false, false, false, false, false, false, false, false, false, false, false, false, false, false, false, false, false, false, false, false, false, false] (by kernel_rfl) rfl rfl (fun HT => ?_)
        refine dp HT 0 rfl pM ?_
        refine dp HT 1 rfl pM ?_
        refine dp HT 2 rfl (pIdxS rfl rfl rfl es_39 (by decide) (rfl : _ = some (strC wa))) ?_
        refine dr HT 3 rfl (by first | exact rS1 ty_9 | exact rB1 ty_9 | exact rAr ty_9 | exact rArL ty_9 | exact rArR2 ty_9) ?_
        refine dp HT 5 rfl pM ?_
        refine dp HT 6 rfl (pIdxS rfl rfl rfl es_39 (by decide) (rfl : _ = some (strC wb))) ?_
        refine dr HT 7 rfl (by first | exact rS1 ty_9 | exact rB1 ty_9 | exact rAr ty_9 | exact rArL ty_9 | exact rArR2 ty_9) ?_
        refine dp HT 9 rfl pM ?_
        refine dp HT 10 rfl (pIdxS rfl rfl rfl es_39 (by decide) (rfl : _ = some (strC wu))) ?_
        refine dr HT 11 rfl (by first | exact rS1 ty_9 | exact rB1 ty_9 | exact rAr ty_9 | exact rArL ty_9 | exact rArR2 ty_9) ?_
        refine dp HT 12 rfl pEqStr ?_
        refine dp HT 13 rfl pM ?_
        refine dp HT 14 rfl (pIdxS rfl rfl rfl es_39 (by decide) (rfl : _ = some (strC wc))) ?_
        refine dr HT 15 rfl (by first | exact rS1 ty_9 | exact rB1 ty_9 | exact rAr ty_9 | exact rArL ty_9 | exact rArR2 ty_9) ?_
        refine dp HT 17 rfl pM ?_
        refine dp HT 18 rfl (pIdxS rfl rfl rfl es_39 (by decide) (rfl : _ = some (strC wd))) ?_
        refine dr HT 19 rfl (by first | exact rS1 ty_9 | exact rB1 ty_9 | exact rAr ty_9 | exact rArL ty_9 | exact rArR2 ty_9) ?_
        refine dGo ?_
        refine e1 HT 4 rfl ?_
        refine cv rfl rfl rfl (lents_refl _) (ref50_number (s := wa) (by omega)) ?_
        refine e1 HT 8 rfl ?_
        refine cv rfl rfl rfl (lents_refl _) (ref50_number (s := wb) (by omega)) ?_
        refine e1 HT 16 rfl ?_
        refine cv rfl rfl rfl (lents_refl _) (ref50_number (s := wc) (by omega)) ?_
        refine e1 HT 20 rfl ?_
        refine cv rfl rfl rfl (lents_refl _) (ref50_number (s := wd) (by omega)) ?_
        refine ef HT 21 rfl (pBuild rfl st_38 ze_38 rfl rfl rfl rfl) ?_
        refine e1 HT 22 rfl ?_
        refine qLit (l := [_]) rfl rfl (by decide) us_22 ty_38 ze_38 rfl (by decide) (by decide) rfl rfl rfl (fun b90 => ?_)
        refine eLast ?_
        refine f1 HT 23 rfl ?_
        refine oAppT ([⟨numR wa, numR wb, decide (wu = [117, 112]), numR wc, numR wd⟩] : List Wi) rfl rfl (by repeat constructor) (srcOwn rfl (by repeat constructor) rfl) el_22 sl_22 (fun g91 k91 => ?_)
        refine fp HT 24 rfl pMa ?_
        refine fE HT ?_
        clear HT
        refine aReg ?_
        refine sp pM ?_
        refine sp pAd ?_
        refine sp pMa ?_
        refine oNil ?_
        refine ⟨(i + 1, _, _, _), ?_, by (try dsimp only); omega, ⟨gInt rfl (by first | rfl | omega | simp), gLen rfl (by first | rfl | simp | (simp; omega)), rfl, rfl, rfl, rfl, trivial⟩, _, (by repeat constructor)⟩
        refine ⟨by omega, by rw [List.length_append]; simp [hol], ?_⟩
        rw [hv, hst, hW]
        simp [Option.map_map, Function.comp_def]
      ·skip
       refine aExit rfl ?_
       refine aSeq ?_
       refine aSeq ?_
       obtain rfl : i = t.length := by omega
       have hWt : wiresR t = some out := by rw [hv, List.drop_of_length_le (by omega)]; simp [wiresR]
       rw [hWt] at hPA
       simp only at hPA
       refine aWeak (weak_settle (k := 11) rfl (by repeat constructor) (by first | rfl | (simp; done) | (simp; omega) | (simp_all; done))) ?_
       refine aReg ?_
       refine sp pM ?_
       refine sp pM ?_
       refine sp pM ?_
       refine sq ?_
       refine cv rfl rfl rfl (lents_refl _) (ref50_May (n := numR a) (s := numR b) (l := out) (by omega)) ?_
       refine sp pNo ?_
       refine sp pM ?_
       refine oSplitNot 97 rfl (fun c97 => ?_) (fun c97 => ?_)
       ·skip
        refine gf ?_
        refine gf ?_
        refine gf ?_
        refine gf ?_
        refine gf ?_
        refine gf ?_
        refine sp pK ?_
        refine oNil ?_
        refine aCondT rfl ?_
        refine aSeq ?_
        refine aReg ?_
        refine sp pMa ?_
        refine sp pMa ?_
        refine sp pMa ?_
        refine sp pMa ?_
        refine oNil ?_
        have hP : parseR s = none := by
          rw [hPA, if_neg]
          intro hh
          obtain ⟨h1, h2⟩ := hh
          simp_all
        have hT : parTR s = .tup [.int 0, .int 0, .sl 5 [], .v (.bool false)] := by unfold parTR; rw [hP]
        rw [hT]
        refine aWeak (weak_cast (k := 4) (b := .sl 5 []) rfl cast_nil) ?_
        refine aRet ?_
        exact finIs rfl rfl
       ·skip
        refine gp pM ?_
        refine gp pM ?_
        refine gp pM ?_
        refine ga ?_
        refine (cv rfl rfl rfl (lents_refl _) (ref50_Text (n := numR a) (s := numR b) (l := out) (by omega) (by cases hm : mayP (numR a) (numR b) out <;> simp_all)) ?_).op
        refine gp pM ?_
        refine gp pNeStr ?_
        refine sp pK ?_
        refine oNil ?_
        refine aCond rfl (fun c104 => ?_) (fun c104 => ?_)
        ·skip
         refine aSeq ?_
         refine aReg ?_
         refine sp pMa ?_
         refine sp pMa ?_
         refine sp pMa ?_
         refine sp pMa ?_
         refine oNil ?_
         have hP : parseR s = none := by
           rw [hPA, if_neg]
           intro hh
           obtain ⟨h1, h2⟩ := hh
           simp_all
         have hT : parTR s = .tup [.int 0, .int 0, .sl 5 [], .v (.bool false)] := by unfold parTR; rw [hP]
         rw [hT]
         refine aWeak (weak_cast (k := 4) (b := .sl 5 []) rfl cast_nil) ?_
         refine aRet ?_
         exact finIs rfl rfl
        ·skip
         refine aSkip ?_
         refine aSeq ?_
         refine aReg ?_
         refine sp pM ?_
         refine sp pM ?_
         refine sp pM ?_
         refine sp pMa ?_
         refine sp pMa ?_
         refine sp pMa ?_
         refine sp pMa ?_
         refine oNil ?_
         have hm : mayP (numR a) (numR b) out = true := by cases hm : mayP (numR a) (numR b) out <;> simp_all
         have ht : textP (numR a) (numR b) out = s := by simp_all
         have hP : parseR s = some (numR a, numR b, out) := by rw [hPA, if_pos ⟨hm, ht⟩]
         have hT : parTR s = .tup [.int (numR a), .int (numR b), .sl 5 (out.map wirC), .v (.bool true)] := by unfold parTR; rw [hP]
         rw [hT]
         refine aRet ?_
         exact finIs rfl rfl
end A
end Go.Proofs.YtgdfppjapnpcgaaDoor
namespace Go.Proofs.YtgdfppjapnpcgaaDoor
namespace A
open Go.Lib (itoa join decDigits)
/-! ### cuts -/
theorem cutC_none {c : UInt8} : ∀ {s : SBs}, (∀ x ∈ s, x ≠ c) → cutC c s = [s]
 | [], _ => rfl
 | x :: t, h => by
   rw [cutC, if_neg (h x (by simp)), cutC_none (s := t) (fun y hy => h y (by simp [hy]))]
theorem cutC_hit {c : UInt8} {t : SBs} : ∀ {p : SBs}, (∀ x ∈ p, x ≠ c) → cutC c (p ++ c :: t) = p :: cutC c t
 | [], _ => by rw [List.nil_append, cutC, if_pos rfl]
 | x :: p, h => by
   rw [List.cons_append, cutC, if_neg (h x (by simp)), cutC_hit (p := p) (fun y hy => h y (by simp [hy]))]
theorem cutC_join {c : UInt8} : ∀ {xs : List SBs}, xs ≠ [] → (∀ x ∈ xs, ∀ y ∈ x, y ≠ c) → cutC c (join xs [c]) = xs
 | [], h, _ => absurd rfl h
 | [x], _, h => by
   rw [show join [x] [c] = x by simp [join, List.intercalate, List.intersperse]]
   exact cutC_none (h x (by simp))
 | x :: y :: t, _, h => by
   have e : join (x :: y :: t) [c] = x ++ c :: join (y :: t) [c] := by simp [join, List.intercalate, List.intersperse]
   rw [e, cutC_hit (h x (by simp)), cutC_join (by simp) (fun z hz => h z (by simp [hz]))]
theorem splitS_k {s sep : SBs} : splitS s sep = Go.Lib.splitK sep 0 (Go.Lib.count s sep) s := by
 unfold splitS
 rw [Go.Lib.splitB_data]
theorem split_cut {c : UInt8} : ∀ (n : Nat) (s : SBs), s.length ≤ n → splitS s [c] = cutC c s := by
 intro n
 induction n with
 | zero =>
   intro s hs
   have : s = [] := List.length_eq_zero_iff.1 (by omega)
   subst this
   rfl
 | succ n ih =>
   intro s hs
   have hge := Go.Lib.index_ge s [c]
   by_cases h : Go.Lib.index s [c] = -1
   ·rw [splitS_k, Go.Lib.count_miss h]
    rw [Go.Lib.index_one] at h
    show [s] = _
    rw [cutC_none]
    intro x hx e
    obtain ⟨k, hk⟩ := List.getElem?_of_mem hx
    exact Go.Lib.indexByte_none h k (by rw [hk, e])
   ·obtain ⟨i, hi⟩ : ∃ i : Nat, Go.Lib.index s [c] = i := ⟨(Go.Lib.index s [c]).toNat, by omega⟩
    have hi2 := hi
    rw [Go.Lib.index_one] at hi2
    obtain ⟨h1, h2⟩ := Go.Lib.indexByte_some hi2
    have hl := (List.getElem?_eq_some_iff.1 h1).1
    rw [splitS_k, Go.Lib.count_hit (by simp) hi, Nat.add_comm]
    unfold Go.Lib.splitK
    rw [if_neg (by simp; omega), hi]
    have e : ((i : Int).toNat + 0) = i := by omega
    rw [e, Int.toNat_natCast]
    show s.take i :: Go.Lib.splitK [c] 0 (Go.Lib.count (s.drop (i + 1)) [c]) (s.drop (i + 1)) = _
    rw [← splitS_k, ih (s.drop (i + 1)) (by rw [List.length_drop]; omega)]
    conv => rhs; rw [← List.take_append_drop i s, drop_at h1]
    rw [cutC_hit]
    intro x hx e
    obtain ⟨k, hk⟩ := List.getElem?_of_mem hx
    have hki := (List.getElem?_eq_some_iff.1 hk).1
    rw [List.length_take] at hki
    rw [List.getElem?_take_of_lt (by omega)] at hk
    exact h2 k (by omega) (by rw [hk, e])
/-! ### numbers -/
def isDig (x : UInt8) : Prop := 48 ≤ x.toNat ∧ x.toNat ≤ 57
theorem dig_of {d : Nat} (h : d < 10) : (UInt8.ofNat (48 + d)).toNat = 48 + d := by
 rw [UInt8.toNat_ofNat']
 omega
theorem dec_dig (u : Nat) : ∀ x ∈ decDigits u, isDig x := by
 induction u using Nat.strongRecOn with
 | _ u ih =>
   intro x hx
   by_cases h : u < 10
   ·rw [dec_small h, List.mem_singleton] at hx
    subst hx
    unfold isDig
    rw [dig_of h]
    omega
   ·rw [dec_step h] at hx
    rcases List.mem_append.1 hx with hx | hx
    ·exact ih (u / 10) (by omega) x hx
    ·rw [List.mem_singleton] at hx
     subst hx
     unfold isDig
     rw [dig_of (Nat.mod_lt _ (by decide))]
     omega
theorem dec_ne (u : Nat) : decDigits u ≠ [] := by
 by_cases h : u < 10
 ·rw [dec_small h]; simp
 ·rw [dec_step h]; simp
theorem numGo_app : ∀ (l : SBs) (k : Nat) (n : Int) (d : UInt8), l.length < k → (∀ x ∈ l, isDig x) → isDig d → numGo k n (l ++ [d]) = 10 * numGo k n l + (d.toNat - 48)
 | [], k + 1, n, d, _, _, hd => by
   unfold isDig at hd
   show (if _ then _ else numGo k _ []) = _
   rw [if_neg (by omega)]
   have e : ∀ k n, numGo k n [] = n := fun k n => by cases k <;> rfl
   rw [e, e]
 | x :: l, k + 1, n, d, hk, hl, hd => by
   have hx := hl x (by simp)
   unfold isDig at hx
   rw [List.cons_append]
   show (if _ then _ else numGo k _ (l ++ [d])) = 10 * (if _ then _ else numGo k _ l) + _
   rw [if_neg (by omega), if_neg (by omega), numGo_app l k _ d (by simp only [List.length_cons] at hk; omega) (fun y hy => hl y (by simp [hy])) hd]
theorem num_dec (u : Nat) (h : (decDigits u).length ≤ 12) : numR (decDigits u) = u := by
 induction u using Nat.strongRecOn with
 | _ u ih =>
   by_cases hu : u < 10
   ·rw [dec_small hu]
    show (if _ then _ else _) = _
    rw [dig_of hu, if_neg (by omega)]
    show ((10 : Int) * 0 + (((48 + u : Nat) : Int) - 48)) = _
    omega
   ·rw [dec_step hu] at h ⊢
    rw [List.length_append] at h
    simp only [List.length_cons, List.length_nil] at h
    unfold numR
    rw [numGo_app _ _ _ _ (by omega) (dec_dig _) (by unfold isDig; rw [dig_of (Nat.mod_lt _ (by decide))]; omega)]
    have := ih (u / 10) (by omega) (by omega)
    unfold numR at this
    rw [this, dig_of (Nat.mod_lt _ (by decide))]
    omega
theorem par_app : ∀ (l : SBs) (a v : Nat) (d : UInt8), Go.Lib.parseUint10 a l = .ok v → isDig d → v < 1000000000000000000 → Go.Lib.parseUint10 a (l ++ [d]) = .ok (v * 10 + (d.toNat - 48))
 | [], a, v, d, h, hd, hv => by
   unfold isDig at hd
   have : a = v := by simpa [Go.Lib.parseUint10] using h
   subst this
   simp only [List.nil_append, Go.Lib.parseUint10]
   rw [if_pos (by omega), if_neg (by omega), if_neg (by omega)]
 | x :: l, a, v, d, h, hd, hv => by
   simp only [List.cons_append, Go.Lib.parseUint10] at h ⊢
   split at h
   ·split at h
    ·cases h
    ·split at h
     ·cases h
     ·rw [if_pos ‹_›, if_neg ‹_›, if_neg ‹_›]
      exact par_app l _ v d h hd hv
   ·cases h
theorem par_dec (u : Nat) (h : u < 1000000000000000000) : Go.Lib.parseUint10 0 (decDigits u) = .ok u := by
 induction u using Nat.strongRecOn with
 | _ u ih =>
   by_cases hu : u < 10
   ·rw [dec_small hu]
    simp only [Go.Lib.parseUint10]
    rw [dig_of hu, if_pos (by omega), if_neg (by omega), if_neg (by omega)]
    congr 1
    omega
   ·rw [dec_step hu, par_app _ _ _ _ (ih (u / 10) (by omega) (by omega)) (by unfold isDig; rw [dig_of (Nat.mod_lt _ (by decide))]; omega) (by omega), dig_of (Nat.mod_lt _ (by decide))]
    congr 1
    omega
theorem numA_itoa {n : Int} (h0 : 0 ≤ n) (h1 : n ≤ 100000000000) : numA (itoa n) = n := by
 rw [itoa_nn h0]
 unfold numA
 have hp := par_dec n.toNat (by omega)
 obtain ⟨c, r, hc⟩ : ∃ c r, decDigits n.toNat = c :: r := List.exists_cons_of_ne_nil (dec_ne _)
 have hd := dec_dig n.toNat c (by rw [hc]; simp)
 unfold isDig at hd
 rw [hc] at hp ⊢
 rw [Go.Lib.atoiAll_plain c r (by omega) (by omega)]
 unfold Go.Lib.parseMag
 rw [if_neg (by simp), hp]
 unfold Go.Lib.signless
 simp only
 rw [if_neg (by omega)]
 simp only
 omega
theorem dec_len12 {u : Nat} (h : u ≤ 100000000000) : (decDigits u).length ≤ 12 := by
 have key : ∀ (k u : Nat), u < 10 ^ (k + 1) → (decDigits u).length ≤ k + 1 := by
   intro k
   induction k with
   | zero => intro u hu; rw [dec_small (by simpa using hu)]; simp
   | succ k ih =>
     intro u hu
     by_cases h : u < 10
     ·rw [dec_small h]; simp
     ·rw [dec_step h, List.length_append]
      have := ih (u / 10) (by rw [Nat.pow_succ] at hu; omega)
      simp only [List.length_cons, List.length_nil]
      omega
 exact key 11 u (by omega)
theorem numR_itoa {n : Int} (h0 : 0 ≤ n) (h1 : n ≤ 100000000000) : numR (itoa n) = n := by
 rw [itoa_nn h0, num_dec _ (dec_len12 (by omega))]
 omega
theorem itoa_no {n : Int} (h0 : 0 ≤ n) (c : UInt8) (hc : c.toNat < 48) : ∀ x ∈ itoa n, x ≠ c := by
 rw [itoa_nn h0]
 intro x hx e
 have := dec_dig _ x hx
 unfold isDig at this
 rw [e] at this
 omega
/-! ### lines -/
theorem words_no {w : Wi} (h : WOk w) (c : UInt8) (hc : c.toNat < 48) : ∀ x ∈ wordsW w, ∀ y ∈ x, y ≠ c := by
 unfold WOk at h
 intro x hx
 unfold wordsW at hx
 simp only [List.mem_cons, List.not_mem_nil, or_false] at hx
 have hl : ∀ (l : SBs), (∀ z ∈ l, 48 ≤ z.toNat) → ∀ z ∈ l, z ≠ c := fun l hl z hz e => by have := hl z hz; rw [e] at this; omega
 rcases hx with rfl | rfl | rfl | rfl | rfl | rfl
 ·exact hl _ (by decide)
 ·exact itoa_no (by omega) c hc
 ·exact itoa_no (by omega) c hc
 ·unfold howS
  split
  ·exact hl _ (by decide)
  ·exact hl _ (by decide)
 ·exact itoa_no (by omega) c hc
 ·exact itoa_no (by omega) c hc
theorem cut_line {w : Wi} (h : WOk w) : cutC 32 (lineW w) = wordsW w := cutC_join (by unfold wordsW; simp) (words_no h 32 (by decide))
theorem how_eq {u : Bool} : decide (howS u = [117, 112]) = u := by cases u <;> decide
theorem wireA_line {w : Wi} (h : WOk w) : wireA (lineW w) = some w := by
 have e : splitS (lineW w) spS = [[119, 105, 114, 101], itoa w.a, itoa w.b, howS w.u, itoa w.ca, itoa w.cb] := by
   unfold spS
   rw [split_cut _ _ (Nat.le_refl _), cut_line h]
   rfl
 unfold WOk at h
 rw [wireA_six e, numA_itoa (by omega) (by omega), numA_itoa (by omega) (by omega), numA_itoa (by omega) (by omega), numA_itoa (by omega) (by omega), how_eq]
theorem wireR_line {w : Wi} (h : WOk w) : wireR (lineW w) = some w := by
 have e : cutC 32 (lineW w) = [[119, 105, 114, 101], itoa w.a, itoa w.b, howS w.u, itoa w.ca, itoa w.cb] := by
   rw [cut_line h]
   rfl
 unfold WOk at h
 rw [wireR_six e, numR_itoa (by omega) (by omega), numR_itoa (by omega) (by omega), numR_itoa (by omega) (by omega), numR_itoa (by omega) (by omega), how_eq]
theorem wiresA_lines : ∀ {l : List Wi}, (∀ w ∈ l, WOk w) → wiresA (l.map lineW) = some l
 | [], _ => rfl
 | w :: l, h => by
   rw [List.map_cons, wiresA, wireA_line (h w (by simp))]
   simp only
   rw [wiresA_lines (fun x hx => h x (by simp [hx]))]
   rfl
theorem wiresR_lines : ∀ {l : List Wi}, (∀ w ∈ l, WOk w) → wiresR (l.map lineW) = some l
 | [], _ => rfl
 | w :: l, h => by
   rw [List.map_cons, wiresR, wireR_line (h w (by simp))]
   simp only
   rw [wiresR_lines (fun x hx => h x (by simp [hx]))]
   rfl
theorem lit_no {l : SBs} {c : UInt8} (h : ∀ z ∈ l, c.toNat < z.toNat) : ∀ z ∈ l, z ≠ c := fun z hz e => by have := h z hz; rw [e] at this; omega
theorem lines_no {n s : Int} {l : List Wi} (h : mayP n s l = true) : ∀ x ∈ linesP n s l, ∀ y ∈ x, y ≠ 10 := by
 obtain ⟨h1, h2, h3, h4, h5⟩ := may_bounds h
 intro x hx
 unfold linesP at hx
 rcases List.mem_cons.1 hx with rfl | hx
 ·intro y hy
  rcases List.mem_append.1 hy with hy | hy
  ·exact lit_no (by decide) y hy
  ·exact itoa_no (by omega) 10 (by decide) y hy
 ·rcases List.mem_cons.1 hx with rfl | hx
  ·intro y hy
   rcases List.mem_append.1 hy with hy | hy
   ·exact lit_no (by decide) y hy
   ·exact itoa_no (by omega) 10 (by decide) y hy
  ·obtain ⟨w, hw, rfl⟩ := List.mem_map.1 hx
   rw [lineW_eq]
   have hw := h5 w hw
   unfold WOk at hw
   have i1 := itoa_no (n := w.a) (by omega) 10 (by decide)
   have i2 := itoa_no (n := w.b) (by omega) 10 (by decide)
   have i3 := itoa_no (n := w.ca) (by omega) 10 (by decide)
   have i4 := itoa_no (n := w.cb) (by omega) 10 (by decide)
   have i5 : ∀ y ∈ howS w.u, y ≠ 10 := by unfold howS; split <;> exact lit_no (by decide)
   have i6 : ∀ y ∈ ([119, 105, 114, 101, 32] : SBs), y ≠ 10 := lit_no (by decide)
   have i7 : ∀ y ∈ ([32] : SBs), y ≠ 10 := lit_no (by decide)
   intro y hy
   simp only [List.mem_append] at hy
   rcases hy with ((((((hy | hy) | hy) | hy) | ((hy | hy) | hy)) | hy) | hy) | hy
   ·exact i6 y hy
   ·exact i1 y hy
   ·exact i7 y hy
   ·exact i2 y hy
   ·exact i7 y hy
   ·exact i5 y hy
   ·exact i7 y hy
   ·exact i3 y hy
   ·exact i7 y hy
   ·exact i4 y hy
theorem lines_ne {n s : Int} {l : List Wi} : linesP n s l ≠ [] := by unfold linesP; simp
theorem trim_text {n s : Int} {l : List Wi} : Go.Lib.trimSuffix (textP n s l) nlS = join (linesP n s l) nlS := by
 unfold textP Go.Lib.trimSuffix
 rw [if_pos (by unfold Go.Lib.hasSuffix; rw [List.isSuffixOf_iff_suffix]; exact ⟨_, rfl⟩), List.length_append]
 simp
theorem oneA_word {p : SBs} {n : Int} (h0 : 0 ≤ n) (h1 : n ≤ 100000000000) : oneA (p ++ spS ++ itoa n) p = n := by
 unfold oneA
 have hp : Go.Lib.hasPrefix (p ++ spS ++ itoa n) (p ++ spS) = true := by
   unfold Go.Lib.hasPrefix
   rw [List.isPrefixOf_iff_prefix]
   exact ⟨_, rfl⟩
 rw [if_pos hp]
 unfold Go.Lib.trimPrefix
 rw [if_pos hp, List.drop_left, numA_itoa h0 h1]
theorem parseA_text {n s : Int} {l : List Wi} (h : mayP n s l = true) : parseA (textP n s l) = some (n, s, l) := by
 obtain ⟨h1, h2, h3, h4, h5⟩ := may_bounds h
 have e : splitS (Go.Lib.trimSuffix (textP n s l) nlS) nlS = ([110, 111, 100, 101, 115, 32] ++ itoa n) :: ([115, 101, 99, 116, 111, 114, 115, 32] ++ itoa s) :: l.map lineW := by
   rw [trim_text]
   unfold nlS
   rw [split_cut _ _ (Nat.le_refl _), cutC_join lines_ne (lines_no h)]
   rfl
 have e1 : oneA ([110, 111, 100, 101, 115, 32] ++ itoa n) [110, 111, 100, 101, 115] = n := oneA_word (p := [110, 111, 100, 101, 115]) (by omega) (by omega)
 have e2 : oneA ([115, 101, 99, 116, 111, 114, 115, 32] ++ itoa s) [115, 101, 99, 116, 111, 114, 115] = s := oneA_word (p := [115, 101, 99, 116, 111, 114, 115]) (by omega) (by omega)
 rw [parseA_of e, wiresA_lines h5]
 simp only
 rw [e1, e2, if_pos ⟨h, rfl⟩]
theorem parseR_text {n s : Int} {l : List Wi} (h : mayP n s l = true) : parseR (textP n s l) = some (n, s, l) := by
 obtain ⟨h1, h2, h3, h4, h5⟩ := may_bounds h
 have e : cutC 10 (textP n s l) = ([110, 111, 100, 101, 115, 32] ++ itoa n) :: ([115, 101, 99, 116, 111, 114, 115, 32] ++ itoa s) :: (l.map lineW ++ [[]]) := by
   have : textP n s l = join (linesP n s l ++ [[]]) [10] := by rw [join_last lines_ne]; unfold textP nlS; simp
   rw [this, cutC_join (by simp) (fun x hx => by
     rcases List.mem_append.1 hx with hx | hx
     ·exact lines_no h x hx
     ·rw [List.mem_singleton.1 hx]; simp)]
   rfl
 have c1 : cutC 32 ([110, 111, 100, 101, 115, 32] ++ itoa n) = [[110, 111, 100, 101, 115], itoa n] := by
   have := cutC_hit (c := 32) (p := [110, 111, 100, 101, 115]) (t := itoa n) (by decide)
   rw [cutC_none (itoa_no (by omega) 32 (by decide))] at this
   exact this
 have c2 : cutC 32 ([115, 101, 99, 116, 111, 114, 115, 32] ++ itoa s) = [[115, 101, 99, 116, 111, 114, 115], itoa s] := by
   have := cutC_hit (c := 32) (p := [115, 101, 99, 116, 111, 114, 115]) (t := itoa s) (by decide)
   rw [cutC_none (itoa_no (by omega) 32 (by decide))] at this
   exact this
 rw [parseR_is e c1 c2, wiresR_lines h5]
 simp only
 rw [numR_itoa (by omega) (by omega), numR_itoa (by omega) (by omega), if_pos ⟨h, rfl⟩]
theorem parseA_some {s : SBs} {p : Int × Int × List Wi} (h : parseA s = some p) : mayP p.1 p.2.1 p.2.2 = true ∧ s = textP p.1 p.2.1 p.2.2 := by
 unfold parseA at h
 split at h
 ·split at h
  ·cases h
  ·split at h
   ·rename_i hh
    cases h
    exact ⟨hh.1, hh.2.symm⟩
   ·cases h
 ·cases h
theorem parseR_some {s : SBs} {p : Int × Int × List Wi} (h : parseR s = some p) : mayP p.1 p.2.1 p.2.2 = true ∧ s = textP p.1 p.2.1 p.2.2 := by
 unfold parseR at h
 split at h
 ·split at h
  ·split at h
   ·split at h
    ·cases h
    ·split at h
     ·rename_i hh
      cases h
      exact ⟨hh.1, hh.2.symm⟩
     ·cases h
   ·cases h
  ·cases h
 ·cases h
/-- Both read every text alike. -/
theorem parse_eq (s : SBs) : parseA s = parseR s := by
 cases ha : parseA s with
 | some p =>
   obtain ⟨h1, h2⟩ := parseA_some ha
   rw [h2, parseR_text h1]
 | none =>
   cases hr : parseR s with
   | none => rfl
   | some p =>
     obtain ⟨h1, h2⟩ := parseR_some hr
     rw [h2, parseA_text h1] at ha
     cases ha
theorem itoa_d {d : Nat} (h : d < 10) : itoa (d : Int) = [UInt8.ofNat (48 + d)] := by rw [itoa_nn (by omega), Int.toNat_natCast, dec_small h]
/-- The text that law 50 is awake by. -/
theorem text_awake : textP 2 60 [⟨1, 2, true, 3, 4⟩] = [110, 111, 100, 101, 115, 32, 50, 10, 115, 101, 99, 116, 111, 114, 115, 32, 54, 48, 10, 119, 105, 114, 101, 32, 49, 32, 50, 32, 117, 112, 32, 51, 32, 52, 10] := by
 have e1 : itoa 1 = [49] := itoa_d (d := 1) (by decide)
 have e2 : itoa 2 = [50] := itoa_d (d := 2) (by decide)
 have e3 : itoa 3 = [51] := itoa_d (d := 3) (by decide)
 have e4 : itoa 4 = [52] := itoa_d (d := 4) (by decide)
 have e6 : itoa 60 = [54, 48] := by
   rw [itoa_nn (by omega), show (60 : Int).toNat = 60 from rfl, dec_step (by decide), dec_small (by decide)]
   decide
 have := textP_last (n := 2) (s := 60) (l := []) (w := ⟨1, 2, true, 3, 4⟩)
 rw [List.nil_append] at this
 rw [this, textP_0, lineW_eq]
 simp only [e1, e2, e3, e4, e6]
 decide
theorem parse_awake : parseA [110, 111, 100, 101, 115, 32, 50, 10, 115, 101, 99, 116, 111, 114, 115, 32, 54, 48, 10, 119, 105, 114, 101, 32, 49, 32, 50, 32, 117, 112, 32, 51, 32, 52, 10] = some (2, 60, [⟨1, 2, true, 3, 4⟩]) := by
 rw [← text_awake]
 exact parseA_text (by decide)
end A
end Go.Proofs.YtgdfppjapnpcgaaDoor
namespace Go.Proofs.YtgdfppjapnpcgaaDoor
namespace A
theorem bo_4 : isBoolT Tryd.prog 4 = true := by kernel_rfl
theorem fd_24_0 : fieldOf Tryd.prog 24 0 = some (0, 1, false) := by kernel_rfl
theorem fd_24_1 : fieldOf Tryd.prog 24 1 = some (1, 1, false) := by kernel_rfl
theorem fd_24_2 : fieldOf Tryd.prog 24 2 = some (2, 1, false) := by kernel_rfl
theorem ty_22 : tyOf Tryd.prog 22 = some (1, false) := by kernel_rfl
open Go.Lib (itoa join)
abbrev PA := Option (Int × Int × List Wi)
def pn (p : PA) : Int := match p with | none => 0 | some x => x.1
def pm (p : PA) : Int := match p with | none => 0 | some x => x.2.1
def pl (p : PA) : List Wi := match p with | none => [] | some x => x.2.2
def pe (b : Bool) : Int := if b then 0 else 2
theorem parT_eq (s : SBs) : parT s = .tup [.int (pn (parseA s)), .int (pm (parseA s)), .sl 5 ((pl (parseA s)).map wirC), .int (pe (parseA s).isSome)] := by
 unfold parT
 cases parseA s <;> rfl
theorem parTR_eq (s : SBs) : parTR s = .tup [.int (pn (parseA s)), .int (pm (parseA s)), .sl 5 ((pl (parseA s)).map wirC), .v (.bool (parseA s).isSome)] := by
 unfold parTR
 rw [← parse_eq]
 cases parseA s <;> rfl
theorem conf_Parse_e {s : SBs} (G : Gl) (hs : s.length ≤ 90000) : Triple Tryd.prog 5 [strA s] [.know 0 (.cells #[.int .i64 G.m] G.tm G.zm), .know 1 (powO G.tp G.zp), .know 4 (.cells #[G.es] G.ts G.zs), .know 5 (.cells #[G.er] G.tr G.zr)] (Is (.tup [.int (pn (parseA s)), .int (pm (parseA s)), .sl 5 ((pl (parseA s)).map wirC), .int (pe (parseA s).isSome)]) [.know 0 (.cells #[.int .i64 G.m] G.tm G.zm), .know 1 (powO G.tp G.zp), .know 4 (.cells #[G.es] G.ts G.zs), .know 5 (.cells #[G.er] G.tr G.zr)]) := parT_eq s ▸ conf_Parse G hs
theorem ref50_Parse_e {s : SBs} (hs : s.length ≤ 90000) : Triple Tryd.prog 6 [strA s] [] (Is (.tup [.int (pn (parseA s)), .int (pm (parseA s)), .sl 5 ((pl (parseA s)).map wirC), .v (.bool (parseA s).isSome)]) []) := parTR_eq s ▸ ref50_Parse hs
def wAw : List Wi := [⟨1, 2, true, 3, 4⟩]
theorem conf_Parse_aw (G : Gl) : Triple Tryd.prog 5 [strA [110, 111, 100, 101, 115, 32, 50, 10, 115, 101, 99, 116, 111, 114, 115, 32, 54, 48, 10, 119, 105, 114, 101, 32, 49, 32, 50, 32, 117, 112, 32, 51, 32, 52, 10]] [.know 0 (.cells #[.int .i64 G.m] G.tm G.zm), .know 1 (powO G.tp G.zp), .know 4 (.cells #[G.es] G.ts G.zs), .know 5 (.cells #[G.er] G.tr G.zr)] (Is (.tup [.int 2, .int 60, .sl 5 (wAw.map wirC), .int 0]) [.know 0 (.cells #[.int .i64 G.m] G.tm G.zm), .know 1 (powO G.tp G.zp), .know 4 (.cells #[G.es] G.ts G.zs), .know 5 (.cells #[G.er] G.tr G.zr)]) := by
 have h := conf_Parse (s := [110, 111, 100, 101, 115, 32, 50, 10, 115, 101, 99, 116, 111, 114, 115, 32, 54, 48, 10, 119, 105, 114, 101, 32, 49, 32, 50, 32, 117, 112, 32, 51, 32, 52, 10]) G (by decide)
 have e : parT [110, 111, 100, 101, 115, 32, 50, 10, 115, 101, 99, 116, 111, 114, 115, 32, 54, 48, 10, 119, 105, 114, 101, 32, 49, 32, 50, 32, 117, 112, 32, 51, 32, 52, 10] = .tup [.int 2, .int 60, .sl 5 (wAw.map wirC), .int 0] := by
   unfold parT
   rw [parse_awake]
   rfl
 rw [e] at h
 exact h
theorem wAw_at : wAw[(0 : Int).toNat]? = some ⟨1, 2, true, 3, 4⟩ := rfl
theorem pl_len {s : SBs} (hs : s.length ≤ 90000) : (pl (parseA s)).length ≤ 90000 := by
 cases h : parseA s with
 | none => simp [pl]
 | some p =>
   obtain ⟨hm, ht⟩ := parseA_some h
   have : p.2.2.length ≤ s.length := by
     rw [ht]
     have key : ∀ (k : Nat) (l : List Wi), l.length = k → k ≤ (textP p.1 p.2.1 l).length := by
       intro k
       induction k with
       | zero => intro l _; omega
       | succ k ih =>
         intro l hl
         obtain ⟨l', w, rfl⟩ : ∃ l' w, l = l' ++ [w] := ⟨l.dropLast, l.getLast (by intro e; rw [e] at hl; simp at hl), (List.dropLast_concat_getLast _).symm⟩
         have := ih l' (by simpa using hl)
         rw [textP_last]
         simp only [List.length_append, List.length_cons, List.length_nil]
         omega
     exact key _ _ rfl
   show p.2.2.length ≤ _
   omega
/- waymarklaw50.awake -/
set_option maxRecDepth 100000 in
set_option maxHeartbeats 400000 in
theorem law50_awake (G : Gl) : Triple Tryd.prog 4 [] [.know 0 (.cells #[.int .i64 G.m] G.tm G.zm), .know 1 (powO G.tp G.zp), .know 4 (.cells #[G.es] G.ts G.zs), .know 5 (.cells #[G.er] G.tr G.zr)] (Is (.v (.bool true)) [.know 0 (.cells #[.int .i64 G.m] G.tm G.zm), .know 1 (powO G.tp G.zp), .know 4 (.cells #[G.es] G.ts G.zs), .know 5 (.cells #[G.er] G.tr G.zr)]) := by
 refine triple_of Tryd.func4 rfl (by kernel_rfl) rfl (by simp) ?_
 refine aSeq ?_
 refine aReg ?_
 refine sp pMa ?_
 refine oNil ?_
 refine aSeq ?_
 refine aReg ?_
 refine sa ?_
 refine cai rfl rfl rfl (conf_Parse_aw G) ?_
 refine sp pM ?_
 refine sp pX ?_
 refine sp pX ?_
 refine sp pX ?_
 refine sp pX ?_
 refine sp pMa ?_
 refine sp pMa ?_
 refine sp pMa ?_
 refine sp pMa ?_
 refine oNil ?_
 refine aSeq ?_
 have hA := wAw_at
 refine aReg ?_
 refine sp pM ?_
 refine sp pB ?_
 refine sp pM ?_
 refine gp pM ?_
 refine gp pB ?_
 refine sp pK ?_
 refine sp pM ?_
 refine gp pM ?_
 refine gp pB ?_
 refine sp pK ?_
 refine sp pM ?_
 refine gp pM ?_
 refine gp (by first | exact pLm sl_22 | exact pLs sl_22 | exact pLv sl_22) ?_
 refine gp pB ?_
 refine sp pK ?_
 refine sp pM ?_
 refine gp pM ?_
 first | refine gp (pIx es_22) ?_ | refine gp (pIo es_22) ?_
 refine gr (by first | exact rSW ty_38 rfl | exact rSA ty_38 | exact rBWa ty_38 | exact rBW ty_38 | exact rBA ty_38 | exact rArA ty_38 (fun _ => rfl)) ?_
 refine gp (pBuild rfl st_38 ze_38 rfl rfl rfl rfl) ?_
 refine gp (pEqA rfl (.inl rfl) rfl rfl eq_38 rfl rfl) ?_
 refine sp pK ?_
 refine sp pMa ?_
 refine oNil ?_
 refine aRet ?_
 refine finIs rfl ?_
 rfl
theorem pe_a {q : Bool} : (!((pe q == 0) == q)) = false := by cases q <;> rfl
theorem pe_b {q : Bool} : (!((pe q == 2) == !q)) = false := by cases q <;> rfl
theorem text_p {n m : Int} {l : List Wi} (h : mayP n m l = true) : textE n m l = textP n m l := by unfold textE; rw [if_pos h]
theorem text_n {n m : Int} {l : List Wi} (h : mayP n m l = false) : textE n m l = [] := by unfold textE; rw [h]; rfl
/- waymarklaw50.ConfigTexts -/
set_option maxRecDepth 100000 in
set_option maxHeartbeats 4000000 in
theorem law50_ConfigTexts {n m : Int} {l : List Wi} {s : SBs} (G : Gl) (hll : l.length ≤ 9223372036854775807) (hsl : s.length ≤ 9223372036854775807) : Triple Tryd.prog 3 [.agg [.int n, .int m, .sl 5 (l.map wirC)], strA s] [.know 0 (.cells #[.int .i64 G.m] G.tm G.zm), .know 1 (powO G.tp G.zp), .know 4 (.cells #[G.es] G.ts G.zs), .know 5 (.cells #[G.er] G.tr G.zr)] (Is (.v (.bool true)) [.know 0 (.cells #[.int .i64 G.m] G.tm G.zm), .know 1 (powO G.tp G.zp), .know 4 (.cells #[G.es] G.ts G.zs), .know 5 (.cells #[G.er] G.tr G.zr)]) := by
 refine triple_of Tryd.func3 rfl (by kernel_rfl) rfl (by simp) ?_
 refine aSeq ?_
 refine aReg ?_
 refine sq ?_
 refine qBox rfl rfl (by decide) rfl rfl (fun b2 => ?_)
 refine sp pMa ?_
 refine oNil ?_
 refine aSeq ?_
 refine aSeq ?_
 refine aReg ?_
 refine sp (pFb fd_24_2) ?_
 refine sr (rB1 ty_22) ?_
 refine sp (by first | exact pLm sl_22 | exact pLs sl_22 | exact pLv sl_22) ?_
 refine sp pB ?_
 refine sp pM ?_
 refine oSplitDec 23 rfl (fun c23 => ?_) (fun c23 => ?_)
 ·skip
  refine gf ?_
  refine gf ?_
  refine gf ?_
  refine sp pK ?_
  refine oNil ?_
  refine aCondT rfl ?_
  refine aSeq ?_
  refine aReg ?_
  refine sa ?_
  refine cai rfl rfl rfl (law50_awake G) ?_
  refine sp pMa ?_
  refine oNil ?_
  refine aRet ?_
  refine finIs rfl ?_
  first
    | rfl
    | (exfalso; simp_all; done)
    | (exfalso; simp_all [pe_a, pe_b]; done)
    | (exact absurd (pe_b.symm.trans c69) (by decide))
 ·skip
  refine gp pM ?_
  refine gp (pLenStr Tryd.underlying9) ?_
  refine gp pB ?_
  refine sp pK ?_
  refine oNil ?_
  refine aCondDec rfl (fun c27 => ?_) (fun c27 => ?_)
  ·skip
   refine aSeq ?_
   refine aReg ?_
   refine sa ?_
   refine cai rfl rfl rfl (law50_awake G) ?_
   refine sp pMa ?_
   refine oNil ?_
   refine aRet ?_
   refine finIs rfl ?_
   first
     | rfl
     | (exfalso; simp_all; done)
     | (exfalso; simp_all [pe_a, pe_b]; done)
     | (exact absurd (pe_b.symm.trans c69) (by decide))
  ·skip
   refine aSkip ?_
   refine aSeq ?_
   have hs2 : s.length ≤ 2000 := by omega
   have hl2 : l.length ≤ 60 := by omega
   have hpl := pl_len (s := s) (by omega)
   refine aReg ?_
   refine sp pM ?_
   refine sa ?_
   refine cai rfl rfl rfl (conf_Parse_e (s := s) G (by omega)) ?_
   refine sp pM ?_
   refine sp pX ?_
   refine sp pX ?_
   refine sp pX ?_
   refine sp pX ?_
   refine sp pMa ?_
   refine sp pMa ?_
   refine sp pMa ?_
   refine sp pMa ?_
   refine oNil ?_
   refine aSeq ?_
   refine aReg ?_
   refine sp pM ?_
   refine sq ?_
   refine ci rfl rfl rfl (ref50_Parse_e (s := s) (by omega)) ?_
   refine sp pM ?_
   refine sp pX ?_
   refine sp pX ?_
   refine sp pX ?_
   refine sp pX ?_
   refine sp pMa ?_
   refine sp pMa ?_
   refine sp pMa ?_
   refine sp pMa ?_
   refine oNil ?_
   refine aSeq ?_
   refine aSeq ?_
   refine aReg ?_
   refine sp pM ?_
   refine sp pM ?_
   refine sp pB ?_
   refine sp pM ?_
   refine oSplitNe 46 rfl (fun c46 => ?_) (fun c46 => ?_)
   ·skip
    refine gf ?_
    refine gf ?_
    refine gf ?_
    refine sp pK ?_
    refine sp pM ?_
    refine gf ?_
    refine gf ?_
    refine gf ?_
    refine gf ?_
    refine sp pK ?_
    refine sp pM ?_
    refine gf ?_
    refine gf ?_
    refine gf ?_
    refine gf ?_
    refine sp pK ?_
    refine sp pM ?_
    refine gf ?_
    refine gf ?_
    refine gf ?_
    refine gf ?_
    refine gf ?_
    refine sp pK ?_
    refine oNil ?_
    refine aCondT rfl ?_
    refine aSeq ?_
    refine aReg ?_
    refine sp pMa ?_
    refine oNil ?_
    refine aRet ?_
    refine finIs rfl ?_
    first
      | rfl
      | (exfalso; simp_all; done)
      | (exfalso; simp_all [pe_a, pe_b]; done)
      | (exact absurd (pe_b.symm.trans c69) (by decide))
   ·skip
    refine gp pM ?_
    refine gp pM ?_
    refine gp pB ?_
    refine sp pK ?_
    refine sp pM ?_
    refine oSplitNe 51 rfl (fun c51 => ?_) (fun c51 => ?_)
    ·skip
     refine gf ?_
     refine gf ?_
     refine gf ?_
     refine gf ?_
     refine sp pK ?_
     refine sp pM ?_
     refine gf ?_
     refine gf ?_
     refine gf ?_
     refine gf ?_
     refine sp pK ?_
     refine sp pM ?_
     refine gf ?_
     refine gf ?_
     refine gf ?_
     refine gf ?_
     refine gf ?_
     refine sp pK ?_
     refine oNil ?_
     refine aCondT rfl ?_
     refine aSeq ?_
     refine aReg ?_
     refine sp pMa ?_
     refine oNil ?_
     refine aRet ?_
     refine finIs rfl ?_
     first
       | rfl
       | (exfalso; simp_all; done)
       | (exfalso; simp_all [pe_a, pe_b]; done)
       | (exact absurd (pe_b.symm.trans c69) (by decide))
    ·skip
     refine gp pM ?_
     refine gp pM ?_
     refine ga ?_
     refine (cv rfl rfl rfl (lents_refl _) (ref50_Same (by omega) (by omega)) ?_).op
     refine gp pNo ?_
     refine sp pK ?_
     refine sp pM ?_
     refine oSplitNot 57 rfl (fun c57 => ?_) (fun c57 => ?_)
     ·skip
      refine gf ?_
      refine gf ?_
      refine gf ?_
      refine gf ?_
      refine sp pK ?_
      refine sp pM ?_
      refine gf ?_
      refine gf ?_
      refine gf ?_
      refine gf ?_
      refine gf ?_
      refine sp pK ?_
      refine oNil ?_
      refine aCondT rfl ?_
      refine aSeq ?_
      refine aReg ?_
      refine sp pMa ?_
      refine oNil ?_
      refine aRet ?_
      refine finIs rfl ?_
      first
        | rfl
        | (exfalso; simp_all; done)
        | (exfalso; simp_all [pe_a, pe_b]; done)
        | (exact absurd (pe_b.symm.trans c69) (by decide))
     ·skip
      refine gp pM ?_
      refine gp pB ?_
      refine gp pM ?_
      refine gp (pEqBn bo_4) ?_
      refine sp pK ?_
      refine sp pM ?_
      refine oSplit 63 rfl (fun c63 => ?_) (fun c63 => ?_)
      ·skip
       refine gf ?_
       refine gf ?_
       refine gf ?_
       refine gf ?_
       refine gf ?_
       refine sp pK ?_
       refine oNil ?_
       refine aCondT rfl ?_
       refine aSeq ?_
       refine aReg ?_
       refine sp pMa ?_
       refine oNil ?_
       refine aRet ?_
       refine finIs rfl ?_
       first
         | rfl
         | (exfalso; simp_all; done)
         | (exfalso; simp_all [pe_a, pe_b]; done)
         | (exact absurd (pe_b.symm.trans c69) (by decide))
      ·skip
       refine gp pM ?_
       refine gp pB ?_
       refine gp pM ?_
       refine gp pNo ?_
       refine gp (pEqBn bo_4) ?_
       refine sp pK ?_
       refine oNil ?_
       refine aCond rfl (fun c69 => ?_) (fun c69 => ?_)
       ·skip
        refine aSeq ?_
        refine aReg ?_
        refine sp pMa ?_
        refine oNil ?_
        refine aRet ?_
        refine finIs rfl ?_
        first
          | rfl
          | (exfalso; simp_all; done)
          | (exfalso; simp_all [pe_a, pe_b]; done)
          | (exact absurd (pe_b.symm.trans c69) (by decide))
       ·skip
        refine aSkip ?_
        refine aSeq ?_
        refine aReg ?_
        refine sp (pFb fd_24_0) ?_
        refine sr (rB1 ty_3) ?_
        refine sp (pFb fd_24_1) ?_
        refine sr (rB1 ty_3) ?_
        refine sp (pFb fd_24_2) ?_
        refine sr (rB1 ty_22) ?_
        refine sa ?_
        refine cai rfl rfl rfl (conf_Text (n := n) (s := m) (l := l) G (by omega)) ?_
        refine sp pM ?_
        refine sp pX ?_
        refine sp pX ?_
        refine sp pMa ?_
        refine sp pMa ?_
        refine oNil ?_
        refine aSeq ?_
        refine aSeq ?_
        refine aReg ?_
        refine sp (pFb fd_24_0) ?_
        refine sr (rB1 ty_3) ?_
        refine sp (pFb fd_24_1) ?_
        refine sr (rB1 ty_3) ?_
        refine sp (pFb fd_24_2) ?_
        refine sr (rB1 ty_22) ?_
        refine sq ?_
        refine cv rfl rfl rfl (lents_refl _) (ref50_May (n := n) (s := m) (l := l) (by omega)) ?_
        refine sp pNo ?_
        refine oNil ?_
        refine aCondNot rfl (fun c87 => ?_) (fun c87 => ?_)
        ·skip
         refine aSeq ?_
         have hm : mayP n m l = false := by cases hm : mayP n m l <;> simp_all
         have ht := text_n hm
         refine aReg ?_
         refine sp pM ?_
         refine sp pB ?_
         refine sp pM ?_
         refine oSplitEq 90 rfl (fun c90 => ?_) (fun c90 => ?_)
         ·skip
          refine gp pM ?_
          refine gp pEqStr ?_
          refine sp pK ?_
          refine sp pM ?_
          refine oSplit 94 rfl (fun c94 => ?_) (fun c94 => ?_)
          ·skip
           refine ga ?_
           refine cai rfl rfl rfl (law50_awake G) ?_
           refine sp pK ?_
           refine sp pMa ?_
           refine oNil ?_
           refine aRet ?_
           refine finIs rfl ?_
           first
             | rfl
             | (exfalso; simp_all; done)
             | (exfalso; simp_all [pe_a, pe_b]; done)
             | (exact absurd (pe_b.symm.trans c69) (by decide))
          ·skip
           refine gf ?_
           refine sp pK ?_
           refine sp pMa ?_
           refine oNil ?_
           refine aRet ?_
           refine finIs rfl ?_
           first
             | rfl
             | (exfalso; simp_all; done)
             | (exfalso; simp_all [pe_a, pe_b]; done)
             | (exact absurd (pe_b.symm.trans c69) (by decide))
         ·skip
          refine gf ?_
          refine gf ?_
          refine sp pK ?_
          refine sp pM ?_
          refine gf ?_
          refine sp pK ?_
          refine sp pMa ?_
          refine oNil ?_
          refine aRet ?_
          refine finIs rfl ?_
          first
            | rfl
            | (exfalso; simp_all; done)
            | (exfalso; simp_all [pe_a, pe_b]; done)
            | (exact absurd (pe_b.symm.trans c69) (by decide))
        ·skip
         refine aSkip ?_
         refine aSeq ?_
         have hm : mayP n m l = true := by cases hm : mayP n m l <;> simp_all
         have ht := text_p hm
         obtain ⟨m1, m2, m3, m4, m5⟩ := may_bounds hm
         have htl := textP_len _ l rfl m1 m2 m3 m4 m5
         have hpa := parseA_text hm
         have q1 : pn (parseA (textE n m l)) = n := by rw [ht, hpa]; rfl
         have q2 : pm (parseA (textE n m l)) = m := by rw [ht, hpa]; rfl
         have q3 : pl (parseA (textE n m l)) = l := by rw [ht, hpa]; rfl
         have q4 : pe (parseA (textE n m l)).isSome = 0 := by rw [ht, hpa]; rfl
         have q5 : (pl (parseA (textE n m l))).length ≤ 60 := by rw [q3]; omega
         refine aReg ?_
         refine sp pM ?_
         refine sa ?_
         refine cai rfl rfl rfl (conf_Parse_e (s := textE n m l) G (by rw [ht]; omega)) ?_
         refine sp pM ?_
         refine sp pX ?_
         refine sp pX ?_
         refine sp pX ?_
         refine sp pX ?_
         refine sp pMa ?_
         refine sp pMa ?_
         refine sp pMa ?_
         refine sp pMa ?_
         refine oNil ?_
         refine aSeq ?_
         refine aReg ?_
         refine sp pM ?_
         refine sp pB ?_
         refine sp pM ?_
         refine oSplitEq 106 rfl (fun c106 => ?_) (fun c106 => ?_)
         ·skip
          refine gp pM ?_
          refine gp (pFb fd_24_0) ?_
          refine gr (rB1 ty_3) ?_
          refine gp (pFb fd_24_1) ?_
          refine gr (rB1 ty_3) ?_
          refine gp (pFb fd_24_2) ?_
          refine gr (rB1 ty_22) ?_
          refine ga ?_
          refine (cv rfl rfl rfl (lents_refl _) (ref50_Text (n := n) (s := m) (l := l) (by omega) hm) ?_).op
          refine gp pEqStr ?_
          refine sp pK ?_
          refine sp pM ?_
          refine oSplit 117 rfl (fun c117 => ?_) (fun c117 => ?_)
          ·skip
           refine gp pM ?_
           refine gp pB ?_
           refine sp pK ?_
           refine sp pM ?_
           refine oSplitEq 121 rfl (fun c121 => ?_) (fun c121 => ?_)
           ·skip
            refine gp pM ?_
            refine gp (pFb fd_24_0) ?_
            refine gr (rB1 ty_3) ?_
            refine gp pB ?_
            refine sp pK ?_
            refine sp pM ?_
            refine oSplitEq 127 rfl (fun c127 => ?_) (fun c127 => ?_)
            ·skip
             refine gp pM ?_
             refine gp (pFb fd_24_1) ?_
             refine gr (rB1 ty_3) ?_
             refine gp pB ?_
             refine sp pK ?_
             refine sp pM ?_
             refine oSplitEq 133 rfl (fun c133 => ?_) (fun c133 => ?_)
             ·skip
              refine gp pM ?_
              refine gp (pFb fd_24_2) ?_
              refine gr (rB1 ty_22) ?_
              refine ga ?_
              refine (cv rfl rfl rfl (lents_refl _) (ref50_Same (by omega) (by omega)) ?_).op
              refine sp pK ?_
              refine sp pM ?_
              refine oSplit 139 rfl (fun c139 => ?_) (fun c139 => ?_)
              ·skip
               refine ga ?_
               refine cai rfl rfl rfl (law50_awake G) ?_
               refine sp pK ?_
               refine sp pMa ?_
               refine oNil ?_
               refine aRet ?_
               refine finIs rfl ?_
               first
                 | rfl
                 | (exfalso; simp_all; done)
                 | (exfalso; simp_all [pe_a, pe_b]; done)
                 | (exact absurd (pe_b.symm.trans c69) (by decide))
              ·skip
               refine gf ?_
               refine sp pK ?_
               refine sp pMa ?_
               refine oNil ?_
               refine aRet ?_
               refine finIs rfl ?_
               first
                 | rfl
                 | (exfalso; simp_all; done)
                 | (exfalso; simp_all [pe_a, pe_b]; done)
                 | (exact absurd (pe_b.symm.trans c69) (by decide))
             ·skip
              refine gf ?_
              refine gf ?_
              refine gf ?_
              refine gf ?_
              refine sp pK ?_
              refine sp pM ?_
              refine gf ?_
              refine sp pK ?_
              refine sp pMa ?_
              refine oNil ?_
              refine aRet ?_
              refine finIs rfl ?_
              first
                | rfl
                | (exfalso; simp_all; done)
                | (exfalso; simp_all [pe_a, pe_b]; done)
                | (exact absurd (pe_b.symm.trans c69) (by decide))
            ·skip
             refine gf ?_
             refine gf ?_
             refine gf ?_
             refine gf ?_
             refine sp pK ?_
             refine sp pM ?_
             refine gf ?_
             refine gf ?_
             refine gf ?_
             refine gf ?_
             refine sp pK ?_
             refine sp pM ?_
             refine gf ?_
             refine sp pK ?_
             refine sp pMa ?_
             refine oNil ?_
             refine aRet ?_
             refine finIs rfl ?_
             first
               | rfl
               | (exfalso; simp_all; done)
               | (exfalso; simp_all [pe_a, pe_b]; done)
               | (exact absurd (pe_b.symm.trans c69) (by decide))
           ·skip
            refine gf ?_
            refine gf ?_
            refine gf ?_
            refine gf ?_
            refine sp pK ?_
            refine sp pM ?_
            refine gf ?_
            refine gf ?_
            refine gf ?_
            refine gf ?_
            refine sp pK ?_
            refine sp pM ?_
            refine gf ?_
            refine gf ?_
            refine gf ?_
            refine gf ?_
            refine sp pK ?_
            refine sp pM ?_
            refine gf ?_
            refine sp pK ?_
            refine sp pMa ?_
            refine oNil ?_
            refine aRet ?_
            refine finIs rfl ?_
            first
              | rfl
              | (exfalso; simp_all; done)
              | (exfalso; simp_all [pe_a, pe_b]; done)
              | (exact absurd (pe_b.symm.trans c69) (by decide))
          ·skip
           refine gf ?_
           refine gf ?_
           refine sp pK ?_
           refine sp pM ?_
           refine gf ?_
           refine gf ?_
           refine gf ?_
           refine gf ?_
           refine sp pK ?_
           refine sp pM ?_
           refine gf ?_
           refine gf ?_
           refine gf ?_
           refine gf ?_
           refine sp pK ?_
           refine sp pM ?_
           refine gf ?_
           refine gf ?_
           refine gf ?_
           refine gf ?_
           refine sp pK ?_
           refine sp pM ?_
           refine gf ?_
           refine sp pK ?_
           refine sp pMa ?_
           refine oNil ?_
           refine aRet ?_
           refine finIs rfl ?_
           first
             | rfl
             | (exfalso; simp_all; done)
             | (exfalso; simp_all [pe_a, pe_b]; done)
             | (exact absurd (pe_b.symm.trans c69) (by decide))
         ·skip
          refine gf ?_
          refine gf ?_
          refine gf ?_
          refine gf ?_
          refine gf ?_
          refine gf ?_
          refine gf ?_
          refine gf ?_
          refine gf ?_
          refine sp pK ?_
          refine sp pM ?_
          refine gf ?_
          refine gf ?_
          refine sp pK ?_
          refine sp pM ?_
          refine gf ?_
          refine gf ?_
          refine gf ?_
          refine gf ?_
          refine sp pK ?_
          refine sp pM ?_
          refine gf ?_
          refine gf ?_
          refine gf ?_
          refine gf ?_
          refine sp pK ?_
          refine sp pM ?_
          refine gf ?_
          refine gf ?_
          refine gf ?_
          refine gf ?_
          refine sp pK ?_
          refine sp pM ?_
          refine gf ?_
          refine sp pK ?_
          refine sp pMa ?_
          refine oNil ?_
          refine aRet ?_
          refine finIs rfl ?_
          first
            | rfl
            | (exfalso; simp_all; done)
            | (exfalso; simp_all [pe_a, pe_b]; done)
            | (exact absurd (pe_b.symm.trans c69) (by decide))
end A
end Go.Proofs.YtgdfppjapnpcgaaDoor
