/- What the program as a whole is like. -/
import Derived.Test.YtmcannmjielalaaRows
import Derived.Test.YtmcannmjielalaaAbs13
import Derived.KernelRfl
set_option linter.unusedSimpArgs false
namespace Go.Proofs.Ytmcannmjielalaa
namespace A
def sgA : List Char := [104, 97, 114, 110, 101, 115, 115].map Char.ofNat
def sgB : List Char := [54, 98, 102, 99, 101, 51, 57, 57, 57, 50, 52, 48, 98, 48, 53, 57, 97, 97, 52, 48, 53, 97, 52, 52, 100, 48, 50, 52, 52, 97, 51, 99, 49, 49, 55, 99, 50, 57, 49, 100, 97, 49, 99, 97, 99, 102, 101, 99, 54, 50, 100, 101, 101, 48, 53, 50, 51, 49, 57, 97, 57, 56, 100, 56].map Char.ofNat
def sgC : List Char := [99, 117, 116].map Char.ofNat
def sgT : List Char := [97, 116, 32, 119, 97, 121, 109, 97, 114, 107, 47, 119, 97, 121, 109, 97, 114, 107, 108, 97, 119, 50, 52, 46, 71, 114, 97, 112, 104, 84, 101, 108, 108, 115, 32, 119, 97, 121, 109, 97, 114, 107, 47, 119, 97, 121, 109, 97, 114, 107, 108, 97, 119, 52, 57, 46, 70, 108, 111, 119, 67, 117, 116, 115, 32, 119, 97, 121, 109, 97, 114, 107, 47, 119, 97, 121, 109, 97, 114, 107, 108, 97, 119, 50, 53, 46, 83, 112, 102, 82, 111, 117, 116, 101, 115, 32, 119, 97, 121, 109, 97, 114, 107, 47, 119, 97, 121, 109, 97, 114, 107, 108, 97, 119, 50, 53, 46, 83, 112, 102, 84, 114, 105, 97, 110, 103, 108, 101, 32, 119, 97, 121, 109, 97, 114, 107, 47, 119, 97, 121, 109, 97, 114, 107, 108, 97, 119, 52, 55, 46, 77, 97, 116, 114, 105, 120, 79, 102, 32, 119, 97, 121, 109, 97, 114, 107, 47, 119, 97, 121, 109, 97, 114, 107, 108, 97, 119, 50, 54, 46, 82, 111, 117, 116, 101, 79, 102, 32, 119, 97, 121, 109, 97, 114, 107, 47, 119, 97, 121, 109, 97, 114, 107, 108, 97, 119, 50, 54, 46, 82, 111, 117, 116, 101, 69, 110, 100, 115, 32, 119, 97, 121, 109, 97, 114, 107, 47, 119, 97, 121, 109, 97, 114, 107, 108, 97, 119, 51, 55, 46, 83, 112, 97, 114, 101, 70, 114, 101, 101, 32, 119, 97, 121, 109, 97, 114, 107, 47, 119, 97, 121, 109, 97, 114, 107, 108, 97, 119, 52, 53, 46, 87, 104, 97, 116, 105, 102, 66, 97, 115, 101, 115, 32, 119, 97, 121, 109, 97, 114, 107, 47, 119, 97, 121, 109, 97, 114, 107, 108, 97, 119, 52, 53, 46, 87, 104, 97, 116, 105, 102, 84, 117, 114, 110, 115, 32, 119, 97, 121, 109, 97, 114, 107, 47, 119, 97, 121, 109, 97, 114, 107, 108, 97, 119, 52, 53, 46, 87, 104, 97, 116, 105, 102, 70, 97, 114, 116, 104, 101, 114, 32, 119, 97, 121, 109, 97, 114, 107, 47, 119, 97, 121, 109, 97, 114, 107, 108, 97, 119, 52, 52, 46, 72, 111, 112, 71, 111, 101, 115, 32, 119, 97, 121, 109, 97, 114, 107, 47, 119, 97, 121, 109, 97, 114, 107, 108, 97, 119, 52, 52, 46, 72, 111, 112, 65, 103, 114, 101, 101, 115, 32, 119, 97, 121, 109, 97, 114, 107, 47, 119, 97, 121, 109, 97, 114, 107, 108, 97, 119, 52, 52, 46, 72, 111, 112, 65, 103, 114, 101, 101, 32, 119, 97, 121, 109, 97, 114, 107, 47, 119, 97, 121, 109, 97, 114, 107, 108, 97, 119, 52, 56, 46, 75, 112, 97, 116, 104, 80, 97, 116, 104, 115, 32, 119, 97, 121, 109, 97, 114, 107, 47, 119, 97, 121, 109, 97, 114, 107, 108, 97, 119, 51, 57, 46, 66, 114, 105, 100, 103, 101, 70, 105, 110, 100, 115, 32, 119, 97, 121, 109, 97, 114, 107, 47, 119, 97, 121, 109, 97, 114, 107, 108, 97, 119, 51, 57, 46, 66, 114, 105, 100, 103, 101, 80, 105, 101, 99, 101, 115, 32, 119, 97, 121, 109, 97, 114, 107, 47, 119, 97, 121, 109, 97, 114, 107, 108, 97, 119, 50, 55, 46, 76, 105, 118, 101, 65, 114, 99, 115, 32, 119, 97, 121, 109, 97, 114, 107, 47, 119, 97, 121, 109, 97, 114, 107, 108, 97, 119, 51, 54, 46, 69, 99, 109, 112, 65, 108, 108, 32, 119, 97, 121, 109, 97, 114, 107, 47, 119, 97, 121, 109, 97, 114, 107, 108, 97, 119, 51, 54, 46, 69, 99, 109, 112, 76, 101, 97, 115, 116, 32, 119, 97, 121, 109, 97, 114, 107, 47, 119, 97, 121, 109, 97, 114, 107, 108, 97, 119, 52, 56, 46, 75, 112, 97, 116, 104, 70, 105, 114, 115, 116, 32, 119, 97, 121, 109, 97, 114, 107, 47, 119, 97, 121, 109, 97, 114, 107, 108, 97, 119, 53, 49, 46, 71, 101, 110, 72, 97, 110, 103, 115, 32, 119, 97, 121, 109, 97, 114, 107, 47, 119, 97, 121, 109, 97, 114, 107, 108, 97, 119, 53, 50, 46, 76, 111, 97, 100, 75, 101, 101, 112, 115].map Char.ofNat
theorem initIs : Try.prog.initOrder = String.ofList (sgA ++ Char.ofNat 32 :: (sgB ++ Char.ofNat 32 :: (sgC ++ Char.ofNat 32 :: sgT))) := by kernel_rfl
theorem words_cons {c : Char} (h : c ≠ Char.ofNat 32) (r : List Char) : wordsSigns (c :: r) = match wordsSigns r with | w :: ws => (c :: w) :: ws | [] => [[c]] := by
  rw [wordsSigns]
  · rfl
  · exact h
theorem words_step : ∀ (w r : List Char), (∀ c ∈ w, c ≠ Char.ofNat 32) → wordsSigns (w ++ Char.ofNat 32 :: r) = w :: wordsSigns r
  | [], r, _ => by rw [List.nil_append, wordsSigns]
  | c :: w, r, h => by rw [List.cons_append, words_cons (h c (by simp)), words_step w r (fun d hd => h d (by simp [hd]))]
theorem initWords : wordsSigns Try.prog.initOrder.toList = sgA :: sgB :: sgC :: wordsSigns sgT := by
  rw [initIs, String.toList_ofList, words_step _ _ (by decide +kernel), words_step _ _ (by decide +kernel), words_step _ _ (by decide +kernel)]
theorem behW : behindMainWord (sgA :: sgB :: sgC :: wordsSigns sgT) = sgC :: wordsSigns sgT := by kernel_rfl
theorem stripW : stripLifts liftWords (sgC :: wordsSigns sgT) = ([], sgC :: wordsSigns sgT) := by kernel_rfl
theorem eqCs : (sgC == "gc".toList) = false ∧ (sgC == "spec".toList) = false ∧ (sgC == "carried".toList) = false ∧ (some sgC == some "cut".toList) = true := by refine ⟨?_, ?_, ?_, ?_⟩ <;> kernel_rfl
theorem laysL : Try.prog.laysLater = false := by kernel_rfl
theorem bearsR : Try.prog.bearsReflect = false := by kernel_rfl
theorem doorR : Try.prog.doorRows = [] := by kernel_rfl
theorem doorF : Try.prog.doorFits [] = true := by
  unfold Program.doorFits
  rw [doorR]
  kernel_rfl
theorem mayE_of {P : Program} {h s c : List Char} {t : List (List Char)} (hw : wordsSigns P.initOrder.toList = h :: s :: c :: t) (hb : behindMainWord (h :: s :: c :: t) = c :: t) (hs : stripLifts liftWords (c :: t) = ([], c :: t))
    (h1 : (c == "gc".toList) = false) (h2 : (c == "spec".toList) = false) (h3 : (c == "carried".toList) = false) (h4 : (some c == some "cut".toList) = true) (hl : P.laysLater = false) (hr : P.bearsReflect = false) (hd : P.doorFits [] = true) : P.mayEnter = true := by
  unfold Program.mayEnter
  rw [hw, hb]
  simp only []
  rw [hs, h1, h2, h3, hl, hr, hd]
  simp only [List.head?_cons, h4]
  rfl
theorem mayE : Try.prog.mayEnter = true := mayE_of initWords behW stripW eqCs.1 eqCs.2.1 eqCs.2.2.1 eqCs.2.2.2 laysL bearsR doorF
theorem lifF_of {P : Program} {h s c : List Char} {t : List (List Char)} (hw : wordsSigns P.initOrder.toList = h :: s :: c :: t) (hb : behindMainWord (h :: s :: c :: t) = c :: t) (hs : stripLifts liftWords (c :: t) = ([], c :: t))
    (h3 : (some c == some "carried".toList) = false) : P.liftsFinal = false := by
  unfold Program.liftsFinal Program.headLifts
  rw [hw, hb]
  simp only []
  rw [hs, List.head?_cons, h3]
  simp
theorem lifF : Try.prog.liftsFinal = false := lifF_of initWords behW stripW (by kernel_rfl)
theorem mkC_of {P : Program} {h s c : List Char} {t : List (List Char)} (hw : wordsSigns P.initOrder.toList = h :: s :: c :: t) (hb : behindMainWord (h :: s :: c :: t) = c :: t)
    (h1 : (c == "gc".toList) = false) (h2 : (c == "spec".toList) = false) (h4 : (c == "cut".toList) = true) : P.make = some .cut := by
  unfold Program.make
  rw [hw, hb]
  simp only []
  rw [h1, h2, h4]
  rfl
theorem mkC : Try.prog.make = some .cut := mkC_of initWords behW eqCs.1 eqCs.2.1 (by kernel_rfl)
theorem laidAll : laidOutB Try.prog = true := by kernel_rfl
theorem mapsAll : mapsRowed Try.prog = true := by kernel_rfl
theorem stopsAll : Try.prog.stopsHeard = true := by kernel_rfl
end A
end Go.Proofs.Ytmcannmjielalaa
