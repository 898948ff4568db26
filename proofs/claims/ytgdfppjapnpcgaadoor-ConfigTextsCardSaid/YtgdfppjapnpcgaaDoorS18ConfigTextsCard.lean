/- Whatever a plan and a text, waymarklaw50.ConfigTexts returns true, and each argument reads as it did: the row over its listed variables, and the tied card. -/
import Derived.Deep.DeepHandedRow
import Derived.LaidMore
import Derived.Lay
import Derived.Lib.LaidU8
import Derived.MakeChecks
import Derived.SevenTiedAt
import Derived.Shelf.Vars
import Derived.Test.YtgdfppjapnpcgaaDoorCards
import Derived.Test.YtgdfppjapnpcgaaDoorRows
import Derived.Test.YtgdfppjapnpcgaaDoorTie
import Derived.Test.YtgdfppjapnpcgaaDoorS17ConfigTextsCard
set_option linter.unusedVariables false
set_option linter.unusedSimpArgs false
namespace Go.Proofs.YtgdfppjapnpcgaaDoor.configTexts
open Go.ChangeShapes Go.WideShapes Go.ChangeAt Go.RowKit Go.Proofs.YtgdfppjapnpcgaaDoor.A
theorem own : ownKnob Tryd.prog.godebug = none := by kernel_rfl
theorem laidOut : laidOutB Tryd.prog = true := by kernel_rfl
theorem g0 : 0 < Tryd.prog.globals.size := by rw [show Tryd.prog.globals.size = (Tryd.prog.globals.size) from rfl]; exact of_decide_eq_true (by kernel_rfl)
/-- What a row's world holds in the library's variables. -/
theorem of_laid {W : World} (hL : laidMetH Tryd.prog Rows.configTextsRow.laid W) (hsh : W.ShapedOpen Tryd.prog) : ∃ G : Gl, ∀ x ∈ ([.know 0 (.cells #[.int .i64 G.m] G.tm G.zm), .know 1 (powO G.tp G.zp), .know 4 (.cells #[G.es] G.ts G.zs), .know 5 (.cells #[G.er] G.tr G.zr)] : List HA), HARep (FAll W) W x := by
 rw [MakeChecks.laidMetH_plain _ _ _ (by kernel_rfl)] at hL
 exact gl_of (int_var (zero := #[.int .i64 0]) (t := 3) hsh g0 (by kernel_rfl) rfl (by kernel_rfl) (by kernel_rfl) Tryd.underlying3)
   (tab_var (nm := "internal/strconv.uint64pow10") (t := 105) (e := 74) (n := 20) (k := .u64) (by kernel_rfl) (by kernel_rfl) Tryd.underlying105 Tryd.underlying74 (by kernel_rfl) (by kernel_rfl) (Go.Lib.laidMet.reads hL (d := Go.Lib.tabData .u64 Go.Lib.pow10Tab) (.tail _ (.tail _ (.head _)))))
   (iface_var (nm := "strconv.ErrSyntax") (t := 69) (by kernel_rfl) (by kernel_rfl) Tryd.underlying69 (Go.Lib.laidMet.reads hL (.tail _ (.tail _ (.tail _ (.tail _ (.tail _ (.head _))))))))
   (iface_var (nm := "strconv.ErrRange") (t := 69) (by kernel_rfl) (by kernel_rfl) Tryd.underlying69 (Go.Lib.laidMet.reads hL (.tail _ (.tail _ (.tail _ (.tail _ (.head _)))))))
set_option maxRecDepth 100000 in
theorem lifted (os : Os) (started : os.Started) (H : Type) (enc : TypeId × Value → H) (F : Stop.Interp) :
   ReturnsInHanded {} Tryd.checked os 3 .any ((OpenSpec.ofChange Rows.configTextsSpec).preRow enc Tryd.prog Tryd.f3 Rows.configTextsRow.domain false Rows.configTextsRow.laid) (((OpenSpec.ofChange Rows.configTextsSpec).at F).post enc Tryd.prog Tryd.f3 false true false false) := by
 refine returnsInHanded_of_row (C := Tryd.checked) (s := OpenSpec.ofChange Rows.configTextsSpec) own started (by kernel_rfl) Tryd.func3
   (ChangeSpec.witness_shaped (enc := enc) (C := Tryd.checked) (os := os) (s := Rows.configTextsSpec) (X := fun w _ => laidMetH Tryd.prog Rows.configTextsRow.laid w) false (World.laidAll Tryd.prog os Rows.configTextsRow.laid) #[.agg #[.int .i64 0, .int .i64 0, .slice none 0 0], .string ⟨#[]⟩] 8 (World.laidAll_os _ _ _)
     (World.shaped_of_ZipB (by kernel_rfl) (by kernel_rfl)) (by kernel_rfl) (by kernel_rfl) (by kernel_rfl)
     (by rw [MakeChecks.laidMetH_plain _ _ _ (by kernel_rfl)]; exact laidMet_laidAll _ (by kernel_rfl) (by kernel_rfl))) ?_
 intro W base args ds gs before hval0 hW _ _ _ hL hsh _
 obtain ⟨G, hG⟩ := of_laid hL hsh
 clear hL hsh
 have hval : ∀ (j : Nat) t v, Tryd.f3.params[j]? = some t → args[j]? = some v → Value.okWide Tryd.prog W .any base t v := hval0
 have hW' := hW
 obtain ⟨p, q, hA0, hV, rfl, hfz, hnd⟩ := hW
 have hA : DataW.TrodAll enc Tryd.prog W 0 (fun _ => true) true Tryd.f3.params.toList args.toList ds p := hA0
 rw [Tryd.params3] at hA hval
 obtain ⟨v0, vs0, d0, ds0, p0, q0, hargs, rfl, rfl, h0, r0⟩ := trodAll_cons hA
 obtain ⟨v1, vs1, d1, ds1, p1, q1, rfl, rfl, rfl, h1, r1⟩ := trodAll_cons r0
 obtain ⟨rfl, rfl, rfl⟩ := trodAll_nil r1
 obtain rfl : args = #[v0, v1] := by cases args; simp_all
 obtain ⟨rfl, rfl⟩ := trodVars_none hV
 have k0 := h0
 have lt0 : ∀ x ∈ p0, x.block < W.heap.size := by obtain ⟨m, hm⟩ := k0; exact DataW.trod_lt m _ _ _ hm
 obtain ⟨cs0, rfl⟩ := okWide_aggS Tryd.underlying24 (hval 0 24 v0 rfl rfl)
 obtain ⟨a0, w0, rep0⟩ := argAgg op_Plan h0
 have k1 := h1
 have lt1 : ∀ x ∈ p1, x.block < W.heap.size := by obtain ⟨m, hm⟩ := k1; exact DataW.trod_lt m _ _ _ hm
 have one1 : v1.oneCell' = true := by obtain ⟨_, rfl⟩ := okWide_string Tryd.underlying9 (hval 1 9 v1 rfl rfl); rfl
 obtain ⟨a1, w1, rep1⟩ := argOne (opStr Tryd.underlying9) one1 h1
 have hl1 : a1.data.toList.length ≤ 9223372036854775807 := by rw [← Go.Lib.size_eq]; exact w1
 refine (law_callsK _ (law50_ConfigTexts (n := a0.n) (m := a0.m) (l := a0.l) (s := a1.data.toList) G w0 hl1) rfl hG (reps_cons rep0 (reps_cons (str_arg rep1) reps_nil))).mono fun e W' ⟨he, bel⟩ => ?_
 subst he
 exact ⟨_, rfl, _, _, _, [], _, [], hW', trodAll_mk1 (shut_bool Tryd.underlying4 _), (trodAll_cons_mk (Below.trod laidOut (by kernel_rfl) (of_decide_eq_true (by kernel_rfl)) k0 bel lt0) (trodAll_cons_mk (Below.trod laidOut (by kernel_rfl) (of_decide_eq_true (by kernel_rfl)) k1 bel lt1) trodAll_mk0)), rfl, bel.frame _, fun h => by cases h⟩
theorem closed : joinedFacts Tryd.prog 3 Tryd.f3 Rows.configTextsSpec Rows.configTextsRow = true := by kernel_rfl
theorem over : Rows.ConfigTextsSaid :=
 OpenClaim.holds_of_wide 3 Tryd.f3 rfl rfl rfl rfl rfl rfl rfl ⟨rfl, rfl, rfl, rfl, rfl⟩ rfl rfl rfl rfl rfl (by kernel_rfl) Tryd.func3 closed
   (of_decide_eq_true (by kernel_rfl)) (by unfold Func.isWrapper; first | (rw [if_pos (by decide +kernel)]; kernel_rfl) | (rw [if_neg (by decide +kernel)]; exact ⟨rfl, rfl⟩))
   (fun os started H enc _ => by rw [OpenClaim.pre_eq_preRow]; exact lifted os started H enc (fun _ _ _ => 0))
theorem proved : Rows.ConfigTextsCardSaid :=
 Claim7.holds_tied_plain_at .later [] [.data, .data, .data, .data, .sentinel, .sentinel, .pinned] true (true, "5f324086425ab99ee072b172a9b5d26cd64726f0d1920feceeec368c4037ad53") true over (fun _ h => by cases h) (by kernel_rfl) (fun _ h => by cases h) configTexts_row_tie rfl ⟨rfl, rfl⟩ (by kernel_rfl) rfl
   (fun f fn hf hfn => by
     obtain rfl : f = 3 := Option.some.inj ((show Tryd.prog.funcNamed "waymark/waymarklaw50.ConfigTexts" = some 3 by kernel_rfl).symm.trans hf) |>.symm
     obtain rfl : fn = Tryd.f3 := (Option.some.inj (Tryd.func3.symm.trans hfn)).symm
     exact ⟨by kernel_rfl, fun j t ht => by
       rw [Tryd.params3] at ht
       have hm : t ∈ [24, 9] := by simpa using Array.mem_of_getElem? ht
       have hall : ([24, 9].all fun u => !Tryd.prog.wantsStandIn u) = true := by kernel_rfl
       exact (show Tryd.prog.wantsStandIn t = false by simpa using List.all_eq_true.1 hall t hm)⟩)
   (by kernel_rfl)
#print axioms proved
end Go.Proofs.YtgdfppjapnpcgaaDoor.configTexts
