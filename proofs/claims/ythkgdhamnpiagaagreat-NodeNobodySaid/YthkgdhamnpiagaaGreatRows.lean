/-
  No cell of these rows narrows 'for every input' (looked for: loops, veiled, ifaces, maps, wideKeys, modest, calm, conditions, laid).
  DERIVED. THE GIVEN ROWS OF THIS SEAT. 3 by the template 'for every input the law returns true; each argument reads behind the call as it read before'; 0 by the template 'total and deterministic' (their statements: YthkgdhamnpiagaaGreatTotals.lean).
  GIVEN WITH THE SEED: the statements are not yours to turn. If you find one false, say at which input.
  Laid BY PROGRAM, IN A SANDBOX (cutbox-rows.mjs): the forced cells as the released guide's own fill.sh prints them over the translation 86135212a4352dc1… (all of the seat's roots in one cut). By AI agents, Wed Nov 11 2026. No macro, syntax, notation, axiom, sorry.
-/
import Derived.Test.YthkgdhamnpiagaaGreatChecked
import GoSem.Claim
import GoSem.ClaimJoined
import GoSem.ClaimMapViews
import Derived.JoinedTies
import Derived.KernelRfl
namespace Go.Proofs.YthkgdhamnpiagaaGreat
/- THE CELL 'sum', in the pinned program and in every row, IS THE sha256 OF THE DUMP (.gsa) THAT YthkgdhamnpiagaaGreatProg.lean LOADS. Nothing in Lean hashes anything: it is a label: what it is worth is what the hold of that sum in a sandbox is worth. -/
noncomputable def Tryz.pinned : Pinned := { name := "ythkgdhamnpiagaagreat", sum := "86135212a4352dc16352f5e7d8f908da03bbb2819a50a2ce4b06d6e861848b09", checked := Tryz.checked }
namespace Rows
def none {H : Type} : Left H := { results := [], args := [] }

/-- 'waymarklaw28.NodeRises': WHATEVER THE INPUT: true; the input reads as it did. -/
def nodeRisesSpec : ChangeSpec := { name := "nodeRises", fn := fun _ => fun
  | [d1, d2] => { results := [.lit (.bool true)], args := [d1, d2] }
  | _ => none }
def nodeRisesRow : OpenClaim := { program := "ythkgdhamnpiagaagreat", sum := "86135212a4352dc16352f5e7d8f908da03bbb2819a50a2ce4b06d6e861848b09", func := "waymark/waymarklaw28.NodeRises", spec := "nodeRises", inPlace := ["slices.overlaps[waymark/api.Lsa]", "slices.overlaps[waymark/api.Epoch]", "slices.overlaps[waymark/api.Near]", "slices.overlaps[waymark/api.Item]", "sync/atomic.AddInt64"], unfollowed := true, recurses := true, apart := false }
def NodeRisesSaid : Prop := nodeRisesRow.holds Tryz.pinned (OpenSpec.ofChange nodeRisesSpec)

/-- ITS FALSE NEIGHBOUR: 'it returns false'. Refute it at one input. -/
def nodeRisesWrong : ChangeSpec := { name := "nodeRises", fn := fun _ => fun
  | [d1, d2] => { results := [.lit (.bool false)], args := [d1, d2] }
  | _ => none }
def NodeRisesWrongFalsely : Prop := nodeRisesRow.holds Tryz.pinned (OpenSpec.ofChange nodeRisesWrong)

/-- 'waymarklaw28.NodeStops': WHATEVER THE INPUT: true; the input reads as it did. -/
def nodeStopsSpec : ChangeSpec := { name := "nodeStops", fn := fun _ => fun
  | [d1, d2, d3] => { results := [.lit (.bool true)], args := [d1, d2, d3] }
  | _ => none }
def nodeStopsRow : OpenClaim := { program := "ythkgdhamnpiagaagreat", sum := "86135212a4352dc16352f5e7d8f908da03bbb2819a50a2ce4b06d6e861848b09", func := "waymark/waymarklaw28.NodeStops", spec := "nodeStops", inPlace := ["slices.overlaps[waymark/api.Lsa]", "slices.overlaps[waymark/api.Epoch]", "slices.overlaps[waymark/api.Near]", "slices.overlaps[waymark/api.Item]", "sync/atomic.AddInt64", "maps.clone"], unfollowed := true, recurses := true, apart := false }
def NodeStopsSaid : Prop := nodeStopsRow.holds Tryz.pinned (OpenSpec.ofChange nodeStopsSpec)

/-- ITS FALSE NEIGHBOUR: 'it returns false'. Refute it at one input. -/
def nodeStopsWrong : ChangeSpec := { name := "nodeStops", fn := fun _ => fun
  | [d1, d2, d3] => { results := [.lit (.bool false)], args := [d1, d2, d3] }
  | _ => none }
def NodeStopsWrongFalsely : Prop := nodeStopsRow.holds Tryz.pinned (OpenSpec.ofChange nodeStopsWrong)

/-- 'waymarklaw28.NodeNobody': WHATEVER THE INPUT: true; the input reads as it did. -/
def nodeNobodySpec : ChangeSpec := { name := "nodeNobody", fn := fun _ => fun
  | [d1, d2] => { results := [.lit (.bool true)], args := [d1, d2] }
  | _ => none }
def nodeNobodyRow : OpenClaim := { program := "ythkgdhamnpiagaagreat", sum := "86135212a4352dc16352f5e7d8f908da03bbb2819a50a2ce4b06d6e861848b09", func := "waymark/waymarklaw28.NodeNobody", spec := "nodeNobody", inPlace := ["slices.overlaps[waymark/api.Lsa]", "slices.overlaps[waymark/api.Epoch]", "slices.overlaps[waymark/api.Near]", "slices.overlaps[waymark/api.Item]", "sync/atomic.AddInt64", "sync/atomic.LoadUint32", "(*internal/sync.Mutex).Lock", "internal/race.Disable", "sync/atomic.CompareAndSwapInt32", "internal/race.Enable", "internal/race.Acquire", "(*internal/sync.Mutex).lockSlow", "internal/sync.runtime_canSpin", "internal/sync.runtime_doSpin", "internal/sync.throw", "internal/sync.runtime_nanotime", "internal/sync.runtime_SemacquireMutex", "sync/atomic.AddInt32", "(*internal/sync.Mutex).Unlock", "internal/race.ReleaseMerge", "(*internal/sync.Mutex).unlockSlow", "internal/sync.fatal", "internal/sync.runtime_Semrelease", "sync/atomic.StoreUint32", "sync/atomic.LoadInt64"], unfollowed := true, recurses := true, apart := false }
def NodeNobodySaid : Prop := nodeNobodyRow.holds Tryz.pinned (OpenSpec.ofChange nodeNobodySpec)

/-- ITS FALSE NEIGHBOUR: 'it returns false'. Refute it at one input. -/
def nodeNobodyWrong : ChangeSpec := { name := "nodeNobody", fn := fun _ => fun
  | [d1, d2] => { results := [.lit (.bool false)], args := [d1, d2] }
  | _ => none }
def NodeNobodyWrongFalsely : Prop := nodeNobodyRow.holds Tryz.pinned (OpenSpec.ofChange nodeNobodyWrong)

/- THE SECOND FORM. 'bulk': how many values and letters a reading holds, each counted each time it is reached (what is shared counts as often as it is met; a slice's spare places count too). A statement '..UptoSaid' is the law's where the arguments, and the package variables that the reading takes, are together of bulk at most 1048576: NARROWER than '..Said'. Prove '..Said' where nothing that the law and all that it calls make is longer than what came in: it says more and counts as full. Else prove '..UptoSaid'. A law counts once. -/
mutual
def uptoBulk {H : Type} : DataW H → Nat
  | .lit (.string bytes) => bytes.length + 1
  | .lit _ => 1
  | .nil => 1
  | .ptr d => uptoBulk d + 1
  | .slice elems spare => uptoBulkAll elems + uptoBulkAll spare + 1
  | .agg parts => uptoBulkAll parts + 1
  | .iface _ d => uptoBulk d + 1
  | .map entries => uptoBulkEntries entries + 1
  | .held _ => 1
def uptoBulkAll {H : Type} : List (DataW H) → Nat
  | [] => 0
  | d :: r => uptoBulk d + uptoBulkAll r
def uptoBulkEntries {H : Type} : List (Lit × DataW H) → Nat
  | [] => 0
  | x :: r => uptoBulkEntry x + uptoBulkEntries r
def uptoBulkEntry {H : Type} : Lit × DataW H → Nat
  | (.string bytes, d) => bytes.length + uptoBulk d + 1
  | (_, d) => uptoBulk d + 1
 end
def uptoSmall : (H : Type) → List (DataW H) → Bool := fun _ ds => decide (uptoBulkAll ds ≤ 1048576)
def OpenSpec.upto (s : _root_.Go.ChangeSpec) : _root_.Go.OpenSpec := { _root_.Go.OpenSpec.ofChange s with cond := some uptoSmall }

/-- 'waymarklaw28.NodeRises', WHERE WHAT IT READS IS OF BULK AT MOST 1048576: true; the input reads as it did. -/
def nodeRisesUptoRow : OpenClaim := { program := "ythkgdhamnpiagaagreat", sum := "86135212a4352dc16352f5e7d8f908da03bbb2819a50a2ce4b06d6e861848b09", func := "waymark/waymarklaw28.NodeRises", spec := "nodeRises", inPlace := ["slices.overlaps[waymark/api.Lsa]", "slices.overlaps[waymark/api.Epoch]", "slices.overlaps[waymark/api.Near]", "slices.overlaps[waymark/api.Item]", "sync/atomic.AddInt64"], unfollowed := true, recurses := true, apart := false, narrowed := true }
def NodeRisesUptoSaid : Prop := nodeRisesUptoRow.holds Tryz.pinned (OpenSpec.upto nodeRisesSpec)

/-- 'waymarklaw28.NodeStops', WHERE WHAT IT READS IS OF BULK AT MOST 1048576: true; the input reads as it did. -/
def nodeStopsUptoRow : OpenClaim := { program := "ythkgdhamnpiagaagreat", sum := "86135212a4352dc16352f5e7d8f908da03bbb2819a50a2ce4b06d6e861848b09", func := "waymark/waymarklaw28.NodeStops", spec := "nodeStops", inPlace := ["slices.overlaps[waymark/api.Lsa]", "slices.overlaps[waymark/api.Epoch]", "slices.overlaps[waymark/api.Near]", "slices.overlaps[waymark/api.Item]", "sync/atomic.AddInt64", "maps.clone"], unfollowed := true, recurses := true, apart := false, narrowed := true }
def NodeStopsUptoSaid : Prop := nodeStopsUptoRow.holds Tryz.pinned (OpenSpec.upto nodeStopsSpec)

/-- 'waymarklaw28.NodeNobody', WHERE WHAT IT READS IS OF BULK AT MOST 1048576: true; the input reads as it did. -/
def nodeNobodyUptoRow : OpenClaim := { program := "ythkgdhamnpiagaagreat", sum := "86135212a4352dc16352f5e7d8f908da03bbb2819a50a2ce4b06d6e861848b09", func := "waymark/waymarklaw28.NodeNobody", spec := "nodeNobody", inPlace := ["slices.overlaps[waymark/api.Lsa]", "slices.overlaps[waymark/api.Epoch]", "slices.overlaps[waymark/api.Near]", "slices.overlaps[waymark/api.Item]", "sync/atomic.AddInt64", "sync/atomic.LoadUint32", "(*internal/sync.Mutex).Lock", "internal/race.Disable", "sync/atomic.CompareAndSwapInt32", "internal/race.Enable", "internal/race.Acquire", "(*internal/sync.Mutex).lockSlow", "internal/sync.runtime_canSpin", "internal/sync.runtime_doSpin", "internal/sync.throw", "internal/sync.runtime_nanotime", "internal/sync.runtime_SemacquireMutex", "sync/atomic.AddInt32", "(*internal/sync.Mutex).Unlock", "internal/race.ReleaseMerge", "(*internal/sync.Mutex).unlockSlow", "internal/sync.fatal", "internal/sync.runtime_Semrelease", "sync/atomic.StoreUint32", "sync/atomic.LoadInt64"], unfollowed := true, recurses := true, apart := false, narrowed := true }
def NodeNobodyUptoSaid : Prop := nodeNobodyUptoRow.holds Tryz.pinned (OpenSpec.upto nodeNobodySpec)

end Rows
end Go.Proofs.YthkgdhamnpiagaaGreat
