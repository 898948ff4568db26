/-
  No cell of these rows narrows 'for every input' (looked for: loops, veiled, ifaces, maps, wideKeys, modest, calm, conditions, laid).
  DERIVED. THE GIVEN ROWS OF THIS SEAT. 12 by the template 'for every input the law returns true; each argument reads behind the call as it read before'; 0 by the template 'total and deterministic' (their statements: YtkgemkadebgeoaaTotals.lean).
  GIVEN WITH THE SEED: the statements are not yours to turn. If you find one false, say at which input.
  Laid BY PROGRAM, IN A SANDBOX (cutbox-rows.mjs): the forced cells as the released guide's own fill.sh prints them over the translation bc75dacd1bc78820… (all of the seat's roots in one cut). By AI agents, Wed Nov 11 2026. No macro, syntax, notation, axiom, sorry.
-/
import Derived.Test.YtkgemkadebgeoaaChecked
import GoSem.Claim
import GoSem.ClaimJoined
import GoSem.ClaimMapViews
import Derived.JoinedTies
import Derived.KernelRfl
namespace Go.Proofs.Ytkgemkadebgeoaa
/- THE CELL 'sum', in the pinned program and in every row, IS THE sha256 OF THE DUMP (.gsa) THAT YtkgemkadebgeoaaProg.lean LOADS. Nothing in Lean hashes anything: it is a label: what it is worth is what the hold of that sum in a sandbox is worth. -/
noncomputable def Try.pinned : Pinned := { name := "ytkgemkadebgeoaa", sum := "bc75dacd1bc78820f4e6f4a5d444518b94081de496c2c75372365dce5fd6d64e", checked := Try.checked }
namespace Rows
def none {H : Type} : Left H := { results := [], args := [] }

/-- 'waymarklaw42.TrieActs': WHATEVER THE INPUT: true; the input reads as it did. -/
def trieActsSpec : ChangeSpec := { name := "trieActs", fn := fun _ => fun
  | [d] => { results := [.lit (.bool true)], args := [d] }
  | _ => none }
def trieActsRow : OpenClaim := { program := "ytkgemkadebgeoaa", sum := "bc75dacd1bc78820f4e6f4a5d444518b94081de496c2c75372365dce5fd6d64e", func := "waymark/waymarklaw42.TrieActs", spec := "trieActs", recurses := true, plainKeys := false, apart := false }
def TrieActsSaid : Prop := trieActsRow.holds Try.pinned (OpenSpec.ofChange trieActsSpec)

/-- ITS FALSE NEIGHBOUR: 'it returns false'. Refute it at one input. -/
def trieActsWrong : ChangeSpec := { name := "trieActs", fn := fun _ => fun
  | [d] => { results := [.lit (.bool false)], args := [d] }
  | _ => none }
def TrieActsWrongFalsely : Prop := trieActsRow.holds Try.pinned (OpenSpec.ofChange trieActsWrong)

/-- 'waymarklaw42.TrieOrder': WHATEVER THE INPUT: true; the input reads as it did. -/
def trieOrderSpec : ChangeSpec := { name := "trieOrder", fn := fun _ => fun
  | [d1, d2, d3] => { results := [.lit (.bool true)], args := [d1, d2, d3] }
  | _ => none }
def trieOrderRow : OpenClaim := { program := "ytkgemkadebgeoaa", sum := "bc75dacd1bc78820f4e6f4a5d444518b94081de496c2c75372365dce5fd6d64e", func := "waymark/waymarklaw42.TrieOrder", spec := "trieOrder", recurses := true, plainKeys := false, apart := false }
def TrieOrderSaid : Prop := trieOrderRow.holds Try.pinned (OpenSpec.ofChange trieOrderSpec)

/-- ITS FALSE NEIGHBOUR: 'it returns false'. Refute it at one input. -/
def trieOrderWrong : ChangeSpec := { name := "trieOrder", fn := fun _ => fun
  | [d1, d2, d3] => { results := [.lit (.bool false)], args := [d1, d2, d3] }
  | _ => none }
def TrieOrderWrongFalsely : Prop := trieOrderRow.holds Try.pinned (OpenSpec.ofChange trieOrderWrong)

/-- 'waymarklaw42.TrieNobody': WHATEVER THE INPUT: true; the input reads as it did. -/
def trieNobodySpec : ChangeSpec := { name := "trieNobody", fn := fun _ => fun
  | [d1, d2] => { results := [.lit (.bool true)], args := [d1, d2] }
  | _ => none }
def trieNobodyRow : OpenClaim := { program := "ytkgemkadebgeoaa", sum := "bc75dacd1bc78820f4e6f4a5d444518b94081de496c2c75372365dce5fd6d64e", func := "waymark/waymarklaw42.TrieNobody", spec := "trieNobody", recurses := true, plainKeys := false, apart := false }
def TrieNobodySaid : Prop := trieNobodyRow.holds Try.pinned (OpenSpec.ofChange trieNobodySpec)

/-- ITS FALSE NEIGHBOUR: 'it returns false'. Refute it at one input. -/
def trieNobodyWrong : ChangeSpec := { name := "trieNobody", fn := fun _ => fun
  | [d1, d2] => { results := [.lit (.bool false)], args := [d1, d2] }
  | _ => none }
def TrieNobodyWrongFalsely : Prop := trieNobodyRow.holds Try.pinned (OpenSpec.ofChange trieNobodyWrong)

/-- 'waymarklaw40.ForestOf': WHATEVER THE INPUT: true; the input reads as it did. -/
def forestOfSpec : ChangeSpec := { name := "forestOf", fn := fun _ => fun
  | [d] => { results := [.lit (.bool true)], args := [d] }
  | _ => none }
def forestOfRow : OpenClaim := { program := "ytkgemkadebgeoaa", sum := "bc75dacd1bc78820f4e6f4a5d444518b94081de496c2c75372365dce5fd6d64e", func := "waymark/waymarklaw40.ForestOf", spec := "forestOf", unfollowed := true, recurses := true, plainKeys := false, apart := false }
def ForestOfSaid : Prop := forestOfRow.holds Try.pinned (OpenSpec.ofChange forestOfSpec)

/-- ITS FALSE NEIGHBOUR: 'it returns false'. Refute it at one input. -/
def forestOfWrong : ChangeSpec := { name := "forestOf", fn := fun _ => fun
  | [d] => { results := [.lit (.bool false)], args := [d] }
  | _ => none }
def ForestOfWrongFalsely : Prop := forestOfRow.holds Try.pinned (OpenSpec.ofChange forestOfWrong)

/-- 'waymarklaw40.ForestLeast': WHATEVER THE INPUT: true; the input reads as it did. -/
def forestLeastSpec : ChangeSpec := { name := "forestLeast", fn := fun _ => fun
  | [d1, d2] => { results := [.lit (.bool true)], args := [d1, d2] }
  | _ => none }
def forestLeastRow : OpenClaim := { program := "ytkgemkadebgeoaa", sum := "bc75dacd1bc78820f4e6f4a5d444518b94081de496c2c75372365dce5fd6d64e", func := "waymark/waymarklaw40.ForestLeast", spec := "forestLeast", unfollowed := true, recurses := true, plainKeys := false, apart := false }
def ForestLeastSaid : Prop := forestLeastRow.holds Try.pinned (OpenSpec.ofChange forestLeastSpec)

/-- ITS FALSE NEIGHBOUR: 'it returns false'. Refute it at one input. -/
def forestLeastWrong : ChangeSpec := { name := "forestLeast", fn := fun _ => fun
  | [d1, d2] => { results := [.lit (.bool false)], args := [d1, d2] }
  | _ => none }
def ForestLeastWrongFalsely : Prop := forestLeastRow.holds Try.pinned (OpenSpec.ofChange forestLeastWrong)

/-- 'waymarklaw38.WideThird': WHATEVER THE INPUT: true; the input reads as it did. -/
def wideThirdSpec : ChangeSpec := { name := "wideThird", fn := fun _ => fun
  | [d1, d2] => { results := [.lit (.bool true)], args := [d1, d2] }
  | _ => none }
def wideThirdRow : OpenClaim := { program := "ytkgemkadebgeoaa", sum := "bc75dacd1bc78820f4e6f4a5d444518b94081de496c2c75372365dce5fd6d64e", func := "waymark/waymarklaw38.WideThird", spec := "wideThird", unfollowed := true, recurses := true, plainKeys := false, apart := false }
def WideThirdSaid : Prop := wideThirdRow.holds Try.pinned (OpenSpec.ofChange wideThirdSpec)

/-- ITS FALSE NEIGHBOUR: 'it returns false'. Refute it at one input. -/
def wideThirdWrong : ChangeSpec := { name := "wideThird", fn := fun _ => fun
  | [d1, d2] => { results := [.lit (.bool false)], args := [d1, d2] }
  | _ => none }
def WideThirdWrongFalsely : Prop := wideThirdRow.holds Try.pinned (OpenSpec.ofChange wideThirdWrong)

/-- 'waymarklaw03.DiskFirm': WHATEVER THE INPUT: true; the input reads as it did. -/
def diskFirmSpec : ChangeSpec := { name := "diskFirm", fn := fun _ => fun
  | [d1, d2, d3] => { results := [.lit (.bool true)], args := [d1, d2, d3] }
  | _ => none }
def diskFirmRow : OpenClaim := { program := "ytkgemkadebgeoaa", sum := "bc75dacd1bc78820f4e6f4a5d444518b94081de496c2c75372365dce5fd6d64e", func := "waymark/waymarklaw03.DiskFirm", spec := "diskFirm", unfollowed := true, recurses := true, plainKeys := false, apart := false }
def DiskFirmSaid : Prop := diskFirmRow.holds Try.pinned (OpenSpec.ofChange diskFirmSpec)

/-- ITS FALSE NEIGHBOUR: 'it returns false'. Refute it at one input. -/
def diskFirmWrong : ChangeSpec := { name := "diskFirm", fn := fun _ => fun
  | [d1, d2, d3] => { results := [.lit (.bool false)], args := [d1, d2, d3] }
  | _ => none }
def DiskFirmWrongFalsely : Prop := diskFirmRow.holds Try.pinned (OpenSpec.ofChange diskFirmWrong)

/-- 'waymarklaw03.DiskActs': WHATEVER THE INPUT: true; the input reads as it did. -/
def diskActsSpec : ChangeSpec := { name := "diskActs", fn := fun _ => fun
  | [d1, d2] => { results := [.lit (.bool true)], args := [d1, d2] }
  | _ => none }
def diskActsRow : OpenClaim := { program := "ytkgemkadebgeoaa", sum := "bc75dacd1bc78820f4e6f4a5d444518b94081de496c2c75372365dce5fd6d64e", func := "waymark/waymarklaw03.DiskActs", spec := "diskActs", unfollowed := true, recurses := true, plainKeys := false, apart := false }
def DiskActsSaid : Prop := diskActsRow.holds Try.pinned (OpenSpec.ofChange diskActsSpec)

/-- ITS FALSE NEIGHBOUR: 'it returns false'. Refute it at one input. -/
def diskActsWrong : ChangeSpec := { name := "diskActs", fn := fun _ => fun
  | [d1, d2] => { results := [.lit (.bool false)], args := [d1, d2] }
  | _ => none }
def DiskActsWrongFalsely : Prop := diskActsRow.holds Try.pinned (OpenSpec.ofChange diskActsWrong)

/-- 'waymarklaw03.DiskOnes': WHATEVER THE INPUT: true; the input reads as it did. -/
def diskOnesSpec : ChangeSpec := { name := "diskOnes", fn := fun _ => fun
  | [d1, d2] => { results := [.lit (.bool true)], args := [d1, d2] }
  | _ => none }
def diskOnesRow : OpenClaim := { program := "ytkgemkadebgeoaa", sum := "bc75dacd1bc78820f4e6f4a5d444518b94081de496c2c75372365dce5fd6d64e", func := "waymark/waymarklaw03.DiskOnes", spec := "diskOnes", unfollowed := true, recurses := true, plainKeys := false, apart := false }
def DiskOnesSaid : Prop := diskOnesRow.holds Try.pinned (OpenSpec.ofChange diskOnesSpec)

/-- ITS FALSE NEIGHBOUR: 'it returns false'. Refute it at one input. -/
def diskOnesWrong : ChangeSpec := { name := "diskOnes", fn := fun _ => fun
  | [d1, d2] => { results := [.lit (.bool false)], args := [d1, d2] }
  | _ => none }
def DiskOnesWrongFalsely : Prop := diskOnesRow.holds Try.pinned (OpenSpec.ofChange diskOnesWrong)

/-- 'waymarklaw03.DiskClones': WHATEVER THE INPUT: true; the input reads as it did. -/
def diskClonesSpec : ChangeSpec := { name := "diskClones", fn := fun _ => fun
  | [d1, d2] => { results := [.lit (.bool true)], args := [d1, d2] }
  | _ => none }
def diskClonesRow : OpenClaim := { program := "ytkgemkadebgeoaa", sum := "bc75dacd1bc78820f4e6f4a5d444518b94081de496c2c75372365dce5fd6d64e", func := "waymark/waymarklaw03.DiskClones", spec := "diskClones", inPlace := ["maps.clone"], unfollowed := true, recurses := true, plainKeys := false, apart := false }
def DiskClonesSaid : Prop := diskClonesRow.holds Try.pinned (OpenSpec.ofChange diskClonesSpec)

/-- ITS FALSE NEIGHBOUR: 'it returns false'. Refute it at one input. -/
def diskClonesWrong : ChangeSpec := { name := "diskClones", fn := fun _ => fun
  | [d1, d2] => { results := [.lit (.bool false)], args := [d1, d2] }
  | _ => none }
def DiskClonesWrongFalsely : Prop := diskClonesRow.holds Try.pinned (OpenSpec.ofChange diskClonesWrong)

/-- 'waymarklaw43.FibMakes': WHATEVER THE INPUT: true; the input reads as it did. -/
def fibMakesSpec : ChangeSpec := { name := "fibMakes", fn := fun _ => fun
  | [d1, d2, d3] => { results := [.lit (.bool true)], args := [d1, d2, d3] }
  | _ => none }
def fibMakesRow : OpenClaim := { program := "ytkgemkadebgeoaa", sum := "bc75dacd1bc78820f4e6f4a5d444518b94081de496c2c75372365dce5fd6d64e", func := "waymark/waymarklaw43.FibMakes", spec := "fibMakes", unfollowed := true, recurses := true, plainKeys := false, apart := false }
def FibMakesSaid : Prop := fibMakesRow.holds Try.pinned (OpenSpec.ofChange fibMakesSpec)

/-- ITS FALSE NEIGHBOUR: 'it returns false'. Refute it at one input. -/
def fibMakesWrong : ChangeSpec := { name := "fibMakes", fn := fun _ => fun
  | [d1, d2, d3] => { results := [.lit (.bool false)], args := [d1, d2, d3] }
  | _ => none }
def FibMakesWrongFalsely : Prop := fibMakesRow.holds Try.pinned (OpenSpec.ofChange fibMakesWrong)

/-- 'waymarklaw43.FibOwner': WHATEVER THE INPUT: true; the input reads as it did. -/
def fibOwnerSpec : ChangeSpec := { name := "fibOwner", fn := fun _ => fun
  | [d1, d2, d3] => { results := [.lit (.bool true)], args := [d1, d2, d3] }
  | _ => none }
def fibOwnerRow : OpenClaim := { program := "ytkgemkadebgeoaa", sum := "bc75dacd1bc78820f4e6f4a5d444518b94081de496c2c75372365dce5fd6d64e", func := "waymark/waymarklaw43.FibOwner", spec := "fibOwner", unfollowed := true, recurses := true, plainKeys := false, apart := false }
def FibOwnerSaid : Prop := fibOwnerRow.holds Try.pinned (OpenSpec.ofChange fibOwnerSpec)

/-- ITS FALSE NEIGHBOUR: 'it returns false'. Refute it at one input. -/
def fibOwnerWrong : ChangeSpec := { name := "fibOwner", fn := fun _ => fun
  | [d1, d2, d3] => { results := [.lit (.bool false)], args := [d1, d2, d3] }
  | _ => none }
def FibOwnerWrongFalsely : Prop := fibOwnerRow.holds Try.pinned (OpenSpec.ofChange fibOwnerWrong)

/- THE SECOND FORM. 'bulk': how many values and letters a reading holds, each counted each time it is reached (what is shared counts as often as it is met; a slice's spare places count too). A statement '..UptoSaid' is the law's where the arguments, and the package variables that the reading takes, are together of bulk at most 1048576: NARROWER than '..Said'. Prove '..Said' where nothing that the law and all that it calls make is longer than what came in: it says more and counts as full. Else prove '..UptoSaid'. A law counts once. -/
mutual
def uptoBulk {H : Type} : DataW H → Nat
  | .lit (.string bytes) => bytes.length + 1
  | .lit _ => 1
  | .nil => 1
  | .ptr d => uptoBulk d + 1
  | .slice elems spare => uptoBulkAll elems + uptoBulkAll spare + 1
  | .agg parts => uptoBulkAll parts + 1
  | .iface _ d => uptoBulk d + 1
  | .map entries => uptoBulkEntries entries + 1
  | .held _ => 1
def uptoBulkAll {H : Type} : List (DataW H) → Nat
  | [] => 0
  | d :: r => uptoBulk d + uptoBulkAll r
def uptoBulkEntries {H : Type} : List (Lit × DataW H) → Nat
  | [] => 0
  | x :: r => uptoBulkEntry x + uptoBulkEntries r
def uptoBulkEntry {H : Type} : Lit × DataW H → Nat
  | (.string bytes, d) => bytes.length + uptoBulk d + 1
  | (_, d) => uptoBulk d + 1
 end
def uptoSmall : (H : Type) → List (DataW H) → Bool := fun _ ds => decide (uptoBulkAll ds ≤ 1048576)
def OpenSpec.upto (s : _root_.Go.ChangeSpec) : _root_.Go.OpenSpec := { _root_.Go.OpenSpec.ofChange s with cond := some uptoSmall }

/-- 'waymarklaw42.TrieActs', WHERE WHAT IT READS IS OF BULK AT MOST 1048576: true; the input reads as it did. -/
def trieActsUptoRow : OpenClaim := { program := "ytkgemkadebgeoaa", sum := "bc75dacd1bc78820f4e6f4a5d444518b94081de496c2c75372365dce5fd6d64e", func := "waymark/waymarklaw42.TrieActs", spec := "trieActs", recurses := true, plainKeys := false, apart := false, narrowed := true }
def TrieActsUptoSaid : Prop := trieActsUptoRow.holds Try.pinned (OpenSpec.upto trieActsSpec)

/-- 'waymarklaw42.TrieOrder', WHERE WHAT IT READS IS OF BULK AT MOST 1048576: true; the input reads as it did. -/
def trieOrderUptoRow : OpenClaim := { program := "ytkgemkadebgeoaa", sum := "bc75dacd1bc78820f4e6f4a5d444518b94081de496c2c75372365dce5fd6d64e", func := "waymark/waymarklaw42.TrieOrder", spec := "trieOrder", recurses := true, plainKeys := false, apart := false, narrowed := true }
def TrieOrderUptoSaid : Prop := trieOrderUptoRow.holds Try.pinned (OpenSpec.upto trieOrderSpec)

/-- 'waymarklaw42.TrieNobody', WHERE WHAT IT READS IS OF BULK AT MOST 1048576: true; the input reads as it did. -/
def trieNobodyUptoRow : OpenClaim := { program := "ytkgemkadebgeoaa", sum := "bc75dacd1bc78820f4e6f4a5d444518b94081de496c2c75372365dce5fd6d64e", func := "waymark/waymarklaw42.TrieNobody", spec := "trieNobody", recurses := true, plainKeys := false, apart := false, narrowed := true }
def TrieNobodyUptoSaid : Prop := trieNobodyUptoRow.holds Try.pinned (OpenSpec.upto trieNobodySpec)

/-- 'waymarklaw40.ForestOf', WHERE WHAT IT READS IS OF BULK AT MOST 1048576: true; the input reads as it did. -/
def forestOfUptoRow : OpenClaim := { program := "ytkgemkadebgeoaa", sum := "bc75dacd1bc78820f4e6f4a5d444518b94081de496c2c75372365dce5fd6d64e", func := "waymark/waymarklaw40.ForestOf", spec := "forestOf", unfollowed := true, recurses := true, plainKeys := false, apart := false, narrowed := true }
def ForestOfUptoSaid : Prop := forestOfUptoRow.holds Try.pinned (OpenSpec.upto forestOfSpec)

/-- 'waymarklaw40.ForestLeast', WHERE WHAT IT READS IS OF BULK AT MOST 1048576: true; the input reads as it did. -/
def forestLeastUptoRow : OpenClaim := { program := "ytkgemkadebgeoaa", sum := "bc75dacd1bc78820f4e6f4a5d444518b94081de496c2c75372365dce5fd6d64e", func := "waymark/waymarklaw40.ForestLeast", spec := "forestLeast", unfollowed := true, recurses := true, plainKeys := false, apart := false, narrowed := true }
def ForestLeastUptoSaid : Prop := forestLeastUptoRow.holds Try.pinned (OpenSpec.upto forestLeastSpec)

/-- 'waymarklaw38.WideThird', WHERE WHAT IT READS IS OF BULK AT MOST 1048576: true; the input reads as it did. -/
def wideThirdUptoRow : OpenClaim := { program := "ytkgemkadebgeoaa", sum := "bc75dacd1bc78820f4e6f4a5d444518b94081de496c2c75372365dce5fd6d64e", func := "waymark/waymarklaw38.WideThird", spec := "wideThird", unfollowed := true, recurses := true, plainKeys := false, apart := false, narrowed := true }
def WideThirdUptoSaid : Prop := wideThirdUptoRow.holds Try.pinned (OpenSpec.upto wideThirdSpec)

/-- 'waymarklaw03.DiskFirm', WHERE WHAT IT READS IS OF BULK AT MOST 1048576: true; the input reads as it did. -/
def diskFirmUptoRow : OpenClaim := { program := "ytkgemkadebgeoaa", sum := "bc75dacd1bc78820f4e6f4a5d444518b94081de496c2c75372365dce5fd6d64e", func := "waymark/waymarklaw03.DiskFirm", spec := "diskFirm", unfollowed := true, recurses := true, plainKeys := false, apart := false, narrowed := true }
def DiskFirmUptoSaid : Prop := diskFirmUptoRow.holds Try.pinned (OpenSpec.upto diskFirmSpec)

/-- 'waymarklaw03.DiskActs', WHERE WHAT IT READS IS OF BULK AT MOST 1048576: true; the input reads as it did. -/
def diskActsUptoRow : OpenClaim := { program := "ytkgemkadebgeoaa", sum := "bc75dacd1bc78820f4e6f4a5d444518b94081de496c2c75372365dce5fd6d64e", func := "waymark/waymarklaw03.DiskActs", spec := "diskActs", unfollowed := true, recurses := true, plainKeys := false, apart := false, narrowed := true }
def DiskActsUptoSaid : Prop := diskActsUptoRow.holds Try.pinned (OpenSpec.upto diskActsSpec)

/-- 'waymarklaw03.DiskOnes', WHERE WHAT IT READS IS OF BULK AT MOST 1048576: true; the input reads as it did. -/
def diskOnesUptoRow : OpenClaim := { program := "ytkgemkadebgeoaa", sum := "bc75dacd1bc78820f4e6f4a5d444518b94081de496c2c75372365dce5fd6d64e", func := "waymark/waymarklaw03.DiskOnes", spec := "diskOnes", unfollowed := true, recurses := true, plainKeys := false, apart := false, narrowed := true }
def DiskOnesUptoSaid : Prop := diskOnesUptoRow.holds Try.pinned (OpenSpec.upto diskOnesSpec)

/-- 'waymarklaw03.DiskClones', WHERE WHAT IT READS IS OF BULK AT MOST 1048576: true; the input reads as it did. -/
def diskClonesUptoRow : OpenClaim := { program := "ytkgemkadebgeoaa", sum := "bc75dacd1bc78820f4e6f4a5d444518b94081de496c2c75372365dce5fd6d64e", func := "waymark/waymarklaw03.DiskClones", spec := "diskClones", inPlace := ["maps.clone"], unfollowed := true, recurses := true, plainKeys := false, apart := false, narrowed := true }
def DiskClonesUptoSaid : Prop := diskClonesUptoRow.holds Try.pinned (OpenSpec.upto diskClonesSpec)

/-- 'waymarklaw43.FibMakes', WHERE WHAT IT READS IS OF BULK AT MOST 1048576: true; the input reads as it did. -/
def fibMakesUptoRow : OpenClaim := { program := "ytkgemkadebgeoaa", sum := "bc75dacd1bc78820f4e6f4a5d444518b94081de496c2c75372365dce5fd6d64e", func := "waymark/waymarklaw43.FibMakes", spec := "fibMakes", unfollowed := true, recurses := true, plainKeys := false, apart := false, narrowed := true }
def FibMakesUptoSaid : Prop := fibMakesUptoRow.holds Try.pinned (OpenSpec.upto fibMakesSpec)

/-- 'waymarklaw43.FibOwner', WHERE WHAT IT READS IS OF BULK AT MOST 1048576: true; the input reads as it did. -/
def fibOwnerUptoRow : OpenClaim := { program := "ytkgemkadebgeoaa", sum := "bc75dacd1bc78820f4e6f4a5d444518b94081de496c2c75372365dce5fd6d64e", func := "waymark/waymarklaw43.FibOwner", spec := "fibOwner", unfollowed := true, recurses := true, plainKeys := false, apart := false, narrowed := true }
def FibOwnerUptoSaid : Prop := fibOwnerUptoRow.holds Try.pinned (OpenSpec.upto fibOwnerSpec)

end Rows
end Go.Proofs.Ytkgemkadebgeoaa
