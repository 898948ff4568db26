/-
  No cell of these rows narrows 'for every input' (looked for: loops, veiled, ifaces, maps, wideKeys, modest, calm, conditions, laid).
  DERIVED. THE GIVEN ROWS OF THIS SEAT. 23 by the template 'for every input the law returns true; each argument reads behind the call as it read before'; 0 by the template 'total and deterministic' (their statements: YtmcannmjielalaaTotals.lean).
  GIVEN WITH THE SEED: the statements are not yours to turn. If you find one false, say at which input.
  Laid BY PROGRAM, IN A SANDBOX (cutbox-rows.mjs): the forced cells as the released guide's own fill.sh prints them over the translation b939b0dc44b1877a… (all of the seat's roots in one cut). By AI agents, Wed Nov 11 2026. No macro, syntax, notation, axiom, sorry.
-/
import Derived.Test.YtmcannmjielalaaChecked
import GoSem.Claim
import GoSem.ClaimJoined
import GoSem.ClaimMapViews
import Derived.JoinedTies
import Derived.KernelRfl
namespace Go.Proofs.Ytmcannmjielalaa
/- THE CELL 'sum', in the pinned program and in every row, IS THE sha256 OF THE DUMP (.gsa) THAT YtmcannmjielalaaProg.lean LOADS. Nothing in Lean hashes anything: it is a label: what it is worth is what the hold of that sum in a sandbox is worth. -/
noncomputable def Try.pinned : Pinned := { name := "ytmcannmjielalaa", sum := "b939b0dc44b1877a9a39ae53f649b84764ebc4d2d4dd1a5dc7e75a64239d6c82", checked := Try.checked }
namespace Rows
def none {H : Type} : Left H := { results := [], args := [] }

/-- 'waymarklaw24.GraphTells': WHATEVER THE INPUT: true; the input reads as it did. -/
def graphTellsSpec : ChangeSpec := { name := "graphTells", fn := fun _ => fun
  | [d1, d2] => { results := [.lit (.bool true)], args := [d1, d2] }
  | _ => none }
def graphTellsRow : OpenClaim := { program := "ytmcannmjielalaa", sum := "b939b0dc44b1877a9a39ae53f649b84764ebc4d2d4dd1a5dc7e75a64239d6c82", func := "waymark/waymarklaw24.GraphTells", spec := "graphTells", unfollowed := true, recurses := true, plainKeys := false, apart := false }
def GraphTellsSaid : Prop := graphTellsRow.holds Try.pinned (OpenSpec.ofChange graphTellsSpec)

/-- ITS FALSE NEIGHBOUR: 'it returns false'. Refute it at one input. -/
def graphTellsWrong : ChangeSpec := { name := "graphTells", fn := fun _ => fun
  | [d1, d2] => { results := [.lit (.bool false)], args := [d1, d2] }
  | _ => none }
def GraphTellsWrongFalsely : Prop := graphTellsRow.holds Try.pinned (OpenSpec.ofChange graphTellsWrong)

/-- 'waymarklaw49.FlowCuts': WHATEVER THE INPUT: true; the input reads as it did. -/
def flowCutsSpec : ChangeSpec := { name := "flowCuts", fn := fun _ => fun
  | [d1, d2, d3] => { results := [.lit (.bool true)], args := [d1, d2, d3] }
  | _ => none }
def flowCutsRow : OpenClaim := { program := "ytmcannmjielalaa", sum := "b939b0dc44b1877a9a39ae53f649b84764ebc4d2d4dd1a5dc7e75a64239d6c82", func := "waymark/waymarklaw49.FlowCuts", spec := "flowCuts", unfollowed := true, recurses := true, plainKeys := false, apart := false }
def FlowCutsSaid : Prop := flowCutsRow.holds Try.pinned (OpenSpec.ofChange flowCutsSpec)

/-- ITS FALSE NEIGHBOUR: 'it returns false'. Refute it at one input. -/
def flowCutsWrong : ChangeSpec := { name := "flowCuts", fn := fun _ => fun
  | [d1, d2, d3] => { results := [.lit (.bool false)], args := [d1, d2, d3] }
  | _ => none }
def FlowCutsWrongFalsely : Prop := flowCutsRow.holds Try.pinned (OpenSpec.ofChange flowCutsWrong)

/-- 'waymarklaw25.SpfRoutes': WHATEVER THE INPUT: true; the input reads as it did. -/
def spfRoutesSpec : ChangeSpec := { name := "spfRoutes", fn := fun _ => fun
  | [d1, d2] => { results := [.lit (.bool true)], args := [d1, d2] }
  | _ => none }
def spfRoutesRow : OpenClaim := { program := "ytmcannmjielalaa", sum := "b939b0dc44b1877a9a39ae53f649b84764ebc4d2d4dd1a5dc7e75a64239d6c82", func := "waymark/waymarklaw25.SpfRoutes", spec := "spfRoutes", unfollowed := true, recurses := true, plainKeys := false, apart := false }
def SpfRoutesSaid : Prop := spfRoutesRow.holds Try.pinned (OpenSpec.ofChange spfRoutesSpec)

/-- ITS FALSE NEIGHBOUR: 'it returns false'. Refute it at one input. -/
def spfRoutesWrong : ChangeSpec := { name := "spfRoutes", fn := fun _ => fun
  | [d1, d2] => { results := [.lit (.bool false)], args := [d1, d2] }
  | _ => none }
def SpfRoutesWrongFalsely : Prop := spfRoutesRow.holds Try.pinned (OpenSpec.ofChange spfRoutesWrong)

/-- 'waymarklaw25.SpfTriangle': WHATEVER THE INPUT: true; the input reads as it did. -/
def spfTriangleSpec : ChangeSpec := { name := "spfTriangle", fn := fun _ => fun
  | [d1, d2] => { results := [.lit (.bool true)], args := [d1, d2] }
  | _ => none }
def spfTriangleRow : OpenClaim := { program := "ytmcannmjielalaa", sum := "b939b0dc44b1877a9a39ae53f649b84764ebc4d2d4dd1a5dc7e75a64239d6c82", func := "waymark/waymarklaw25.SpfTriangle", spec := "spfTriangle", unfollowed := true, recurses := true, plainKeys := false, apart := false }
def SpfTriangleSaid : Prop := spfTriangleRow.holds Try.pinned (OpenSpec.ofChange spfTriangleSpec)

/-- ITS FALSE NEIGHBOUR: 'it returns false'. Refute it at one input. -/
def spfTriangleWrong : ChangeSpec := { name := "spfTriangle", fn := fun _ => fun
  | [d1, d2] => { results := [.lit (.bool false)], args := [d1, d2] }
  | _ => none }
def SpfTriangleWrongFalsely : Prop := spfTriangleRow.holds Try.pinned (OpenSpec.ofChange spfTriangleWrong)

/-- 'waymarklaw47.MatrixOf': WHATEVER THE INPUT: true; the input reads as it did. -/
def matrixOfSpec : ChangeSpec := { name := "matrixOf", fn := fun _ => fun
  | [d] => { results := [.lit (.bool true)], args := [d] }
  | _ => none }
def matrixOfRow : OpenClaim := { program := "ytmcannmjielalaa", sum := "b939b0dc44b1877a9a39ae53f649b84764ebc4d2d4dd1a5dc7e75a64239d6c82", func := "waymark/waymarklaw47.MatrixOf", spec := "matrixOf", unfollowed := true, recurses := true, plainKeys := false, apart := false }
def MatrixOfSaid : Prop := matrixOfRow.holds Try.pinned (OpenSpec.ofChange matrixOfSpec)

/-- ITS FALSE NEIGHBOUR: 'it returns false'. Refute it at one input. -/
def matrixOfWrong : ChangeSpec := { name := "matrixOf", fn := fun _ => fun
  | [d] => { results := [.lit (.bool false)], args := [d] }
  | _ => none }
def MatrixOfWrongFalsely : Prop := matrixOfRow.holds Try.pinned (OpenSpec.ofChange matrixOfWrong)

/-- 'waymarklaw26.RouteOf': WHATEVER THE INPUT: true; the input reads as it did. -/
def routeOfSpec : ChangeSpec := { name := "routeOf", fn := fun _ => fun
  | [d1, d2, d3] => { results := [.lit (.bool true)], args := [d1, d2, d3] }
  | _ => none }
def routeOfRow : OpenClaim := { program := "ytmcannmjielalaa", sum := "b939b0dc44b1877a9a39ae53f649b84764ebc4d2d4dd1a5dc7e75a64239d6c82", func := "waymark/waymarklaw26.RouteOf", spec := "routeOf", unfollowed := true, recurses := true, plainKeys := false, apart := false }
def RouteOfSaid : Prop := routeOfRow.holds Try.pinned (OpenSpec.ofChange routeOfSpec)

/-- ITS FALSE NEIGHBOUR: 'it returns false'. Refute it at one input. -/
def routeOfWrong : ChangeSpec := { name := "routeOf", fn := fun _ => fun
  | [d1, d2, d3] => { results := [.lit (.bool false)], args := [d1, d2, d3] }
  | _ => none }
def RouteOfWrongFalsely : Prop := routeOfRow.holds Try.pinned (OpenSpec.ofChange routeOfWrong)

/-- 'waymarklaw26.RouteEnds': WHATEVER THE INPUT: true; the input reads as it did. -/
def routeEndsSpec : ChangeSpec := { name := "routeEnds", fn := fun _ => fun
  | [d1, d2, d3] => { results := [.lit (.bool true)], args := [d1, d2, d3] }
  | _ => none }
def routeEndsRow : OpenClaim := { program := "ytmcannmjielalaa", sum := "b939b0dc44b1877a9a39ae53f649b84764ebc4d2d4dd1a5dc7e75a64239d6c82", func := "waymark/waymarklaw26.RouteEnds", spec := "routeEnds", unfollowed := true, recurses := true, plainKeys := false, apart := false }
def RouteEndsSaid : Prop := routeEndsRow.holds Try.pinned (OpenSpec.ofChange routeEndsSpec)

/-- ITS FALSE NEIGHBOUR: 'it returns false'. Refute it at one input. -/
def routeEndsWrong : ChangeSpec := { name := "routeEnds", fn := fun _ => fun
  | [d1, d2, d3] => { results := [.lit (.bool false)], args := [d1, d2, d3] }
  | _ => none }
def RouteEndsWrongFalsely : Prop := routeEndsRow.holds Try.pinned (OpenSpec.ofChange routeEndsWrong)

/-- 'waymarklaw37.SpareFree': WHATEVER THE INPUT: true; the input reads as it did. -/
def spareFreeSpec : ChangeSpec := { name := "spareFree", fn := fun _ => fun
  | [d1, d2, d3] => { results := [.lit (.bool true)], args := [d1, d2, d3] }
  | _ => none }
def spareFreeRow : OpenClaim := { program := "ytmcannmjielalaa", sum := "b939b0dc44b1877a9a39ae53f649b84764ebc4d2d4dd1a5dc7e75a64239d6c82", func := "waymark/waymarklaw37.SpareFree", spec := "spareFree", unfollowed := true, recurses := true, plainKeys := false, apart := false }
def SpareFreeSaid : Prop := spareFreeRow.holds Try.pinned (OpenSpec.ofChange spareFreeSpec)

/-- ITS FALSE NEIGHBOUR: 'it returns false'. Refute it at one input. -/
def spareFreeWrong : ChangeSpec := { name := "spareFree", fn := fun _ => fun
  | [d1, d2, d3] => { results := [.lit (.bool false)], args := [d1, d2, d3] }
  | _ => none }
def SpareFreeWrongFalsely : Prop := spareFreeRow.holds Try.pinned (OpenSpec.ofChange spareFreeWrong)

/-- 'waymarklaw45.WhatifBases': WHATEVER THE INPUT: true; the input reads as it did. -/
def whatifBasesSpec : ChangeSpec := { name := "whatifBases", fn := fun _ => fun
  | [d1, d2, d3] => { results := [.lit (.bool true)], args := [d1, d2, d3] }
  | _ => none }
def whatifBasesRow : OpenClaim := { program := "ytmcannmjielalaa", sum := "b939b0dc44b1877a9a39ae53f649b84764ebc4d2d4dd1a5dc7e75a64239d6c82", func := "waymark/waymarklaw45.WhatifBases", spec := "whatifBases", unfollowed := true, recurses := true, plainKeys := false, apart := false }
def WhatifBasesSaid : Prop := whatifBasesRow.holds Try.pinned (OpenSpec.ofChange whatifBasesSpec)

/-- ITS FALSE NEIGHBOUR: 'it returns false'. Refute it at one input. -/
def whatifBasesWrong : ChangeSpec := { name := "whatifBases", fn := fun _ => fun
  | [d1, d2, d3] => { results := [.lit (.bool false)], args := [d1, d2, d3] }
  | _ => none }
def WhatifBasesWrongFalsely : Prop := whatifBasesRow.holds Try.pinned (OpenSpec.ofChange whatifBasesWrong)

/-- 'waymarklaw45.WhatifTurns': WHATEVER THE INPUT: true; the input reads as it did. -/
def whatifTurnsSpec : ChangeSpec := { name := "whatifTurns", fn := fun _ => fun
  | [d1, d2, d3] => { results := [.lit (.bool true)], args := [d1, d2, d3] }
  | _ => none }
def whatifTurnsRow : OpenClaim := { program := "ytmcannmjielalaa", sum := "b939b0dc44b1877a9a39ae53f649b84764ebc4d2d4dd1a5dc7e75a64239d6c82", func := "waymark/waymarklaw45.WhatifTurns", spec := "whatifTurns", unfollowed := true, recurses := true, plainKeys := false, apart := false }
def WhatifTurnsSaid : Prop := whatifTurnsRow.holds Try.pinned (OpenSpec.ofChange whatifTurnsSpec)

/-- ITS FALSE NEIGHBOUR: 'it returns false'. Refute it at one input. -/
def whatifTurnsWrong : ChangeSpec := { name := "whatifTurns", fn := fun _ => fun
  | [d1, d2, d3] => { results := [.lit (.bool false)], args := [d1, d2, d3] }
  | _ => none }
def WhatifTurnsWrongFalsely : Prop := whatifTurnsRow.holds Try.pinned (OpenSpec.ofChange whatifTurnsWrong)

/-- 'waymarklaw45.WhatifFarther': WHATEVER THE INPUT: true; the input reads as it did. -/
def whatifFartherSpec : ChangeSpec := { name := "whatifFarther", fn := fun _ => fun
  | [d1, d2, d3] => { results := [.lit (.bool true)], args := [d1, d2, d3] }
  | _ => none }
def whatifFartherRow : OpenClaim := { program := "ytmcannmjielalaa", sum := "b939b0dc44b1877a9a39ae53f649b84764ebc4d2d4dd1a5dc7e75a64239d6c82", func := "waymark/waymarklaw45.WhatifFarther", spec := "whatifFarther", unfollowed := true, recurses := true, plainKeys := false, apart := false }
def WhatifFartherSaid : Prop := whatifFartherRow.holds Try.pinned (OpenSpec.ofChange whatifFartherSpec)

/-- ITS FALSE NEIGHBOUR: 'it returns false'. Refute it at one input. -/
def whatifFartherWrong : ChangeSpec := { name := "whatifFarther", fn := fun _ => fun
  | [d1, d2, d3] => { results := [.lit (.bool false)], args := [d1, d2, d3] }
  | _ => none }
def WhatifFartherWrongFalsely : Prop := whatifFartherRow.holds Try.pinned (OpenSpec.ofChange whatifFartherWrong)

/-- 'waymarklaw44.HopGoes': WHATEVER THE INPUT: true; the input reads as it did. -/
def hopGoesSpec : ChangeSpec := { name := "hopGoes", fn := fun _ => fun
  | [d1, d2] => { results := [.lit (.bool true)], args := [d1, d2] }
  | _ => none }
def hopGoesRow : OpenClaim := { program := "ytmcannmjielalaa", sum := "b939b0dc44b1877a9a39ae53f649b84764ebc4d2d4dd1a5dc7e75a64239d6c82", func := "waymark/waymarklaw44.HopGoes", spec := "hopGoes", unfollowed := true, recurses := true, plainKeys := false, apart := false }
def HopGoesSaid : Prop := hopGoesRow.holds Try.pinned (OpenSpec.ofChange hopGoesSpec)

/-- ITS FALSE NEIGHBOUR: 'it returns false'. Refute it at one input. -/
def hopGoesWrong : ChangeSpec := { name := "hopGoes", fn := fun _ => fun
  | [d1, d2] => { results := [.lit (.bool false)], args := [d1, d2] }
  | _ => none }
def HopGoesWrongFalsely : Prop := hopGoesRow.holds Try.pinned (OpenSpec.ofChange hopGoesWrong)

/-- 'waymarklaw44.HopAgrees': WHATEVER THE INPUT: true; the input reads as it did. -/
def hopAgreesSpec : ChangeSpec := { name := "hopAgrees", fn := fun _ => fun
  | [d1, d2, d3] => { results := [.lit (.bool true)], args := [d1, d2, d3] }
  | _ => none }
def hopAgreesRow : OpenClaim := { program := "ytmcannmjielalaa", sum := "b939b0dc44b1877a9a39ae53f649b84764ebc4d2d4dd1a5dc7e75a64239d6c82", func := "waymark/waymarklaw44.HopAgrees", spec := "hopAgrees", unfollowed := true, recurses := true, plainKeys := false, apart := false }
def HopAgreesSaid : Prop := hopAgreesRow.holds Try.pinned (OpenSpec.ofChange hopAgreesSpec)

/-- ITS FALSE NEIGHBOUR: 'it returns false'. Refute it at one input. -/
def hopAgreesWrong : ChangeSpec := { name := "hopAgrees", fn := fun _ => fun
  | [d1, d2, d3] => { results := [.lit (.bool false)], args := [d1, d2, d3] }
  | _ => none }
def HopAgreesWrongFalsely : Prop := hopAgreesRow.holds Try.pinned (OpenSpec.ofChange hopAgreesWrong)

/-- 'waymarklaw44.HopAgree': WHATEVER THE INPUT: true; the input reads as it did. -/
def hopAgreeSpec : ChangeSpec := { name := "hopAgree", fn := fun _ => fun
  | [d1, d2] => { results := [.lit (.bool true)], args := [d1, d2] }
  | _ => none }
def hopAgreeRow : OpenClaim := { program := "ytmcannmjielalaa", sum := "b939b0dc44b1877a9a39ae53f649b84764ebc4d2d4dd1a5dc7e75a64239d6c82", func := "waymark/waymarklaw44.HopAgree", spec := "hopAgree", unfollowed := true, recurses := true, plainKeys := false, apart := false }
def HopAgreeSaid : Prop := hopAgreeRow.holds Try.pinned (OpenSpec.ofChange hopAgreeSpec)

/-- ITS FALSE NEIGHBOUR: 'it returns false'. Refute it at one input. -/
def hopAgreeWrong : ChangeSpec := { name := "hopAgree", fn := fun _ => fun
  | [d1, d2] => { results := [.lit (.bool false)], args := [d1, d2] }
  | _ => none }
def HopAgreeWrongFalsely : Prop := hopAgreeRow.holds Try.pinned (OpenSpec.ofChange hopAgreeWrong)

/-- 'waymarklaw48.KpathPaths': WHATEVER THE INPUT: true; the input reads as it did. -/
def kpathPathsSpec : ChangeSpec := { name := "kpathPaths", fn := fun _ => fun
  | [d1, d2] => { results := [.lit (.bool true)], args := [d1, d2] }
  | _ => none }
def kpathPathsRow : OpenClaim := { program := "ytmcannmjielalaa", sum := "b939b0dc44b1877a9a39ae53f649b84764ebc4d2d4dd1a5dc7e75a64239d6c82", func := "waymark/waymarklaw48.KpathPaths", spec := "kpathPaths", unfollowed := true, recurses := true, plainKeys := false, apart := false }
def KpathPathsSaid : Prop := kpathPathsRow.holds Try.pinned (OpenSpec.ofChange kpathPathsSpec)

/-- ITS FALSE NEIGHBOUR: 'it returns false'. Refute it at one input. -/
def kpathPathsWrong : ChangeSpec := { name := "kpathPaths", fn := fun _ => fun
  | [d1, d2] => { results := [.lit (.bool false)], args := [d1, d2] }
  | _ => none }
def KpathPathsWrongFalsely : Prop := kpathPathsRow.holds Try.pinned (OpenSpec.ofChange kpathPathsWrong)

/-- 'waymarklaw39.BridgeFinds': WHATEVER THE INPUT: true; the input reads as it did. -/
def bridgeFindsSpec : ChangeSpec := { name := "bridgeFinds", fn := fun _ => fun
  | [d] => { results := [.lit (.bool true)], args := [d] }
  | _ => none }
def bridgeFindsRow : OpenClaim := { program := "ytmcannmjielalaa", sum := "b939b0dc44b1877a9a39ae53f649b84764ebc4d2d4dd1a5dc7e75a64239d6c82", func := "waymark/waymarklaw39.BridgeFinds", spec := "bridgeFinds", inPlace := ["maps.clone"], unfollowed := true, recurses := true, plainKeys := false, apart := false }
def BridgeFindsSaid : Prop := bridgeFindsRow.holds Try.pinned (OpenSpec.ofChange bridgeFindsSpec)

/-- ITS FALSE NEIGHBOUR: 'it returns false'. Refute it at one input. -/
def bridgeFindsWrong : ChangeSpec := { name := "bridgeFinds", fn := fun _ => fun
  | [d] => { results := [.lit (.bool false)], args := [d] }
  | _ => none }
def BridgeFindsWrongFalsely : Prop := bridgeFindsRow.holds Try.pinned (OpenSpec.ofChange bridgeFindsWrong)

/-- 'waymarklaw39.BridgePieces': WHATEVER THE INPUT: true; the input reads as it did. -/
def bridgePiecesSpec : ChangeSpec := { name := "bridgePieces", fn := fun _ => fun
  | [d] => { results := [.lit (.bool true)], args := [d] }
  | _ => none }
def bridgePiecesRow : OpenClaim := { program := "ytmcannmjielalaa", sum := "b939b0dc44b1877a9a39ae53f649b84764ebc4d2d4dd1a5dc7e75a64239d6c82", func := "waymark/waymarklaw39.BridgePieces", spec := "bridgePieces", inPlace := ["maps.clone"], unfollowed := true, recurses := true, plainKeys := false, apart := false }
def BridgePiecesSaid : Prop := bridgePiecesRow.holds Try.pinned (OpenSpec.ofChange bridgePiecesSpec)

/-- ITS FALSE NEIGHBOUR: 'it returns false'. Refute it at one input. -/
def bridgePiecesWrong : ChangeSpec := { name := "bridgePieces", fn := fun _ => fun
  | [d] => { results := [.lit (.bool false)], args := [d] }
  | _ => none }
def BridgePiecesWrongFalsely : Prop := bridgePiecesRow.holds Try.pinned (OpenSpec.ofChange bridgePiecesWrong)

/-- 'waymarklaw27.LiveArcs': WHATEVER THE INPUT: true; the input reads as it did. -/
def liveArcsSpec : ChangeSpec := { name := "liveArcs", fn := fun _ => fun
  | [d1, d2] => { results := [.lit (.bool true)], args := [d1, d2] }
  | _ => none }
def liveArcsRow : OpenClaim := { program := "ytmcannmjielalaa", sum := "b939b0dc44b1877a9a39ae53f649b84764ebc4d2d4dd1a5dc7e75a64239d6c82", func := "waymark/waymarklaw27.LiveArcs", spec := "liveArcs", unfollowed := true, recurses := true, plainKeys := false, apart := false }
def LiveArcsSaid : Prop := liveArcsRow.holds Try.pinned (OpenSpec.ofChange liveArcsSpec)

/-- ITS FALSE NEIGHBOUR: 'it returns false'. Refute it at one input. -/
def liveArcsWrong : ChangeSpec := { name := "liveArcs", fn := fun _ => fun
  | [d1, d2] => { results := [.lit (.bool false)], args := [d1, d2] }
  | _ => none }
def LiveArcsWrongFalsely : Prop := liveArcsRow.holds Try.pinned (OpenSpec.ofChange liveArcsWrong)

/-- 'waymarklaw36.EcmpAll': WHATEVER THE INPUT: true; the input reads as it did. -/
def ecmpAllSpec : ChangeSpec := { name := "ecmpAll", fn := fun _ => fun
  | [d1, d2] => { results := [.lit (.bool true)], args := [d1, d2] }
  | _ => none }
def ecmpAllRow : OpenClaim := { program := "ytmcannmjielalaa", sum := "b939b0dc44b1877a9a39ae53f649b84764ebc4d2d4dd1a5dc7e75a64239d6c82", func := "waymark/waymarklaw36.EcmpAll", spec := "ecmpAll", unfollowed := true, recurses := true, plainKeys := false, apart := false }
def EcmpAllSaid : Prop := ecmpAllRow.holds Try.pinned (OpenSpec.ofChange ecmpAllSpec)

/-- ITS FALSE NEIGHBOUR: 'it returns false'. Refute it at one input. -/
def ecmpAllWrong : ChangeSpec := { name := "ecmpAll", fn := fun _ => fun
  | [d1, d2] => { results := [.lit (.bool false)], args := [d1, d2] }
  | _ => none }
def EcmpAllWrongFalsely : Prop := ecmpAllRow.holds Try.pinned (OpenSpec.ofChange ecmpAllWrong)

/-- 'waymarklaw36.EcmpLeast': WHATEVER THE INPUT: true; the input reads as it did. -/
def ecmpLeastSpec : ChangeSpec := { name := "ecmpLeast", fn := fun _ => fun
  | [d1, d2, d3] => { results := [.lit (.bool true)], args := [d1, d2, d3] }
  | _ => none }
def ecmpLeastRow : OpenClaim := { program := "ytmcannmjielalaa", sum := "b939b0dc44b1877a9a39ae53f649b84764ebc4d2d4dd1a5dc7e75a64239d6c82", func := "waymark/waymarklaw36.EcmpLeast", spec := "ecmpLeast", unfollowed := true, recurses := true, plainKeys := false, apart := false }
def EcmpLeastSaid : Prop := ecmpLeastRow.holds Try.pinned (OpenSpec.ofChange ecmpLeastSpec)

/-- ITS FALSE NEIGHBOUR: 'it returns false'. Refute it at one input. -/
def ecmpLeastWrong : ChangeSpec := { name := "ecmpLeast", fn := fun _ => fun
  | [d1, d2, d3] => { results := [.lit (.bool false)], args := [d1, d2, d3] }
  | _ => none }
def EcmpLeastWrongFalsely : Prop := ecmpLeastRow.holds Try.pinned (OpenSpec.ofChange ecmpLeastWrong)

/-- 'waymarklaw48.KpathFirst': WHATEVER THE INPUT: true; the input reads as it did. -/
def kpathFirstSpec : ChangeSpec := { name := "kpathFirst", fn := fun _ => fun
  | [d1, d2] => { results := [.lit (.bool true)], args := [d1, d2] }
  | _ => none }
def kpathFirstRow : OpenClaim := { program := "ytmcannmjielalaa", sum := "b939b0dc44b1877a9a39ae53f649b84764ebc4d2d4dd1a5dc7e75a64239d6c82", func := "waymark/waymarklaw48.KpathFirst", spec := "kpathFirst", unfollowed := true, recurses := true, plainKeys := false, apart := false }
def KpathFirstSaid : Prop := kpathFirstRow.holds Try.pinned (OpenSpec.ofChange kpathFirstSpec)

/-- ITS FALSE NEIGHBOUR: 'it returns false'. Refute it at one input. -/
def kpathFirstWrong : ChangeSpec := { name := "kpathFirst", fn := fun _ => fun
  | [d1, d2] => { results := [.lit (.bool false)], args := [d1, d2] }
  | _ => none }
def KpathFirstWrongFalsely : Prop := kpathFirstRow.holds Try.pinned (OpenSpec.ofChange kpathFirstWrong)

/-- 'waymarklaw51.GenHangs': WHATEVER THE INPUT: true; the input reads as it did. -/
def genHangsSpec : ChangeSpec := { name := "genHangs", fn := fun _ => fun
  | [d1, d2, d3] => { results := [.lit (.bool true)], args := [d1, d2, d3] }
  | _ => none }
def genHangsRow : OpenClaim := { program := "ytmcannmjielalaa", sum := "b939b0dc44b1877a9a39ae53f649b84764ebc4d2d4dd1a5dc7e75a64239d6c82", func := "waymark/waymarklaw51.GenHangs", spec := "genHangs", unfollowed := true, recurses := true, plainKeys := false, apart := false }
def GenHangsSaid : Prop := genHangsRow.holds Try.pinned (OpenSpec.ofChange genHangsSpec)

/-- ITS FALSE NEIGHBOUR: 'it returns false'. Refute it at one input. -/
def genHangsWrong : ChangeSpec := { name := "genHangs", fn := fun _ => fun
  | [d1, d2, d3] => { results := [.lit (.bool false)], args := [d1, d2, d3] }
  | _ => none }
def GenHangsWrongFalsely : Prop := genHangsRow.holds Try.pinned (OpenSpec.ofChange genHangsWrong)

/-- 'waymarklaw52.LoadKeeps': WHATEVER THE INPUT: true; the input reads as it did. -/
def loadKeepsSpec : ChangeSpec := { name := "loadKeeps", fn := fun _ => fun
  | [d1, d2] => { results := [.lit (.bool true)], args := [d1, d2] }
  | _ => none }
def loadKeepsRow : OpenClaim := { program := "ytmcannmjielalaa", sum := "b939b0dc44b1877a9a39ae53f649b84764ebc4d2d4dd1a5dc7e75a64239d6c82", func := "waymark/waymarklaw52.LoadKeeps", spec := "loadKeeps", unfollowed := true, recurses := true, plainKeys := false, apart := false }
def LoadKeepsSaid : Prop := loadKeepsRow.holds Try.pinned (OpenSpec.ofChange loadKeepsSpec)

/-- ITS FALSE NEIGHBOUR: 'it returns false'. Refute it at one input. -/
def loadKeepsWrong : ChangeSpec := { name := "loadKeeps", fn := fun _ => fun
  | [d1, d2] => { results := [.lit (.bool false)], args := [d1, d2] }
  | _ => none }
def LoadKeepsWrongFalsely : Prop := loadKeepsRow.holds Try.pinned (OpenSpec.ofChange loadKeepsWrong)

/- THE SECOND FORM. 'bulk': how many values and letters a reading holds, each counted each time it is reached (what is shared counts as often as it is met; a slice's spare places count too). A statement '..UptoSaid' is the law's where the arguments, and the package variables that the reading takes, are together of bulk at most 1048576: NARROWER than '..Said'. Prove '..Said' where nothing that the law and all that it calls make is longer than what came in: it says more and counts as full. Else prove '..UptoSaid'. A law counts once. -/
mutual
def uptoBulk {H : Type} : DataW H → Nat
  | .lit (.string bytes) => bytes.length + 1
  | .lit _ => 1
  | .nil => 1
  | .ptr d => uptoBulk d + 1
  | .slice elems spare => uptoBulkAll elems + uptoBulkAll spare + 1
  | .agg parts => uptoBulkAll parts + 1
  | .iface _ d => uptoBulk d + 1
  | .map entries => uptoBulkEntries entries + 1
  | .held _ => 1
def uptoBulkAll {H : Type} : List (DataW H) → Nat
  | [] => 0
  | d :: r => uptoBulk d + uptoBulkAll r
def uptoBulkEntries {H : Type} : List (Lit × DataW H) → Nat
  | [] => 0
  | x :: r => uptoBulkEntry x + uptoBulkEntries r
def uptoBulkEntry {H : Type} : Lit × DataW H → Nat
  | (.string bytes, d) => bytes.length + uptoBulk d + 1
  | (_, d) => uptoBulk d + 1
 end
def uptoSmall : (H : Type) → List (DataW H) → Bool := fun _ ds => decide (uptoBulkAll ds ≤ 1048576)
def OpenSpec.upto (s : _root_.Go.ChangeSpec) : _root_.Go.OpenSpec := { _root_.Go.OpenSpec.ofChange s with cond := some uptoSmall }

/-- 'waymarklaw24.GraphTells', WHERE WHAT IT READS IS OF BULK AT MOST 1048576: true; the input reads as it did. -/
def graphTellsUptoRow : OpenClaim := { program := "ytmcannmjielalaa", sum := "b939b0dc44b1877a9a39ae53f649b84764ebc4d2d4dd1a5dc7e75a64239d6c82", func := "waymark/waymarklaw24.GraphTells", spec := "graphTells", unfollowed := true, recurses := true, plainKeys := false, apart := false, narrowed := true }
def GraphTellsUptoSaid : Prop := graphTellsUptoRow.holds Try.pinned (OpenSpec.upto graphTellsSpec)

/-- 'waymarklaw49.FlowCuts', WHERE WHAT IT READS IS OF BULK AT MOST 1048576: true; the input reads as it did. -/
def flowCutsUptoRow : OpenClaim := { program := "ytmcannmjielalaa", sum := "b939b0dc44b1877a9a39ae53f649b84764ebc4d2d4dd1a5dc7e75a64239d6c82", func := "waymark/waymarklaw49.FlowCuts", spec := "flowCuts", unfollowed := true, recurses := true, plainKeys := false, apart := false, narrowed := true }
def FlowCutsUptoSaid : Prop := flowCutsUptoRow.holds Try.pinned (OpenSpec.upto flowCutsSpec)

/-- 'waymarklaw25.SpfRoutes', WHERE WHAT IT READS IS OF BULK AT MOST 1048576: true; the input reads as it did. -/
def spfRoutesUptoRow : OpenClaim := { program := "ytmcannmjielalaa", sum := "b939b0dc44b1877a9a39ae53f649b84764ebc4d2d4dd1a5dc7e75a64239d6c82", func := "waymark/waymarklaw25.SpfRoutes", spec := "spfRoutes", unfollowed := true, recurses := true, plainKeys := false, apart := false, narrowed := true }
def SpfRoutesUptoSaid : Prop := spfRoutesUptoRow.holds Try.pinned (OpenSpec.upto spfRoutesSpec)

/-- 'waymarklaw25.SpfTriangle', WHERE WHAT IT READS IS OF BULK AT MOST 1048576: true; the input reads as it did. -/
def spfTriangleUptoRow : OpenClaim := { program := "ytmcannmjielalaa", sum := "b939b0dc44b1877a9a39ae53f649b84764ebc4d2d4dd1a5dc7e75a64239d6c82", func := "waymark/waymarklaw25.SpfTriangle", spec := "spfTriangle", unfollowed := true, recurses := true, plainKeys := false, apart := false, narrowed := true }
def SpfTriangleUptoSaid : Prop := spfTriangleUptoRow.holds Try.pinned (OpenSpec.upto spfTriangleSpec)

/-- 'waymarklaw47.MatrixOf', WHERE WHAT IT READS IS OF BULK AT MOST 1048576: true; the input reads as it did. -/
def matrixOfUptoRow : OpenClaim := { program := "ytmcannmjielalaa", sum := "b939b0dc44b1877a9a39ae53f649b84764ebc4d2d4dd1a5dc7e75a64239d6c82", func := "waymark/waymarklaw47.MatrixOf", spec := "matrixOf", unfollowed := true, recurses := true, plainKeys := false, apart := false, narrowed := true }
def MatrixOfUptoSaid : Prop := matrixOfUptoRow.holds Try.pinned (OpenSpec.upto matrixOfSpec)

/-- 'waymarklaw26.RouteOf', WHERE WHAT IT READS IS OF BULK AT MOST 1048576: true; the input reads as it did. -/
def routeOfUptoRow : OpenClaim := { program := "ytmcannmjielalaa", sum := "b939b0dc44b1877a9a39ae53f649b84764ebc4d2d4dd1a5dc7e75a64239d6c82", func := "waymark/waymarklaw26.RouteOf", spec := "routeOf", unfollowed := true, recurses := true, plainKeys := false, apart := false, narrowed := true }
def RouteOfUptoSaid : Prop := routeOfUptoRow.holds Try.pinned (OpenSpec.upto routeOfSpec)

/-- 'waymarklaw26.RouteEnds', WHERE WHAT IT READS IS OF BULK AT MOST 1048576: true; the input reads as it did. -/
def routeEndsUptoRow : OpenClaim := { program := "ytmcannmjielalaa", sum := "b939b0dc44b1877a9a39ae53f649b84764ebc4d2d4dd1a5dc7e75a64239d6c82", func := "waymark/waymarklaw26.RouteEnds", spec := "routeEnds", unfollowed := true, recurses := true, plainKeys := false, apart := false, narrowed := true }
def RouteEndsUptoSaid : Prop := routeEndsUptoRow.holds Try.pinned (OpenSpec.upto routeEndsSpec)

/-- 'waymarklaw37.SpareFree', WHERE WHAT IT READS IS OF BULK AT MOST 1048576: true; the input reads as it did. -/
def spareFreeUptoRow : OpenClaim := { program := "ytmcannmjielalaa", sum := "b939b0dc44b1877a9a39ae53f649b84764ebc4d2d4dd1a5dc7e75a64239d6c82", func := "waymark/waymarklaw37.SpareFree", spec := "spareFree", unfollowed := true, recurses := true, plainKeys := false, apart := false, narrowed := true }
def SpareFreeUptoSaid : Prop := spareFreeUptoRow.holds Try.pinned (OpenSpec.upto spareFreeSpec)

/-- 'waymarklaw45.WhatifBases', WHERE WHAT IT READS IS OF BULK AT MOST 1048576: true; the input reads as it did. -/
def whatifBasesUptoRow : OpenClaim := { program := "ytmcannmjielalaa", sum := "b939b0dc44b1877a9a39ae53f649b84764ebc4d2d4dd1a5dc7e75a64239d6c82", func := "waymark/waymarklaw45.WhatifBases", spec := "whatifBases", unfollowed := true, recurses := true, plainKeys := false, apart := false, narrowed := true }
def WhatifBasesUptoSaid : Prop := whatifBasesUptoRow.holds Try.pinned (OpenSpec.upto whatifBasesSpec)

/-- 'waymarklaw45.WhatifTurns', WHERE WHAT IT READS IS OF BULK AT MOST 1048576: true; the input reads as it did. -/
def whatifTurnsUptoRow : OpenClaim := { program := "ytmcannmjielalaa", sum := "b939b0dc44b1877a9a39ae53f649b84764ebc4d2d4dd1a5dc7e75a64239d6c82", func := "waymark/waymarklaw45.WhatifTurns", spec := "whatifTurns", unfollowed := true, recurses := true, plainKeys := false, apart := false, narrowed := true }
def WhatifTurnsUptoSaid : Prop := whatifTurnsUptoRow.holds Try.pinned (OpenSpec.upto whatifTurnsSpec)

/-- 'waymarklaw45.WhatifFarther', WHERE WHAT IT READS IS OF BULK AT MOST 1048576: true; the input reads as it did. -/
def whatifFartherUptoRow : OpenClaim := { program := "ytmcannmjielalaa", sum := "b939b0dc44b1877a9a39ae53f649b84764ebc4d2d4dd1a5dc7e75a64239d6c82", func := "waymark/waymarklaw45.WhatifFarther", spec := "whatifFarther", unfollowed := true, recurses := true, plainKeys := false, apart := false, narrowed := true }
def WhatifFartherUptoSaid : Prop := whatifFartherUptoRow.holds Try.pinned (OpenSpec.upto whatifFartherSpec)

/-- 'waymarklaw44.HopGoes', WHERE WHAT IT READS IS OF BULK AT MOST 1048576: true; the input reads as it did. -/
def hopGoesUptoRow : OpenClaim := { program := "ytmcannmjielalaa", sum := "b939b0dc44b1877a9a39ae53f649b84764ebc4d2d4dd1a5dc7e75a64239d6c82", func := "waymark/waymarklaw44.HopGoes", spec := "hopGoes", unfollowed := true, recurses := true, plainKeys := false, apart := false, narrowed := true }
def HopGoesUptoSaid : Prop := hopGoesUptoRow.holds Try.pinned (OpenSpec.upto hopGoesSpec)

/-- 'waymarklaw44.HopAgrees', WHERE WHAT IT READS IS OF BULK AT MOST 1048576: true; the input reads as it did. -/
def hopAgreesUptoRow : OpenClaim := { program := "ytmcannmjielalaa", sum := "b939b0dc44b1877a9a39ae53f649b84764ebc4d2d4dd1a5dc7e75a64239d6c82", func := "waymark/waymarklaw44.HopAgrees", spec := "hopAgrees", unfollowed := true, recurses := true, plainKeys := false, apart := false, narrowed := true }
def HopAgreesUptoSaid : Prop := hopAgreesUptoRow.holds Try.pinned (OpenSpec.upto hopAgreesSpec)

/-- 'waymarklaw44.HopAgree', WHERE WHAT IT READS IS OF BULK AT MOST 1048576: true; the input reads as it did. -/
def hopAgreeUptoRow : OpenClaim := { program := "ytmcannmjielalaa", sum := "b939b0dc44b1877a9a39ae53f649b84764ebc4d2d4dd1a5dc7e75a64239d6c82", func := "waymark/waymarklaw44.HopAgree", spec := "hopAgree", unfollowed := true, recurses := true, plainKeys := false, apart := false, narrowed := true }
def HopAgreeUptoSaid : Prop := hopAgreeUptoRow.holds Try.pinned (OpenSpec.upto hopAgreeSpec)

/-- 'waymarklaw48.KpathPaths', WHERE WHAT IT READS IS OF BULK AT MOST 1048576: true; the input reads as it did. -/
def kpathPathsUptoRow : OpenClaim := { program := "ytmcannmjielalaa", sum := "b939b0dc44b1877a9a39ae53f649b84764ebc4d2d4dd1a5dc7e75a64239d6c82", func := "waymark/waymarklaw48.KpathPaths", spec := "kpathPaths", unfollowed := true, recurses := true, plainKeys := false, apart := false, narrowed := true }
def KpathPathsUptoSaid : Prop := kpathPathsUptoRow.holds Try.pinned (OpenSpec.upto kpathPathsSpec)

/-- 'waymarklaw39.BridgeFinds', WHERE WHAT IT READS IS OF BULK AT MOST 1048576: true; the input reads as it did. -/
def bridgeFindsUptoRow : OpenClaim := { program := "ytmcannmjielalaa", sum := "b939b0dc44b1877a9a39ae53f649b84764ebc4d2d4dd1a5dc7e75a64239d6c82", func := "waymark/waymarklaw39.BridgeFinds", spec := "bridgeFinds", inPlace := ["maps.clone"], unfollowed := true, recurses := true, plainKeys := false, apart := false, narrowed := true }
def BridgeFindsUptoSaid : Prop := bridgeFindsUptoRow.holds Try.pinned (OpenSpec.upto bridgeFindsSpec)

/-- 'waymarklaw39.BridgePieces', WHERE WHAT IT READS IS OF BULK AT MOST 1048576: true; the input reads as it did. -/
def bridgePiecesUptoRow : OpenClaim := { program := "ytmcannmjielalaa", sum := "b939b0dc44b1877a9a39ae53f649b84764ebc4d2d4dd1a5dc7e75a64239d6c82", func := "waymark/waymarklaw39.BridgePieces", spec := "bridgePieces", inPlace := ["maps.clone"], unfollowed := true, recurses := true, plainKeys := false, apart := false, narrowed := true }
def BridgePiecesUptoSaid : Prop := bridgePiecesUptoRow.holds Try.pinned (OpenSpec.upto bridgePiecesSpec)

/-- 'waymarklaw27.LiveArcs', WHERE WHAT IT READS IS OF BULK AT MOST 1048576: true; the input reads as it did. -/
def liveArcsUptoRow : OpenClaim := { program := "ytmcannmjielalaa", sum := "b939b0dc44b1877a9a39ae53f649b84764ebc4d2d4dd1a5dc7e75a64239d6c82", func := "waymark/waymarklaw27.LiveArcs", spec := "liveArcs", unfollowed := true, recurses := true, plainKeys := false, apart := false, narrowed := true }
def LiveArcsUptoSaid : Prop := liveArcsUptoRow.holds Try.pinned (OpenSpec.upto liveArcsSpec)

/-- 'waymarklaw36.EcmpAll', WHERE WHAT IT READS IS OF BULK AT MOST 1048576: true; the input reads as it did. -/
def ecmpAllUptoRow : OpenClaim := { program := "ytmcannmjielalaa", sum := "b939b0dc44b1877a9a39ae53f649b84764ebc4d2d4dd1a5dc7e75a64239d6c82", func := "waymark/waymarklaw36.EcmpAll", spec := "ecmpAll", unfollowed := true, recurses := true, plainKeys := false, apart := false, narrowed := true }
def EcmpAllUptoSaid : Prop := ecmpAllUptoRow.holds Try.pinned (OpenSpec.upto ecmpAllSpec)

/-- 'waymarklaw36.EcmpLeast', WHERE WHAT IT READS IS OF BULK AT MOST 1048576: true; the input reads as it did. -/
def ecmpLeastUptoRow : OpenClaim := { program := "ytmcannmjielalaa", sum := "b939b0dc44b1877a9a39ae53f649b84764ebc4d2d4dd1a5dc7e75a64239d6c82", func := "waymark/waymarklaw36.EcmpLeast", spec := "ecmpLeast", unfollowed := true, recurses := true, plainKeys := false, apart := false, narrowed := true }
def EcmpLeastUptoSaid : Prop := ecmpLeastUptoRow.holds Try.pinned (OpenSpec.upto ecmpLeastSpec)

/-- 'waymarklaw48.KpathFirst', WHERE WHAT IT READS IS OF BULK AT MOST 1048576: true; the input reads as it did. -/
def kpathFirstUptoRow : OpenClaim := { program := "ytmcannmjielalaa", sum := "b939b0dc44b1877a9a39ae53f649b84764ebc4d2d4dd1a5dc7e75a64239d6c82", func := "waymark/waymarklaw48.KpathFirst", spec := "kpathFirst", unfollowed := true, recurses := true, plainKeys := false, apart := false, narrowed := true }
def KpathFirstUptoSaid : Prop := kpathFirstUptoRow.holds Try.pinned (OpenSpec.upto kpathFirstSpec)

/-- 'waymarklaw51.GenHangs', WHERE WHAT IT READS IS OF BULK AT MOST 1048576: true; the input reads as it did. -/
def genHangsUptoRow : OpenClaim := { program := "ytmcannmjielalaa", sum := "b939b0dc44b1877a9a39ae53f649b84764ebc4d2d4dd1a5dc7e75a64239d6c82", func := "waymark/waymarklaw51.GenHangs", spec := "genHangs", unfollowed := true, recurses := true, plainKeys := false, apart := false, narrowed := true }
def GenHangsUptoSaid : Prop := genHangsUptoRow.holds Try.pinned (OpenSpec.upto genHangsSpec)

/-- 'waymarklaw52.LoadKeeps', WHERE WHAT IT READS IS OF BULK AT MOST 1048576: true; the input reads as it did. -/
def loadKeepsUptoRow : OpenClaim := { program := "ytmcannmjielalaa", sum := "b939b0dc44b1877a9a39ae53f649b84764ebc4d2d4dd1a5dc7e75a64239d6c82", func := "waymark/waymarklaw52.LoadKeeps", spec := "loadKeeps", unfollowed := true, recurses := true, plainKeys := false, apart := false, narrowed := true }
def LoadKeepsUptoSaid : Prop := loadKeepsUptoRow.holds Try.pinned (OpenSpec.upto loadKeepsSpec)

end Rows
end Go.Proofs.Ytmcannmjielalaa
