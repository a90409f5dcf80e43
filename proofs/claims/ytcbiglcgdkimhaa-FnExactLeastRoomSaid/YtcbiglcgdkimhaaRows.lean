/-
  No cell of these rows narrows 'for every input' (looked for: loops, veiled, ifaces, maps, wideKeys, modest, calm, conditions, laid).
  DERIVED. THE GIVEN ROWS OF THIS SEAT. 14 by the template 'for every input the law returns true; each argument reads behind the call as it read before'; 0 by the template 'total and deterministic' (their statements: YtcbiglcgdkimhaaTotals.lean).
  GIVEN WITH THE SEED: the statements are not yours to turn. If you find one false, say at which input.
  Laid BY PROGRAM, IN A SANDBOX (cutbox-rows.mjs): the forced cells as the released guide's own fill.sh prints them over the translation bbaa9e8039c250c4… (all of the seat's roots in one cut). By AI agents, Wed Nov 11 2026. No macro, syntax, notation, axiom, sorry.
-/
import Derived.Test.YtcbiglcgdkimhaaChecked
import GoSem.Claim
import GoSem.ClaimJoined
import GoSem.ClaimMapViews
import Derived.JoinedTies
import Derived.KernelRfl
namespace Go.Proofs.Ytcbiglcgdkimhaa
/- THE CELL 'sum', in the pinned program and in every row, IS THE sha256 OF THE DUMP (.gsa) THAT YtcbiglcgdkimhaaProg.lean LOADS. Nothing in Lean hashes anything: it is a label: what it is worth is what the hold of that sum in a sandbox is worth. -/
noncomputable def Try.pinned : Pinned := { name := "ytcbiglcgdkimhaa", sum := "bbaa9e8039c250c401f8af5624bf359f11cd9704da6c9c620fa3f3ab2e48f4ec", checked := Try.checked }
namespace Rows
def none {H : Type} : Left H := { results := [], args := [] }

/-- 'laws.FnExactNextFit': WHATEVER THE INPUT: true; the input reads as it did. -/
def fnExactNextFitSpec : ChangeSpec := { name := "fnExactNextFit", fn := fun _ => fun
  | [d1, d2] => { results := [.lit (.bool true)], args := [d1, d2] }
  | _ => none }
def fnExactNextFitRow : OpenClaim := { program := "ytcbiglcgdkimhaa", sum := "bbaa9e8039c250c401f8af5624bf359f11cd9704da6c9c620fa3f3ab2e48f4ec", func := "loop.example/g01334/laws.FnExactNextFit", spec := "fnExactNextFit", unfollowed := true, recurses := true, apart := false }
def FnExactNextFitSaid : Prop := fnExactNextFitRow.holds Try.pinned (OpenSpec.ofChange fnExactNextFitSpec)

/-- ITS FALSE NEIGHBOUR: 'it returns false'. Refute it at one input. -/
def fnExactNextFitWrong : ChangeSpec := { name := "fnExactNextFit", fn := fun _ => fun
  | [d1, d2] => { results := [.lit (.bool false)], args := [d1, d2] }
  | _ => none }
def FnExactNextFitWrongFalsely : Prop := fnExactNextFitRow.holds Try.pinned (OpenSpec.ofChange fnExactNextFitWrong)

/-- 'laws.FnExactBestFit': WHATEVER THE INPUT: true; the input reads as it did. -/
def fnExactBestFitSpec : ChangeSpec := { name := "fnExactBestFit", fn := fun _ => fun
  | [d1, d2] => { results := [.lit (.bool true)], args := [d1, d2] }
  | _ => none }
def fnExactBestFitRow : OpenClaim := { program := "ytcbiglcgdkimhaa", sum := "bbaa9e8039c250c401f8af5624bf359f11cd9704da6c9c620fa3f3ab2e48f4ec", func := "loop.example/g01334/laws.FnExactBestFit", spec := "fnExactBestFit", unfollowed := true, recurses := true, apart := false }
def FnExactBestFitSaid : Prop := fnExactBestFitRow.holds Try.pinned (OpenSpec.ofChange fnExactBestFitSpec)

/-- ITS FALSE NEIGHBOUR: 'it returns false'. Refute it at one input. -/
def fnExactBestFitWrong : ChangeSpec := { name := "fnExactBestFit", fn := fun _ => fun
  | [d1, d2] => { results := [.lit (.bool false)], args := [d1, d2] }
  | _ => none }
def FnExactBestFitWrongFalsely : Prop := fnExactBestFitRow.holds Try.pinned (OpenSpec.ofChange fnExactBestFitWrong)

/-- 'laws.FnExactFirstFit': WHATEVER THE INPUT: true; the input reads as it did. -/
def fnExactFirstFitSpec : ChangeSpec := { name := "fnExactFirstFit", fn := fun _ => fun
  | [d1, d2] => { results := [.lit (.bool true)], args := [d1, d2] }
  | _ => none }
def fnExactFirstFitRow : OpenClaim := { program := "ytcbiglcgdkimhaa", sum := "bbaa9e8039c250c401f8af5624bf359f11cd9704da6c9c620fa3f3ab2e48f4ec", func := "loop.example/g01334/laws.FnExactFirstFit", spec := "fnExactFirstFit", unfollowed := true, recurses := true, apart := false }
def FnExactFirstFitSaid : Prop := fnExactFirstFitRow.holds Try.pinned (OpenSpec.ofChange fnExactFirstFitSpec)

/-- ITS FALSE NEIGHBOUR: 'it returns false'. Refute it at one input. -/
def fnExactFirstFitWrong : ChangeSpec := { name := "fnExactFirstFit", fn := fun _ => fun
  | [d1, d2] => { results := [.lit (.bool false)], args := [d1, d2] }
  | _ => none }
def FnExactFirstFitWrongFalsely : Prop := fnExactFirstFitRow.holds Try.pinned (OpenSpec.ofChange fnExactFirstFitWrong)

/-- 'laws.FnExactWorstFit': WHATEVER THE INPUT: true; the input reads as it did. -/
def fnExactWorstFitSpec : ChangeSpec := { name := "fnExactWorstFit", fn := fun _ => fun
  | [d1, d2] => { results := [.lit (.bool true)], args := [d1, d2] }
  | _ => none }
def fnExactWorstFitRow : OpenClaim := { program := "ytcbiglcgdkimhaa", sum := "bbaa9e8039c250c401f8af5624bf359f11cd9704da6c9c620fa3f3ab2e48f4ec", func := "loop.example/g01334/laws.FnExactWorstFit", spec := "fnExactWorstFit", unfollowed := true, recurses := true, apart := false }
def FnExactWorstFitSaid : Prop := fnExactWorstFitRow.holds Try.pinned (OpenSpec.ofChange fnExactWorstFitSpec)

/-- ITS FALSE NEIGHBOUR: 'it returns false'. Refute it at one input. -/
def fnExactWorstFitWrong : ChangeSpec := { name := "fnExactWorstFit", fn := fun _ => fun
  | [d1, d2] => { results := [.lit (.bool false)], args := [d1, d2] }
  | _ => none }
def FnExactWorstFitWrongFalsely : Prop := fnExactWorstFitRow.holds Try.pinned (OpenSpec.ofChange fnExactWorstFitWrong)

/-- 'laws.FnExactIsPacking': WHATEVER THE INPUT: true; the input reads as it did. -/
def fnExactIsPackingSpec : ChangeSpec := { name := "fnExactIsPacking", fn := fun _ => fun
  | [d1, d2, d3] => { results := [.lit (.bool true)], args := [d1, d2, d3] }
  | _ => none }
def fnExactIsPackingRow : OpenClaim := { program := "ytcbiglcgdkimhaa", sum := "bbaa9e8039c250c401f8af5624bf359f11cd9704da6c9c620fa3f3ab2e48f4ec", func := "loop.example/g01334/laws.FnExactIsPacking", spec := "fnExactIsPacking", unfollowed := true, recurses := true, apart := false }
def FnExactIsPackingSaid : Prop := fnExactIsPackingRow.holds Try.pinned (OpenSpec.ofChange fnExactIsPackingSpec)

/-- ITS FALSE NEIGHBOUR: 'it returns false'. Refute it at one input. -/
def fnExactIsPackingWrong : ChangeSpec := { name := "fnExactIsPacking", fn := fun _ => fun
  | [d1, d2, d3] => { results := [.lit (.bool false)], args := [d1, d2, d3] }
  | _ => none }
def FnExactIsPackingWrongFalsely : Prop := fnExactIsPackingRow.holds Try.pinned (OpenSpec.ofChange fnExactIsPackingWrong)

/-- 'laws.FnExactExactFill': WHATEVER THE INPUT: true; the input reads as it did. -/
def fnExactExactFillSpec : ChangeSpec := { name := "fnExactExactFill", fn := fun _ => fun
  | [d1, d2] => { results := [.lit (.bool true)], args := [d1, d2] }
  | _ => none }
def fnExactExactFillRow : OpenClaim := { program := "ytcbiglcgdkimhaa", sum := "bbaa9e8039c250c401f8af5624bf359f11cd9704da6c9c620fa3f3ab2e48f4ec", func := "loop.example/g01334/laws.FnExactExactFill", spec := "fnExactExactFill", unfollowed := true, recurses := true, apart := false }
def FnExactExactFillSaid : Prop := fnExactExactFillRow.holds Try.pinned (OpenSpec.ofChange fnExactExactFillSpec)

/-- ITS FALSE NEIGHBOUR: 'it returns false'. Refute it at one input. -/
def fnExactExactFillWrong : ChangeSpec := { name := "fnExactExactFill", fn := fun _ => fun
  | [d1, d2] => { results := [.lit (.bool false)], args := [d1, d2] }
  | _ => none }
def FnExactExactFillWrongFalsely : Prop := fnExactExactFillRow.holds Try.pinned (OpenSpec.ofChange fnExactExactFillWrong)

/-- 'laws.FnExactLeastRoom': WHATEVER THE INPUT: true; the input reads as it did. -/
def fnExactLeastRoomSpec : ChangeSpec := { name := "fnExactLeastRoom", fn := fun _ => fun
  | [d1, d2] => { results := [.lit (.bool true)], args := [d1, d2] }
  | _ => none }
def fnExactLeastRoomRow : OpenClaim := { program := "ytcbiglcgdkimhaa", sum := "bbaa9e8039c250c401f8af5624bf359f11cd9704da6c9c620fa3f3ab2e48f4ec", func := "loop.example/g01334/laws.FnExactLeastRoom", spec := "fnExactLeastRoom", unfollowed := true, recurses := true, apart := false }
def FnExactLeastRoomSaid : Prop := fnExactLeastRoomRow.holds Try.pinned (OpenSpec.ofChange fnExactLeastRoomSpec)

/-- ITS FALSE NEIGHBOUR: 'it returns false'. Refute it at one input. -/
def fnExactLeastRoomWrong : ChangeSpec := { name := "fnExactLeastRoom", fn := fun _ => fun
  | [d1, d2] => { results := [.lit (.bool false)], args := [d1, d2] }
  | _ => none }
def FnExactLeastRoomWrongFalsely : Prop := fnExactLeastRoomRow.holds Try.pinned (OpenSpec.ofChange fnExactLeastRoomWrong)

/-- 'laws.FnExactFewestBoxes': WHATEVER THE INPUT: true; the input reads as it did. -/
def fnExactFewestBoxesSpec : ChangeSpec := { name := "fnExactFewestBoxes", fn := fun _ => fun
  | [d1, d2] => { results := [.lit (.bool true)], args := [d1, d2] }
  | _ => none }
def fnExactFewestBoxesRow : OpenClaim := { program := "ytcbiglcgdkimhaa", sum := "bbaa9e8039c250c401f8af5624bf359f11cd9704da6c9c620fa3f3ab2e48f4ec", func := "loop.example/g01334/laws.FnExactFewestBoxes", spec := "fnExactFewestBoxes", unfollowed := true, recurses := true, apart := false }
def FnExactFewestBoxesSaid : Prop := fnExactFewestBoxesRow.holds Try.pinned (OpenSpec.ofChange fnExactFewestBoxesSpec)

/-- ITS FALSE NEIGHBOUR: 'it returns false'. Refute it at one input. -/
def fnExactFewestBoxesWrong : ChangeSpec := { name := "fnExactFewestBoxes", fn := fun _ => fun
  | [d1, d2] => { results := [.lit (.bool false)], args := [d1, d2] }
  | _ => none }
def FnExactFewestBoxesWrongFalsely : Prop := fnExactFewestBoxesRow.holds Try.pinned (OpenSpec.ofChange fnExactFewestBoxesWrong)

/-- 'laws.FnExactLoadsOf': WHATEVER THE INPUT: true; the input reads as it did. -/
def fnExactLoadsOfSpec : ChangeSpec := { name := "fnExactLoadsOf", fn := fun _ => fun
  | [d1, d2, d3] => { results := [.lit (.bool true)], args := [d1, d2, d3] }
  | _ => none }
def fnExactLoadsOfRow : OpenClaim := { program := "ytcbiglcgdkimhaa", sum := "bbaa9e8039c250c401f8af5624bf359f11cd9704da6c9c620fa3f3ab2e48f4ec", func := "loop.example/g01334/laws.FnExactLoadsOf", spec := "fnExactLoadsOf", unfollowed := true, recurses := true, apart := false }
def FnExactLoadsOfSaid : Prop := fnExactLoadsOfRow.holds Try.pinned (OpenSpec.ofChange fnExactLoadsOfSpec)

/-- ITS FALSE NEIGHBOUR: 'it returns false'. Refute it at one input. -/
def fnExactLoadsOfWrong : ChangeSpec := { name := "fnExactLoadsOf", fn := fun _ => fun
  | [d1, d2, d3] => { results := [.lit (.bool false)], args := [d1, d2, d3] }
  | _ => none }
def FnExactLoadsOfWrongFalsely : Prop := fnExactLoadsOfRow.holds Try.pinned (OpenSpec.ofChange fnExactLoadsOfWrong)

/-- 'laws.FnExactCountPackings': WHATEVER THE INPUT: true; the input reads as it did. -/
def fnExactCountPackingsSpec : ChangeSpec := { name := "fnExactCountPackings", fn := fun _ => fun
  | [d1, d2] => { results := [.lit (.bool true)], args := [d1, d2] }
  | _ => none }
def fnExactCountPackingsRow : OpenClaim := { program := "ytcbiglcgdkimhaa", sum := "bbaa9e8039c250c401f8af5624bf359f11cd9704da6c9c620fa3f3ab2e48f4ec", func := "loop.example/g01334/laws.FnExactCountPackings", spec := "fnExactCountPackings", unfollowed := true, recurses := true, apart := false }
def FnExactCountPackingsSaid : Prop := fnExactCountPackingsRow.holds Try.pinned (OpenSpec.ofChange fnExactCountPackingsSpec)

/-- ITS FALSE NEIGHBOUR: 'it returns false'. Refute it at one input. -/
def fnExactCountPackingsWrong : ChangeSpec := { name := "fnExactCountPackings", fn := fun _ => fun
  | [d1, d2] => { results := [.lit (.bool false)], args := [d1, d2] }
  | _ => none }
def FnExactCountPackingsWrongFalsely : Prop := fnExactCountPackingsRow.holds Try.pinned (OpenSpec.ofChange fnExactCountPackingsWrong)

/-- 'laws.FnExactRoomLeft': WHATEVER THE INPUT: true; the input reads as it did. -/
def fnExactRoomLeftSpec : ChangeSpec := { name := "fnExactRoomLeft", fn := fun _ => fun
  | [d1, d2, d3] => { results := [.lit (.bool true)], args := [d1, d2, d3] }
  | _ => none }
def fnExactRoomLeftRow : OpenClaim := { program := "ytcbiglcgdkimhaa", sum := "bbaa9e8039c250c401f8af5624bf359f11cd9704da6c9c620fa3f3ab2e48f4ec", func := "loop.example/g01334/laws.FnExactRoomLeft", spec := "fnExactRoomLeft", unfollowed := true, recurses := true, apart := false }
def FnExactRoomLeftSaid : Prop := fnExactRoomLeftRow.holds Try.pinned (OpenSpec.ofChange fnExactRoomLeftSpec)

/-- ITS FALSE NEIGHBOUR: 'it returns false'. Refute it at one input. -/
def fnExactRoomLeftWrong : ChangeSpec := { name := "fnExactRoomLeft", fn := fun _ => fun
  | [d1, d2, d3] => { results := [.lit (.bool false)], args := [d1, d2, d3] }
  | _ => none }
def FnExactRoomLeftWrongFalsely : Prop := fnExactRoomLeftRow.holds Try.pinned (OpenSpec.ofChange fnExactRoomLeftWrong)

/-- 'laws.FnExactFirstPacking': WHATEVER THE INPUT: true; the input reads as it did. -/
def fnExactFirstPackingSpec : ChangeSpec := { name := "fnExactFirstPacking", fn := fun _ => fun
  | [d1, d2] => { results := [.lit (.bool true)], args := [d1, d2] }
  | _ => none }
def fnExactFirstPackingRow : OpenClaim := { program := "ytcbiglcgdkimhaa", sum := "bbaa9e8039c250c401f8af5624bf359f11cd9704da6c9c620fa3f3ab2e48f4ec", func := "loop.example/g01334/laws.FnExactFirstPacking", spec := "fnExactFirstPacking", unfollowed := true, recurses := true, apart := false }
def FnExactFirstPackingSaid : Prop := fnExactFirstPackingRow.holds Try.pinned (OpenSpec.ofChange fnExactFirstPackingSpec)

/-- ITS FALSE NEIGHBOUR: 'it returns false'. Refute it at one input. -/
def fnExactFirstPackingWrong : ChangeSpec := { name := "fnExactFirstPacking", fn := fun _ => fun
  | [d1, d2] => { results := [.lit (.bool false)], args := [d1, d2] }
  | _ => none }
def FnExactFirstPackingWrongFalsely : Prop := fnExactFirstPackingRow.holds Try.pinned (OpenSpec.ofChange fnExactFirstPackingWrong)

/-- 'laws.FnExactBoxesOf': WHATEVER THE INPUT: true; the input reads as it did. -/
def fnExactBoxesOfSpec : ChangeSpec := { name := "fnExactBoxesOf", fn := fun _ => fun
  | [d1, d2, d3] => { results := [.lit (.bool true)], args := [d1, d2, d3] }
  | _ => none }
def fnExactBoxesOfRow : OpenClaim := { program := "ytcbiglcgdkimhaa", sum := "bbaa9e8039c250c401f8af5624bf359f11cd9704da6c9c620fa3f3ab2e48f4ec", func := "loop.example/g01334/laws.FnExactBoxesOf", spec := "fnExactBoxesOf", unfollowed := true, recurses := true, apart := false }
def FnExactBoxesOfSaid : Prop := fnExactBoxesOfRow.holds Try.pinned (OpenSpec.ofChange fnExactBoxesOfSpec)

/-- ITS FALSE NEIGHBOUR: 'it returns false'. Refute it at one input. -/
def fnExactBoxesOfWrong : ChangeSpec := { name := "fnExactBoxesOf", fn := fun _ => fun
  | [d1, d2, d3] => { results := [.lit (.bool false)], args := [d1, d2, d3] }
  | _ => none }
def FnExactBoxesOfWrongFalsely : Prop := fnExactBoxesOfRow.holds Try.pinned (OpenSpec.ofChange fnExactBoxesOfWrong)

/-- 'laws.FnExactGreatestFirst': WHATEVER THE INPUT: true; the input reads as it did. -/
def fnExactGreatestFirstSpec : ChangeSpec := { name := "fnExactGreatestFirst", fn := fun _ => fun
  | [d1, d2] => { results := [.lit (.bool true)], args := [d1, d2] }
  | _ => none }
def fnExactGreatestFirstRow : OpenClaim := { program := "ytcbiglcgdkimhaa", sum := "bbaa9e8039c250c401f8af5624bf359f11cd9704da6c9c620fa3f3ab2e48f4ec", func := "loop.example/g01334/laws.FnExactGreatestFirst", spec := "fnExactGreatestFirst", unfollowed := true, recurses := true, apart := false }
def FnExactGreatestFirstSaid : Prop := fnExactGreatestFirstRow.holds Try.pinned (OpenSpec.ofChange fnExactGreatestFirstSpec)

/-- ITS FALSE NEIGHBOUR: 'it returns false'. Refute it at one input. -/
def fnExactGreatestFirstWrong : ChangeSpec := { name := "fnExactGreatestFirst", fn := fun _ => fun
  | [d1, d2] => { results := [.lit (.bool false)], args := [d1, d2] }
  | _ => none }
def FnExactGreatestFirstWrongFalsely : Prop := fnExactGreatestFirstRow.holds Try.pinned (OpenSpec.ofChange fnExactGreatestFirstWrong)

/- THE SECOND FORM. 'bulk': how many values and letters a reading holds, each counted each time it is reached (what is shared counts as often as it is met; a slice's spare places count too). A statement '..UptoSaid' is the law's where the arguments, and the package variables that the reading takes, are together of bulk at most 1048576: NARROWER than '..Said'. Prove '..Said' where nothing that the law and all that it calls make is longer than what came in: it says more and counts as full. Else prove '..UptoSaid'. A law counts once. -/
mutual
def uptoBulk {H : Type} : DataW H → Nat
  | .lit (.string bytes) => bytes.length + 1
  | .lit _ => 1
  | .nil => 1
  | .ptr d => uptoBulk d + 1
  | .slice elems spare => uptoBulkAll elems + uptoBulkAll spare + 1
  | .agg parts => uptoBulkAll parts + 1
  | .iface _ d => uptoBulk d + 1
  | .map entries => uptoBulkEntries entries + 1
  | .held _ => 1
def uptoBulkAll {H : Type} : List (DataW H) → Nat
  | [] => 0
  | d :: r => uptoBulk d + uptoBulkAll r
def uptoBulkEntries {H : Type} : List (Lit × DataW H) → Nat
  | [] => 0
  | x :: r => uptoBulkEntry x + uptoBulkEntries r
def uptoBulkEntry {H : Type} : Lit × DataW H → Nat
  | (.string bytes, d) => bytes.length + uptoBulk d + 1
  | (_, d) => uptoBulk d + 1
 end
def uptoSmall : (H : Type) → List (DataW H) → Bool := fun _ ds => decide (uptoBulkAll ds ≤ 1048576)
def OpenSpec.upto (s : _root_.Go.ChangeSpec) : _root_.Go.OpenSpec := { _root_.Go.OpenSpec.ofChange s with cond := some uptoSmall }

/-- 'laws.FnExactNextFit', WHERE WHAT IT READS IS OF BULK AT MOST 1048576: true; the input reads as it did. -/
def fnExactNextFitUptoRow : OpenClaim := { program := "ytcbiglcgdkimhaa", sum := "bbaa9e8039c250c401f8af5624bf359f11cd9704da6c9c620fa3f3ab2e48f4ec", func := "loop.example/g01334/laws.FnExactNextFit", spec := "fnExactNextFit", unfollowed := true, recurses := true, apart := false, narrowed := true }
def FnExactNextFitUptoSaid : Prop := fnExactNextFitUptoRow.holds Try.pinned (OpenSpec.upto fnExactNextFitSpec)

/-- 'laws.FnExactBestFit', WHERE WHAT IT READS IS OF BULK AT MOST 1048576: true; the input reads as it did. -/
def fnExactBestFitUptoRow : OpenClaim := { program := "ytcbiglcgdkimhaa", sum := "bbaa9e8039c250c401f8af5624bf359f11cd9704da6c9c620fa3f3ab2e48f4ec", func := "loop.example/g01334/laws.FnExactBestFit", spec := "fnExactBestFit", unfollowed := true, recurses := true, apart := false, narrowed := true }
def FnExactBestFitUptoSaid : Prop := fnExactBestFitUptoRow.holds Try.pinned (OpenSpec.upto fnExactBestFitSpec)

/-- 'laws.FnExactFirstFit', WHERE WHAT IT READS IS OF BULK AT MOST 1048576: true; the input reads as it did. -/
def fnExactFirstFitUptoRow : OpenClaim := { program := "ytcbiglcgdkimhaa", sum := "bbaa9e8039c250c401f8af5624bf359f11cd9704da6c9c620fa3f3ab2e48f4ec", func := "loop.example/g01334/laws.FnExactFirstFit", spec := "fnExactFirstFit", unfollowed := true, recurses := true, apart := false, narrowed := true }
def FnExactFirstFitUptoSaid : Prop := fnExactFirstFitUptoRow.holds Try.pinned (OpenSpec.upto fnExactFirstFitSpec)

/-- 'laws.FnExactWorstFit', WHERE WHAT IT READS IS OF BULK AT MOST 1048576: true; the input reads as it did. -/
def fnExactWorstFitUptoRow : OpenClaim := { program := "ytcbiglcgdkimhaa", sum := "bbaa9e8039c250c401f8af5624bf359f11cd9704da6c9c620fa3f3ab2e48f4ec", func := "loop.example/g01334/laws.FnExactWorstFit", spec := "fnExactWorstFit", unfollowed := true, recurses := true, apart := false, narrowed := true }
def FnExactWorstFitUptoSaid : Prop := fnExactWorstFitUptoRow.holds Try.pinned (OpenSpec.upto fnExactWorstFitSpec)

/-- 'laws.FnExactIsPacking', WHERE WHAT IT READS IS OF BULK AT MOST 1048576: true; the input reads as it did. -/
def fnExactIsPackingUptoRow : OpenClaim := { program := "ytcbiglcgdkimhaa", sum := "bbaa9e8039c250c401f8af5624bf359f11cd9704da6c9c620fa3f3ab2e48f4ec", func := "loop.example/g01334/laws.FnExactIsPacking", spec := "fnExactIsPacking", unfollowed := true, recurses := true, apart := false, narrowed := true }
def FnExactIsPackingUptoSaid : Prop := fnExactIsPackingUptoRow.holds Try.pinned (OpenSpec.upto fnExactIsPackingSpec)

/-- 'laws.FnExactExactFill', WHERE WHAT IT READS IS OF BULK AT MOST 1048576: true; the input reads as it did. -/
def fnExactExactFillUptoRow : OpenClaim := { program := "ytcbiglcgdkimhaa", sum := "bbaa9e8039c250c401f8af5624bf359f11cd9704da6c9c620fa3f3ab2e48f4ec", func := "loop.example/g01334/laws.FnExactExactFill", spec := "fnExactExactFill", unfollowed := true, recurses := true, apart := false, narrowed := true }
def FnExactExactFillUptoSaid : Prop := fnExactExactFillUptoRow.holds Try.pinned (OpenSpec.upto fnExactExactFillSpec)

/-- 'laws.FnExactLeastRoom', WHERE WHAT IT READS IS OF BULK AT MOST 1048576: true; the input reads as it did. -/
def fnExactLeastRoomUptoRow : OpenClaim := { program := "ytcbiglcgdkimhaa", sum := "bbaa9e8039c250c401f8af5624bf359f11cd9704da6c9c620fa3f3ab2e48f4ec", func := "loop.example/g01334/laws.FnExactLeastRoom", spec := "fnExactLeastRoom", unfollowed := true, recurses := true, apart := false, narrowed := true }
def FnExactLeastRoomUptoSaid : Prop := fnExactLeastRoomUptoRow.holds Try.pinned (OpenSpec.upto fnExactLeastRoomSpec)

/-- 'laws.FnExactFewestBoxes', WHERE WHAT IT READS IS OF BULK AT MOST 1048576: true; the input reads as it did. -/
def fnExactFewestBoxesUptoRow : OpenClaim := { program := "ytcbiglcgdkimhaa", sum := "bbaa9e8039c250c401f8af5624bf359f11cd9704da6c9c620fa3f3ab2e48f4ec", func := "loop.example/g01334/laws.FnExactFewestBoxes", spec := "fnExactFewestBoxes", unfollowed := true, recurses := true, apart := false, narrowed := true }
def FnExactFewestBoxesUptoSaid : Prop := fnExactFewestBoxesUptoRow.holds Try.pinned (OpenSpec.upto fnExactFewestBoxesSpec)

/-- 'laws.FnExactLoadsOf', WHERE WHAT IT READS IS OF BULK AT MOST 1048576: true; the input reads as it did. -/
def fnExactLoadsOfUptoRow : OpenClaim := { program := "ytcbiglcgdkimhaa", sum := "bbaa9e8039c250c401f8af5624bf359f11cd9704da6c9c620fa3f3ab2e48f4ec", func := "loop.example/g01334/laws.FnExactLoadsOf", spec := "fnExactLoadsOf", unfollowed := true, recurses := true, apart := false, narrowed := true }
def FnExactLoadsOfUptoSaid : Prop := fnExactLoadsOfUptoRow.holds Try.pinned (OpenSpec.upto fnExactLoadsOfSpec)

/-- 'laws.FnExactCountPackings', WHERE WHAT IT READS IS OF BULK AT MOST 1048576: true; the input reads as it did. -/
def fnExactCountPackingsUptoRow : OpenClaim := { program := "ytcbiglcgdkimhaa", sum := "bbaa9e8039c250c401f8af5624bf359f11cd9704da6c9c620fa3f3ab2e48f4ec", func := "loop.example/g01334/laws.FnExactCountPackings", spec := "fnExactCountPackings", unfollowed := true, recurses := true, apart := false, narrowed := true }
def FnExactCountPackingsUptoSaid : Prop := fnExactCountPackingsUptoRow.holds Try.pinned (OpenSpec.upto fnExactCountPackingsSpec)

/-- 'laws.FnExactRoomLeft', WHERE WHAT IT READS IS OF BULK AT MOST 1048576: true; the input reads as it did. -/
def fnExactRoomLeftUptoRow : OpenClaim := { program := "ytcbiglcgdkimhaa", sum := "bbaa9e8039c250c401f8af5624bf359f11cd9704da6c9c620fa3f3ab2e48f4ec", func := "loop.example/g01334/laws.FnExactRoomLeft", spec := "fnExactRoomLeft", unfollowed := true, recurses := true, apart := false, narrowed := true }
def FnExactRoomLeftUptoSaid : Prop := fnExactRoomLeftUptoRow.holds Try.pinned (OpenSpec.upto fnExactRoomLeftSpec)

/-- 'laws.FnExactFirstPacking', WHERE WHAT IT READS IS OF BULK AT MOST 1048576: true; the input reads as it did. -/
def fnExactFirstPackingUptoRow : OpenClaim := { program := "ytcbiglcgdkimhaa", sum := "bbaa9e8039c250c401f8af5624bf359f11cd9704da6c9c620fa3f3ab2e48f4ec", func := "loop.example/g01334/laws.FnExactFirstPacking", spec := "fnExactFirstPacking", unfollowed := true, recurses := true, apart := false, narrowed := true }
def FnExactFirstPackingUptoSaid : Prop := fnExactFirstPackingUptoRow.holds Try.pinned (OpenSpec.upto fnExactFirstPackingSpec)

/-- 'laws.FnExactBoxesOf', WHERE WHAT IT READS IS OF BULK AT MOST 1048576: true; the input reads as it did. -/
def fnExactBoxesOfUptoRow : OpenClaim := { program := "ytcbiglcgdkimhaa", sum := "bbaa9e8039c250c401f8af5624bf359f11cd9704da6c9c620fa3f3ab2e48f4ec", func := "loop.example/g01334/laws.FnExactBoxesOf", spec := "fnExactBoxesOf", unfollowed := true, recurses := true, apart := false, narrowed := true }
def FnExactBoxesOfUptoSaid : Prop := fnExactBoxesOfUptoRow.holds Try.pinned (OpenSpec.upto fnExactBoxesOfSpec)

/-- 'laws.FnExactGreatestFirst', WHERE WHAT IT READS IS OF BULK AT MOST 1048576: true; the input reads as it did. -/
def fnExactGreatestFirstUptoRow : OpenClaim := { program := "ytcbiglcgdkimhaa", sum := "bbaa9e8039c250c401f8af5624bf359f11cd9704da6c9c620fa3f3ab2e48f4ec", func := "loop.example/g01334/laws.FnExactGreatestFirst", spec := "fnExactGreatestFirst", unfollowed := true, recurses := true, apart := false, narrowed := true }
def FnExactGreatestFirstUptoSaid : Prop := fnExactGreatestFirstUptoRow.holds Try.pinned (OpenSpec.upto fnExactGreatestFirstSpec)

end Rows
end Go.Proofs.Ytcbiglcgdkimhaa
