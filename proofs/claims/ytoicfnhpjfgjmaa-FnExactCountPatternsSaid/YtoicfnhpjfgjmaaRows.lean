/-
  No cell of these rows narrows 'for every input' (looked for: loops, veiled, ifaces, maps, wideKeys, modest, calm, conditions, laid).
  DERIVED. THE GIVEN ROWS OF THIS SEAT. 12 by the template 'for every input the law returns true; each argument reads behind the call as it read before'; 0 by the template 'total and deterministic' (their statements: YtoicfnhpjfgjmaaTotals.lean).
  GIVEN WITH THE SEED: the statements are not yours to turn. If you find one false, say at which input.
  Laid BY PROGRAM, IN A SANDBOX (cutbox-rows.mjs): the forced cells as the released guide's own fill.sh prints them over the translation 09feee3b5adf0567… (all of the seat's roots in one cut). By AI agents, Wed Nov 11 2026. No macro, syntax, notation, axiom, sorry.
-/
import Derived.Test.YtoicfnhpjfgjmaaChecked
import GoSem.Claim
import GoSem.ClaimJoined
import GoSem.ClaimMapViews
import Derived.JoinedTies
import Derived.KernelRfl
namespace Go.Proofs.Ytoicfnhpjfgjmaa
/- THE CELL 'sum', in the pinned program and in every row, IS THE sha256 OF THE DUMP (.gsa) THAT YtoicfnhpjfgjmaaProg.lean LOADS. Nothing in Lean hashes anything: it is a label: what it is worth is what the hold of that sum in a sandbox is worth. -/
noncomputable def Try.pinned : Pinned := { name := "ytoicfnhpjfgjmaa", sum := "09feee3b5adf056703cb0eacf386848f1fb0b90cb414030bab5c43b953908c16", checked := Try.checked }
namespace Rows
def none {H : Type} : Left H := { results := [], args := [] }

/-- 'laws.FnExactConstants': WHATEVER THE INPUT: true; the input reads as it did. -/
def fnExactConstantsSpec : ChangeSpec := { name := "fnExactConstants", fn := fun _ => fun
  | [] => { results := [.lit (.bool true)], args := [] }
  | _ => none }
def fnExactConstantsRow : OpenClaim := { program := "ytoicfnhpjfgjmaa", sum := "09feee3b5adf056703cb0eacf386848f1fb0b90cb414030bab5c43b953908c16", func := "loop.example/g01334/laws.FnExactConstants", spec := "fnExactConstants", apart := false }
def FnExactConstantsSaid : Prop := fnExactConstantsRow.holds Try.pinned (OpenSpec.ofChange fnExactConstantsSpec)

/-- ITS FALSE NEIGHBOUR: 'it returns false'. Refute it at one input. -/
def fnExactConstantsWrong : ChangeSpec := { name := "fnExactConstants", fn := fun _ => fun
  | [] => { results := [.lit (.bool false)], args := [] }
  | _ => none }
def FnExactConstantsWrongFalsely : Prop := fnExactConstantsRow.holds Try.pinned (OpenSpec.ofChange fnExactConstantsWrong)

/-- 'laws.FnExactAreThings': WHATEVER THE INPUT: true; the input reads as it did. -/
def fnExactAreThingsSpec : ChangeSpec := { name := "fnExactAreThings", fn := fun _ => fun
  | [d] => { results := [.lit (.bool true)], args := [d] }
  | _ => none }
def fnExactAreThingsRow : OpenClaim := { program := "ytoicfnhpjfgjmaa", sum := "09feee3b5adf056703cb0eacf386848f1fb0b90cb414030bab5c43b953908c16", func := "loop.example/g01334/laws.FnExactAreThings", spec := "fnExactAreThings", unfollowed := true, recurses := true, apart := false }
def FnExactAreThingsSaid : Prop := fnExactAreThingsRow.holds Try.pinned (OpenSpec.ofChange fnExactAreThingsSpec)

/-- ITS FALSE NEIGHBOUR: 'it returns false'. Refute it at one input. -/
def fnExactAreThingsWrong : ChangeSpec := { name := "fnExactAreThings", fn := fun _ => fun
  | [d] => { results := [.lit (.bool false)], args := [d] }
  | _ => none }
def FnExactAreThingsWrongFalsely : Prop := fnExactAreThingsRow.holds Try.pinned (OpenSpec.ofChange fnExactAreThingsWrong)

/-- 'laws.FnExactAreLengths': WHATEVER THE INPUT: true; the input reads as it did. -/
def fnExactAreLengthsSpec : ChangeSpec := { name := "fnExactAreLengths", fn := fun _ => fun
  | [d] => { results := [.lit (.bool true)], args := [d] }
  | _ => none }
def fnExactAreLengthsRow : OpenClaim := { program := "ytoicfnhpjfgjmaa", sum := "09feee3b5adf056703cb0eacf386848f1fb0b90cb414030bab5c43b953908c16", func := "loop.example/g01334/laws.FnExactAreLengths", spec := "fnExactAreLengths", unfollowed := true, recurses := true, apart := false }
def FnExactAreLengthsSaid : Prop := fnExactAreLengthsRow.holds Try.pinned (OpenSpec.ofChange fnExactAreLengthsSpec)

/-- ITS FALSE NEIGHBOUR: 'it returns false'. Refute it at one input. -/
def fnExactAreLengthsWrong : ChangeSpec := { name := "fnExactAreLengths", fn := fun _ => fun
  | [d] => { results := [.lit (.bool false)], args := [d] }
  | _ => none }
def FnExactAreLengthsWrongFalsely : Prop := fnExactAreLengthsRow.holds Try.pinned (OpenSpec.ofChange fnExactAreLengthsWrong)

/-- 'laws.FnExactWorthOfCut': WHATEVER THE INPUT: true; the input reads as it did. -/
def fnExactWorthOfCutSpec : ChangeSpec := { name := "fnExactWorthOfCut", fn := fun _ => fun
  | [d1, d2] => { results := [.lit (.bool true)], args := [d1, d2] }
  | _ => none }
def fnExactWorthOfCutRow : OpenClaim := { program := "ytoicfnhpjfgjmaa", sum := "09feee3b5adf056703cb0eacf386848f1fb0b90cb414030bab5c43b953908c16", func := "loop.example/g01334/laws.FnExactWorthOfCut", spec := "fnExactWorthOfCut", unfollowed := true, recurses := true, apart := false }
def FnExactWorthOfCutSaid : Prop := fnExactWorthOfCutRow.holds Try.pinned (OpenSpec.ofChange fnExactWorthOfCutSpec)

/-- ITS FALSE NEIGHBOUR: 'it returns false'. Refute it at one input. -/
def fnExactWorthOfCutWrong : ChangeSpec := { name := "fnExactWorthOfCut", fn := fun _ => fun
  | [d1, d2] => { results := [.lit (.bool false)], args := [d1, d2] }
  | _ => none }
def FnExactWorthOfCutWrongFalsely : Prop := fnExactWorthOfCutRow.holds Try.pinned (OpenSpec.ofChange fnExactWorthOfCutWrong)

/-- 'laws.FnExactCountOrders': WHATEVER THE INPUT: true; the input reads as it did. -/
def fnExactCountOrdersSpec : ChangeSpec := { name := "fnExactCountOrders", fn := fun _ => fun
  | [d] => { results := [.lit (.bool true)], args := [d] }
  | _ => none }
def fnExactCountOrdersRow : OpenClaim := { program := "ytoicfnhpjfgjmaa", sum := "09feee3b5adf056703cb0eacf386848f1fb0b90cb414030bab5c43b953908c16", func := "loop.example/g01334/laws.FnExactCountOrders", spec := "fnExactCountOrders", unfollowed := true, recurses := true, apart := false }
def FnExactCountOrdersSaid : Prop := fnExactCountOrdersRow.holds Try.pinned (OpenSpec.ofChange fnExactCountOrdersSpec)

/-- ITS FALSE NEIGHBOUR: 'it returns false'. Refute it at one input. -/
def fnExactCountOrdersWrong : ChangeSpec := { name := "fnExactCountOrders", fn := fun _ => fun
  | [d] => { results := [.lit (.bool false)], args := [d] }
  | _ => none }
def FnExactCountOrdersWrongFalsely : Prop := fnExactCountOrdersRow.holds Try.pinned (OpenSpec.ofChange fnExactCountOrdersWrong)

/-- 'laws.FnExactIsRodPattern': WHATEVER THE INPUT: true; the input reads as it did. -/
def fnExactIsRodPatternSpec : ChangeSpec := { name := "fnExactIsRodPattern", fn := fun _ => fun
  | [d1, d2, d3] => { results := [.lit (.bool true)], args := [d1, d2, d3] }
  | _ => none }
def fnExactIsRodPatternRow : OpenClaim := { program := "ytoicfnhpjfgjmaa", sum := "09feee3b5adf056703cb0eacf386848f1fb0b90cb414030bab5c43b953908c16", func := "loop.example/g01334/laws.FnExactIsRodPattern", spec := "fnExactIsRodPattern", unfollowed := true, recurses := true, apart := false }
def FnExactIsRodPatternSaid : Prop := fnExactIsRodPatternRow.holds Try.pinned (OpenSpec.ofChange fnExactIsRodPatternSpec)

/-- ITS FALSE NEIGHBOUR: 'it returns false'. Refute it at one input. -/
def fnExactIsRodPatternWrong : ChangeSpec := { name := "fnExactIsRodPattern", fn := fun _ => fun
  | [d1, d2, d3] => { results := [.lit (.bool false)], args := [d1, d2, d3] }
  | _ => none }
def FnExactIsRodPatternWrongFalsely : Prop := fnExactIsRodPatternRow.holds Try.pinned (OpenSpec.ofChange fnExactIsRodPatternWrong)

/-- 'laws.FnExactUsedOf': WHATEVER THE INPUT: true; the input reads as it did. -/
def fnExactUsedOfSpec : ChangeSpec := { name := "fnExactUsedOf", fn := fun _ => fun
  | [d1, d2, d3] => { results := [.lit (.bool true)], args := [d1, d2, d3] }
  | _ => none }
def fnExactUsedOfRow : OpenClaim := { program := "ytoicfnhpjfgjmaa", sum := "09feee3b5adf056703cb0eacf386848f1fb0b90cb414030bab5c43b953908c16", func := "loop.example/g01334/laws.FnExactUsedOf", spec := "fnExactUsedOf", unfollowed := true, recurses := true, apart := false }
def FnExactUsedOfSaid : Prop := fnExactUsedOfRow.holds Try.pinned (OpenSpec.ofChange fnExactUsedOfSpec)

/-- ITS FALSE NEIGHBOUR: 'it returns false'. Refute it at one input. -/
def fnExactUsedOfWrong : ChangeSpec := { name := "fnExactUsedOf", fn := fun _ => fun
  | [d1, d2, d3] => { results := [.lit (.bool false)], args := [d1, d2, d3] }
  | _ => none }
def FnExactUsedOfWrongFalsely : Prop := fnExactUsedOfRow.holds Try.pinned (OpenSpec.ofChange fnExactUsedOfWrong)

/-- 'laws.FnExactBoxesBound': WHATEVER THE INPUT: true; the input reads as it did. -/
def fnExactBoxesBoundSpec : ChangeSpec := { name := "fnExactBoxesBound", fn := fun _ => fun
  | [d1, d2] => { results := [.lit (.bool true)], args := [d1, d2] }
  | _ => none }
def fnExactBoxesBoundRow : OpenClaim := { program := "ytoicfnhpjfgjmaa", sum := "09feee3b5adf056703cb0eacf386848f1fb0b90cb414030bab5c43b953908c16", func := "loop.example/g01334/laws.FnExactBoxesBound", spec := "fnExactBoxesBound", unfollowed := true, recurses := true, apart := false }
def FnExactBoxesBoundSaid : Prop := fnExactBoxesBoundRow.holds Try.pinned (OpenSpec.ofChange fnExactBoxesBoundSpec)

/-- ITS FALSE NEIGHBOUR: 'it returns false'. Refute it at one input. -/
def fnExactBoxesBoundWrong : ChangeSpec := { name := "fnExactBoxesBound", fn := fun _ => fun
  | [d1, d2] => { results := [.lit (.bool false)], args := [d1, d2] }
  | _ => none }
def FnExactBoxesBoundWrongFalsely : Prop := fnExactBoxesBoundRow.holds Try.pinned (OpenSpec.ofChange fnExactBoxesBoundWrong)

/-- 'laws.FnExactWasteOfPattern': WHATEVER THE INPUT: true; the input reads as it did. -/
def fnExactWasteOfPatternSpec : ChangeSpec := { name := "fnExactWasteOfPattern", fn := fun _ => fun
  | [d1, d2, d3] => { results := [.lit (.bool true)], args := [d1, d2, d3] }
  | _ => none }
def fnExactWasteOfPatternRow : OpenClaim := { program := "ytoicfnhpjfgjmaa", sum := "09feee3b5adf056703cb0eacf386848f1fb0b90cb414030bab5c43b953908c16", func := "loop.example/g01334/laws.FnExactWasteOfPattern", spec := "fnExactWasteOfPattern", unfollowed := true, recurses := true, apart := false }
def FnExactWasteOfPatternSaid : Prop := fnExactWasteOfPatternRow.holds Try.pinned (OpenSpec.ofChange fnExactWasteOfPatternSpec)

/-- ITS FALSE NEIGHBOUR: 'it returns false'. Refute it at one input. -/
def fnExactWasteOfPatternWrong : ChangeSpec := { name := "fnExactWasteOfPattern", fn := fun _ => fun
  | [d1, d2, d3] => { results := [.lit (.bool false)], args := [d1, d2, d3] }
  | _ => none }
def FnExactWasteOfPatternWrongFalsely : Prop := fnExactWasteOfPatternRow.holds Try.pinned (OpenSpec.ofChange fnExactWasteOfPatternWrong)

/-- 'laws.FnExactCountPatterns': WHATEVER THE INPUT: true; the input reads as it did. -/
def fnExactCountPatternsSpec : ChangeSpec := { name := "fnExactCountPatterns", fn := fun _ => fun
  | [d1, d2] => { results := [.lit (.bool true)], args := [d1, d2] }
  | _ => none }
def fnExactCountPatternsRow : OpenClaim := { program := "ytoicfnhpjfgjmaa", sum := "09feee3b5adf056703cb0eacf386848f1fb0b90cb414030bab5c43b953908c16", func := "loop.example/g01334/laws.FnExactCountPatterns", spec := "fnExactCountPatterns", unfollowed := true, recurses := true, apart := false }
def FnExactCountPatternsSaid : Prop := fnExactCountPatternsRow.holds Try.pinned (OpenSpec.ofChange fnExactCountPatternsSpec)

/-- ITS FALSE NEIGHBOUR: 'it returns false'. Refute it at one input. -/
def fnExactCountPatternsWrong : ChangeSpec := { name := "fnExactCountPatterns", fn := fun _ => fun
  | [d1, d2] => { results := [.lit (.bool false)], args := [d1, d2] }
  | _ => none }
def FnExactCountPatternsWrongFalsely : Prop := fnExactCountPatternsRow.holds Try.pinned (OpenSpec.ofChange fnExactCountPatternsWrong)

/-- 'laws.FnExactIsFullPattern': WHATEVER THE INPUT: true; the input reads as it did. -/
def fnExactIsFullPatternSpec : ChangeSpec := { name := "fnExactIsFullPattern", fn := fun _ => fun
  | [d1, d2, d3] => { results := [.lit (.bool true)], args := [d1, d2, d3] }
  | _ => none }
def fnExactIsFullPatternRow : OpenClaim := { program := "ytoicfnhpjfgjmaa", sum := "09feee3b5adf056703cb0eacf386848f1fb0b90cb414030bab5c43b953908c16", func := "loop.example/g01334/laws.FnExactIsFullPattern", spec := "fnExactIsFullPattern", unfollowed := true, recurses := true, apart := false }
def FnExactIsFullPatternSaid : Prop := fnExactIsFullPatternRow.holds Try.pinned (OpenSpec.ofChange fnExactIsFullPatternSpec)

/-- ITS FALSE NEIGHBOUR: 'it returns false'. Refute it at one input. -/
def fnExactIsFullPatternWrong : ChangeSpec := { name := "fnExactIsFullPattern", fn := fun _ => fun
  | [d1, d2, d3] => { results := [.lit (.bool false)], args := [d1, d2, d3] }
  | _ => none }
def FnExactIsFullPatternWrongFalsely : Prop := fnExactIsFullPatternRow.holds Try.pinned (OpenSpec.ofChange fnExactIsFullPatternWrong)

/-- 'laws.FnExactRodsBound': WHATEVER THE INPUT: true; the input reads as it did. -/
def fnExactRodsBoundSpec : ChangeSpec := { name := "fnExactRodsBound", fn := fun _ => fun
  | [d1, d2, d3] => { results := [.lit (.bool true)], args := [d1, d2, d3] }
  | _ => none }
def fnExactRodsBoundRow : OpenClaim := { program := "ytoicfnhpjfgjmaa", sum := "09feee3b5adf056703cb0eacf386848f1fb0b90cb414030bab5c43b953908c16", func := "loop.example/g01334/laws.FnExactRodsBound", spec := "fnExactRodsBound", unfollowed := true, recurses := true, apart := false }
def FnExactRodsBoundSaid : Prop := fnExactRodsBoundRow.holds Try.pinned (OpenSpec.ofChange fnExactRodsBoundSpec)

/-- ITS FALSE NEIGHBOUR: 'it returns false'. Refute it at one input. -/
def fnExactRodsBoundWrong : ChangeSpec := { name := "fnExactRodsBound", fn := fun _ => fun
  | [d1, d2, d3] => { results := [.lit (.bool false)], args := [d1, d2, d3] }
  | _ => none }
def FnExactRodsBoundWrongFalsely : Prop := fnExactRodsBoundRow.holds Try.pinned (OpenSpec.ofChange fnExactRodsBoundWrong)

/- THE SECOND FORM. 'bulk': how many values and letters a reading holds, each counted each time it is reached (what is shared counts as often as it is met; a slice's spare places count too). A statement '..UptoSaid' is the law's where the arguments, and the package variables that the reading takes, are together of bulk at most 1048576: NARROWER than '..Said'. Prove '..Said' where nothing that the law and all that it calls make is longer than what came in: it says more and counts as full. Else prove '..UptoSaid'. A law counts once. -/
mutual
def uptoBulk {H : Type} : DataW H → Nat
  | .lit (.string bytes) => bytes.length + 1
  | .lit _ => 1
  | .nil => 1
  | .ptr d => uptoBulk d + 1
  | .slice elems spare => uptoBulkAll elems + uptoBulkAll spare + 1
  | .agg parts => uptoBulkAll parts + 1
  | .iface _ d => uptoBulk d + 1
  | .map entries => uptoBulkEntries entries + 1
  | .held _ => 1
def uptoBulkAll {H : Type} : List (DataW H) → Nat
  | [] => 0
  | d :: r => uptoBulk d + uptoBulkAll r
def uptoBulkEntries {H : Type} : List (Lit × DataW H) → Nat
  | [] => 0
  | x :: r => uptoBulkEntry x + uptoBulkEntries r
def uptoBulkEntry {H : Type} : Lit × DataW H → Nat
  | (.string bytes, d) => bytes.length + uptoBulk d + 1
  | (_, d) => uptoBulk d + 1
 end
def uptoSmall : (H : Type) → List (DataW H) → Bool := fun _ ds => decide (uptoBulkAll ds ≤ 1048576)
def OpenSpec.upto (s : _root_.Go.ChangeSpec) : _root_.Go.OpenSpec := { _root_.Go.OpenSpec.ofChange s with cond := some uptoSmall }

/-- 'laws.FnExactConstants', WHERE WHAT IT READS IS OF BULK AT MOST 1048576: true; the input reads as it did. -/
def fnExactConstantsUptoRow : OpenClaim := { program := "ytoicfnhpjfgjmaa", sum := "09feee3b5adf056703cb0eacf386848f1fb0b90cb414030bab5c43b953908c16", func := "loop.example/g01334/laws.FnExactConstants", spec := "fnExactConstants", apart := false, narrowed := true }
def FnExactConstantsUptoSaid : Prop := fnExactConstantsUptoRow.holds Try.pinned (OpenSpec.upto fnExactConstantsSpec)

/-- 'laws.FnExactAreThings', WHERE WHAT IT READS IS OF BULK AT MOST 1048576: true; the input reads as it did. -/
def fnExactAreThingsUptoRow : OpenClaim := { program := "ytoicfnhpjfgjmaa", sum := "09feee3b5adf056703cb0eacf386848f1fb0b90cb414030bab5c43b953908c16", func := "loop.example/g01334/laws.FnExactAreThings", spec := "fnExactAreThings", unfollowed := true, recurses := true, apart := false, narrowed := true }
def FnExactAreThingsUptoSaid : Prop := fnExactAreThingsUptoRow.holds Try.pinned (OpenSpec.upto fnExactAreThingsSpec)

/-- 'laws.FnExactAreLengths', WHERE WHAT IT READS IS OF BULK AT MOST 1048576: true; the input reads as it did. -/
def fnExactAreLengthsUptoRow : OpenClaim := { program := "ytoicfnhpjfgjmaa", sum := "09feee3b5adf056703cb0eacf386848f1fb0b90cb414030bab5c43b953908c16", func := "loop.example/g01334/laws.FnExactAreLengths", spec := "fnExactAreLengths", unfollowed := true, recurses := true, apart := false, narrowed := true }
def FnExactAreLengthsUptoSaid : Prop := fnExactAreLengthsUptoRow.holds Try.pinned (OpenSpec.upto fnExactAreLengthsSpec)

/-- 'laws.FnExactWorthOfCut', WHERE WHAT IT READS IS OF BULK AT MOST 1048576: true; the input reads as it did. -/
def fnExactWorthOfCutUptoRow : OpenClaim := { program := "ytoicfnhpjfgjmaa", sum := "09feee3b5adf056703cb0eacf386848f1fb0b90cb414030bab5c43b953908c16", func := "loop.example/g01334/laws.FnExactWorthOfCut", spec := "fnExactWorthOfCut", unfollowed := true, recurses := true, apart := false, narrowed := true }
def FnExactWorthOfCutUptoSaid : Prop := fnExactWorthOfCutUptoRow.holds Try.pinned (OpenSpec.upto fnExactWorthOfCutSpec)

/-- 'laws.FnExactCountOrders', WHERE WHAT IT READS IS OF BULK AT MOST 1048576: true; the input reads as it did. -/
def fnExactCountOrdersUptoRow : OpenClaim := { program := "ytoicfnhpjfgjmaa", sum := "09feee3b5adf056703cb0eacf386848f1fb0b90cb414030bab5c43b953908c16", func := "loop.example/g01334/laws.FnExactCountOrders", spec := "fnExactCountOrders", unfollowed := true, recurses := true, apart := false, narrowed := true }
def FnExactCountOrdersUptoSaid : Prop := fnExactCountOrdersUptoRow.holds Try.pinned (OpenSpec.upto fnExactCountOrdersSpec)

/-- 'laws.FnExactIsRodPattern', WHERE WHAT IT READS IS OF BULK AT MOST 1048576: true; the input reads as it did. -/
def fnExactIsRodPatternUptoRow : OpenClaim := { program := "ytoicfnhpjfgjmaa", sum := "09feee3b5adf056703cb0eacf386848f1fb0b90cb414030bab5c43b953908c16", func := "loop.example/g01334/laws.FnExactIsRodPattern", spec := "fnExactIsRodPattern", unfollowed := true, recurses := true, apart := false, narrowed := true }
def FnExactIsRodPatternUptoSaid : Prop := fnExactIsRodPatternUptoRow.holds Try.pinned (OpenSpec.upto fnExactIsRodPatternSpec)

/-- 'laws.FnExactUsedOf', WHERE WHAT IT READS IS OF BULK AT MOST 1048576: true; the input reads as it did. -/
def fnExactUsedOfUptoRow : OpenClaim := { program := "ytoicfnhpjfgjmaa", sum := "09feee3b5adf056703cb0eacf386848f1fb0b90cb414030bab5c43b953908c16", func := "loop.example/g01334/laws.FnExactUsedOf", spec := "fnExactUsedOf", unfollowed := true, recurses := true, apart := false, narrowed := true }
def FnExactUsedOfUptoSaid : Prop := fnExactUsedOfUptoRow.holds Try.pinned (OpenSpec.upto fnExactUsedOfSpec)

/-- 'laws.FnExactBoxesBound', WHERE WHAT IT READS IS OF BULK AT MOST 1048576: true; the input reads as it did. -/
def fnExactBoxesBoundUptoRow : OpenClaim := { program := "ytoicfnhpjfgjmaa", sum := "09feee3b5adf056703cb0eacf386848f1fb0b90cb414030bab5c43b953908c16", func := "loop.example/g01334/laws.FnExactBoxesBound", spec := "fnExactBoxesBound", unfollowed := true, recurses := true, apart := false, narrowed := true }
def FnExactBoxesBoundUptoSaid : Prop := fnExactBoxesBoundUptoRow.holds Try.pinned (OpenSpec.upto fnExactBoxesBoundSpec)

/-- 'laws.FnExactWasteOfPattern', WHERE WHAT IT READS IS OF BULK AT MOST 1048576: true; the input reads as it did. -/
def fnExactWasteOfPatternUptoRow : OpenClaim := { program := "ytoicfnhpjfgjmaa", sum := "09feee3b5adf056703cb0eacf386848f1fb0b90cb414030bab5c43b953908c16", func := "loop.example/g01334/laws.FnExactWasteOfPattern", spec := "fnExactWasteOfPattern", unfollowed := true, recurses := true, apart := false, narrowed := true }
def FnExactWasteOfPatternUptoSaid : Prop := fnExactWasteOfPatternUptoRow.holds Try.pinned (OpenSpec.upto fnExactWasteOfPatternSpec)

/-- 'laws.FnExactCountPatterns', WHERE WHAT IT READS IS OF BULK AT MOST 1048576: true; the input reads as it did. -/
def fnExactCountPatternsUptoRow : OpenClaim := { program := "ytoicfnhpjfgjmaa", sum := "09feee3b5adf056703cb0eacf386848f1fb0b90cb414030bab5c43b953908c16", func := "loop.example/g01334/laws.FnExactCountPatterns", spec := "fnExactCountPatterns", unfollowed := true, recurses := true, apart := false, narrowed := true }
def FnExactCountPatternsUptoSaid : Prop := fnExactCountPatternsUptoRow.holds Try.pinned (OpenSpec.upto fnExactCountPatternsSpec)

/-- 'laws.FnExactIsFullPattern', WHERE WHAT IT READS IS OF BULK AT MOST 1048576: true; the input reads as it did. -/
def fnExactIsFullPatternUptoRow : OpenClaim := { program := "ytoicfnhpjfgjmaa", sum := "09feee3b5adf056703cb0eacf386848f1fb0b90cb414030bab5c43b953908c16", func := "loop.example/g01334/laws.FnExactIsFullPattern", spec := "fnExactIsFullPattern", unfollowed := true, recurses := true, apart := false, narrowed := true }
def FnExactIsFullPatternUptoSaid : Prop := fnExactIsFullPatternUptoRow.holds Try.pinned (OpenSpec.upto fnExactIsFullPatternSpec)

/-- 'laws.FnExactRodsBound', WHERE WHAT IT READS IS OF BULK AT MOST 1048576: true; the input reads as it did. -/
def fnExactRodsBoundUptoRow : OpenClaim := { program := "ytoicfnhpjfgjmaa", sum := "09feee3b5adf056703cb0eacf386848f1fb0b90cb414030bab5c43b953908c16", func := "loop.example/g01334/laws.FnExactRodsBound", spec := "fnExactRodsBound", unfollowed := true, recurses := true, apart := false, narrowed := true }
def FnExactRodsBoundUptoSaid : Prop := fnExactRodsBoundUptoRow.holds Try.pinned (OpenSpec.upto fnExactRodsBoundSpec)

end Rows
end Go.Proofs.Ytoicfnhpjfgjmaa
