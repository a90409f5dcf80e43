/-
  No cell of these rows narrows 'for every input' (looked for: loops, veiled, ifaces, maps, wideKeys, modest, calm, conditions, laid).
  DERIVED. THE GIVEN ROWS OF THIS SEAT. 4 by the template 'for every input the law returns true; each argument reads behind the call as it read before'; 0 by the template 'total and deterministic' (their statements: YtphpdgjcmocdcaaTotals.lean).
  GIVEN WITH THE SEED: the statements are not yours to turn. If you find one false, say at which input.
  Laid BY PROGRAM, IN A SANDBOX (cutbox-rows.mjs): the forced cells as the released guide's own fill.sh prints them over the translation f64671083ce2ce87… (all of the seat's roots in one cut). By AI agents, Wed Nov 11 2026. No macro, syntax, notation, axiom, sorry.
-/
import Derived.Test.YtphpdgjcmocdcaaChecked
import GoSem.Claim
import GoSem.ClaimJoined
import GoSem.ClaimMapViews
import Derived.JoinedTies
import Derived.KernelRfl
namespace Go.Proofs.Ytphpdgjcmocdcaa
/- THE CELL 'sum', in the pinned program and in every row, IS THE sha256 OF THE DUMP (.gsa) THAT YtphpdgjcmocdcaaProg.lean LOADS. Nothing in Lean hashes anything: it is a label: what it is worth is what the hold of that sum in a sandbox is worth. -/
noncomputable def Try.pinned : Pinned := { name := "ytphpdgjcmocdcaa", sum := "f64671083ce2ce87199a447b2a6278ce943e75a2f9b85722d72f97be90556a20", checked := Try.checked }
namespace Rows
def none {H : Type} : Left H := { results := [], args := [] }

/-- 'laws.FnExactAreBooks': WHATEVER THE INPUT: true; the input reads as it did. -/
def fnExactAreBooksSpec : ChangeSpec := { name := "fnExactAreBooks", fn := fun _ => fun
  | [d] => { results := [.lit (.bool true)], args := [d] }
  | _ => none }
def fnExactAreBooksRow : OpenClaim := { program := "ytphpdgjcmocdcaa", sum := "f64671083ce2ce87199a447b2a6278ce943e75a2f9b85722d72f97be90556a20", func := "loop.example/g01334/laws.FnExactAreBooks", spec := "fnExactAreBooks", unfollowed := true, recurses := true, apart := false }
def FnExactAreBooksSaid : Prop := fnExactAreBooksRow.holds Try.pinned (OpenSpec.ofChange fnExactAreBooksSpec)

/-- ITS FALSE NEIGHBOUR: 'it returns false'. Refute it at one input. -/
def fnExactAreBooksWrong : ChangeSpec := { name := "fnExactAreBooks", fn := fun _ => fun
  | [d] => { results := [.lit (.bool false)], args := [d] }
  | _ => none }
def FnExactAreBooksWrongFalsely : Prop := fnExactAreBooksRow.holds Try.pinned (OpenSpec.ofChange fnExactAreBooksWrong)

/-- 'laws.FnExactLeastWidth': WHATEVER THE INPUT: true; the input reads as it did. -/
def fnExactLeastWidthSpec : ChangeSpec := { name := "fnExactLeastWidth", fn := fun _ => fun
  | [d1, d2] => { results := [.lit (.bool true)], args := [d1, d2] }
  | _ => none }
def fnExactLeastWidthRow : OpenClaim := { program := "ytphpdgjcmocdcaa", sum := "f64671083ce2ce87199a447b2a6278ce943e75a2f9b85722d72f97be90556a20", func := "loop.example/g01334/laws.FnExactLeastWidth", spec := "fnExactLeastWidth", unfollowed := true, recurses := true, apart := false }
def FnExactLeastWidthSaid : Prop := fnExactLeastWidthRow.holds Try.pinned (OpenSpec.ofChange fnExactLeastWidthSpec)

/-- ITS FALSE NEIGHBOUR: 'it returns false'. Refute it at one input. -/
def fnExactLeastWidthWrong : ChangeSpec := { name := "fnExactLeastWidth", fn := fun _ => fun
  | [d1, d2] => { results := [.lit (.bool false)], args := [d1, d2] }
  | _ => none }
def FnExactLeastWidthWrongFalsely : Prop := fnExactLeastWidthRow.holds Try.pinned (OpenSpec.ofChange fnExactLeastWidthWrong)

/-- 'laws.FnExactFewestShelves': WHATEVER THE INPUT: true; the input reads as it did. -/
def fnExactFewestShelvesSpec : ChangeSpec := { name := "fnExactFewestShelves", fn := fun _ => fun
  | [d1, d2] => { results := [.lit (.bool true)], args := [d1, d2] }
  | _ => none }
def fnExactFewestShelvesRow : OpenClaim := { program := "ytphpdgjcmocdcaa", sum := "f64671083ce2ce87199a447b2a6278ce943e75a2f9b85722d72f97be90556a20", func := "loop.example/g01334/laws.FnExactFewestShelves", spec := "fnExactFewestShelves", unfollowed := true, recurses := true, apart := false }
def FnExactFewestShelvesSaid : Prop := fnExactFewestShelvesRow.holds Try.pinned (OpenSpec.ofChange fnExactFewestShelvesSpec)

/-- ITS FALSE NEIGHBOUR: 'it returns false'. Refute it at one input. -/
def fnExactFewestShelvesWrong : ChangeSpec := { name := "fnExactFewestShelves", fn := fun _ => fun
  | [d1, d2] => { results := [.lit (.bool false)], args := [d1, d2] }
  | _ => none }
def FnExactFewestShelvesWrongFalsely : Prop := fnExactFewestShelvesRow.holds Try.pinned (OpenSpec.ofChange fnExactFewestShelvesWrong)

/-- 'laws.FnExactFillShelves': WHATEVER THE INPUT: true; the input reads as it did. -/
def fnExactFillShelvesSpec : ChangeSpec := { name := "fnExactFillShelves", fn := fun _ => fun
  | [d1, d2] => { results := [.lit (.bool true)], args := [d1, d2] }
  | _ => none }
def fnExactFillShelvesRow : OpenClaim := { program := "ytphpdgjcmocdcaa", sum := "f64671083ce2ce87199a447b2a6278ce943e75a2f9b85722d72f97be90556a20", func := "loop.example/g01334/laws.FnExactFillShelves", spec := "fnExactFillShelves", unfollowed := true, recurses := true, apart := false }
def FnExactFillShelvesSaid : Prop := fnExactFillShelvesRow.holds Try.pinned (OpenSpec.ofChange fnExactFillShelvesSpec)

/-- ITS FALSE NEIGHBOUR: 'it returns false'. Refute it at one input. -/
def fnExactFillShelvesWrong : ChangeSpec := { name := "fnExactFillShelves", fn := fun _ => fun
  | [d1, d2] => { results := [.lit (.bool false)], args := [d1, d2] }
  | _ => none }
def FnExactFillShelvesWrongFalsely : Prop := fnExactFillShelvesRow.holds Try.pinned (OpenSpec.ofChange fnExactFillShelvesWrong)

/- THE SECOND FORM. 'bulk': how many values and letters a reading holds, each counted each time it is reached (what is shared counts as often as it is met; a slice's spare places count too). A statement '..UptoSaid' is the law's where the arguments, and the package variables that the reading takes, are together of bulk at most 1048576: NARROWER than '..Said'. Prove '..Said' where nothing that the law and all that it calls make is longer than what came in: it says more and counts as full. Else prove '..UptoSaid'. A law counts once. -/
mutual
def uptoBulk {H : Type} : DataW H → Nat
  | .lit (.string bytes) => bytes.length + 1
  | .lit _ => 1
  | .nil => 1
  | .ptr d => uptoBulk d + 1
  | .slice elems spare => uptoBulkAll elems + uptoBulkAll spare + 1
  | .agg parts => uptoBulkAll parts + 1
  | .iface _ d => uptoBulk d + 1
  | .map entries => uptoBulkEntries entries + 1
  | .held _ => 1
def uptoBulkAll {H : Type} : List (DataW H) → Nat
  | [] => 0
  | d :: r => uptoBulk d + uptoBulkAll r
def uptoBulkEntries {H : Type} : List (Lit × DataW H) → Nat
  | [] => 0
  | x :: r => uptoBulkEntry x + uptoBulkEntries r
def uptoBulkEntry {H : Type} : Lit × DataW H → Nat
  | (.string bytes, d) => bytes.length + uptoBulk d + 1
  | (_, d) => uptoBulk d + 1
 end
def uptoSmall : (H : Type) → List (DataW H) → Bool := fun _ ds => decide (uptoBulkAll ds ≤ 1048576)
def OpenSpec.upto (s : _root_.Go.ChangeSpec) : _root_.Go.OpenSpec := { _root_.Go.OpenSpec.ofChange s with cond := some uptoSmall }

/-- 'laws.FnExactAreBooks', WHERE WHAT IT READS IS OF BULK AT MOST 1048576: true; the input reads as it did. -/
def fnExactAreBooksUptoRow : OpenClaim := { program := "ytphpdgjcmocdcaa", sum := "f64671083ce2ce87199a447b2a6278ce943e75a2f9b85722d72f97be90556a20", func := "loop.example/g01334/laws.FnExactAreBooks", spec := "fnExactAreBooks", unfollowed := true, recurses := true, apart := false, narrowed := true }
def FnExactAreBooksUptoSaid : Prop := fnExactAreBooksUptoRow.holds Try.pinned (OpenSpec.upto fnExactAreBooksSpec)

/-- 'laws.FnExactLeastWidth', WHERE WHAT IT READS IS OF BULK AT MOST 1048576: true; the input reads as it did. -/
def fnExactLeastWidthUptoRow : OpenClaim := { program := "ytphpdgjcmocdcaa", sum := "f64671083ce2ce87199a447b2a6278ce943e75a2f9b85722d72f97be90556a20", func := "loop.example/g01334/laws.FnExactLeastWidth", spec := "fnExactLeastWidth", unfollowed := true, recurses := true, apart := false, narrowed := true }
def FnExactLeastWidthUptoSaid : Prop := fnExactLeastWidthUptoRow.holds Try.pinned (OpenSpec.upto fnExactLeastWidthSpec)

/-- 'laws.FnExactFewestShelves', WHERE WHAT IT READS IS OF BULK AT MOST 1048576: true; the input reads as it did. -/
def fnExactFewestShelvesUptoRow : OpenClaim := { program := "ytphpdgjcmocdcaa", sum := "f64671083ce2ce87199a447b2a6278ce943e75a2f9b85722d72f97be90556a20", func := "loop.example/g01334/laws.FnExactFewestShelves", spec := "fnExactFewestShelves", unfollowed := true, recurses := true, apart := false, narrowed := true }
def FnExactFewestShelvesUptoSaid : Prop := fnExactFewestShelvesUptoRow.holds Try.pinned (OpenSpec.upto fnExactFewestShelvesSpec)

/-- 'laws.FnExactFillShelves', WHERE WHAT IT READS IS OF BULK AT MOST 1048576: true; the input reads as it did. -/
def fnExactFillShelvesUptoRow : OpenClaim := { program := "ytphpdgjcmocdcaa", sum := "f64671083ce2ce87199a447b2a6278ce943e75a2f9b85722d72f97be90556a20", func := "loop.example/g01334/laws.FnExactFillShelves", spec := "fnExactFillShelves", unfollowed := true, recurses := true, apart := false, narrowed := true }
def FnExactFillShelvesUptoSaid : Prop := fnExactFillShelvesUptoRow.holds Try.pinned (OpenSpec.upto fnExactFillShelvesSpec)

end Rows
end Go.Proofs.Ytphpdgjcmocdcaa
