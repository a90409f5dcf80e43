/-
  No cell of these rows narrows 'for every input' (looked for: loops, veiled, ifaces, maps, wideKeys, modest, calm, conditions, laid).
  DERIVED. THE GIVEN ROWS OF THIS SEAT. 5 by the template 'for every input the law returns true; each argument reads behind the call as it read before'; 0 by the template 'total and deterministic' (their statements: YthdfkgehgkfffaaTotals.lean).
  GIVEN WITH THE SEED: the statements are not yours to turn. If you find one false, say at which input.
  Laid BY PROGRAM, IN A SANDBOX (cutbox-rows.mjs): the forced cells as the released guide's own fill.sh prints them over the translation 46672f40c4e09a36… (all of the seat's roots in one cut). By AI agents, Wed Nov 11 2026. No macro, syntax, notation, axiom, sorry.
-/
import Derived.Test.YthdfkgehgkfffaaChecked
import GoSem.Claim
import GoSem.ClaimJoined
import GoSem.ClaimMapViews
import Derived.JoinedTies
import Derived.KernelRfl
namespace Go.Proofs.Ythdfkgehgkfffaa
/- THE CELL 'sum', in the pinned program and in every row, IS THE sha256 OF THE DUMP (.gsa) THAT YthdfkgehgkfffaaProg.lean LOADS. Nothing in Lean hashes anything: it is a label: what it is worth is what the hold of that sum in a sandbox is worth. -/
noncomputable def Try.pinned : Pinned := { name := "ythdfkgehgkfffaa", sum := "46672f40c4e09a36616e1b98f594bbc0d01889f95e698696c8462db20ad63e55", checked := Try.checked }
namespace Rows
def none {H : Type} : Left H := { results := [], args := [] }

/-- 'laws.FnExactCountShelvings': WHATEVER THE INPUT: true; the input reads as it did. -/
def fnExactCountShelvingsSpec : ChangeSpec := { name := "fnExactCountShelvings", fn := fun _ => fun
  | [d1, d2] => { results := [.lit (.bool true)], args := [d1, d2] }
  | _ => none }
def fnExactCountShelvingsRow : OpenClaim := { program := "ythdfkgehgkfffaa", sum := "46672f40c4e09a36616e1b98f594bbc0d01889f95e698696c8462db20ad63e55", func := "loop.example/g01334/laws.FnExactCountShelvings", spec := "fnExactCountShelvings", unfollowed := true, recurses := true, apart := false }
def FnExactCountShelvingsSaid : Prop := fnExactCountShelvingsRow.holds Try.pinned (OpenSpec.ofChange fnExactCountShelvingsSpec)

/-- ITS FALSE NEIGHBOUR: 'it returns false'. Refute it at one input. -/
def fnExactCountShelvingsWrong : ChangeSpec := { name := "fnExactCountShelvings", fn := fun _ => fun
  | [d1, d2] => { results := [.lit (.bool false)], args := [d1, d2] }
  | _ => none }
def FnExactCountShelvingsWrongFalsely : Prop := fnExactCountShelvingsRow.holds Try.pinned (OpenSpec.ofChange fnExactCountShelvingsWrong)

/-- 'laws.FnExactLowestCase': WHATEVER THE INPUT: true; the input reads as it did. -/
def fnExactLowestCaseSpec : ChangeSpec := { name := "fnExactLowestCase", fn := fun _ => fun
  | [d1, d2] => { results := [.lit (.bool true)], args := [d1, d2] }
  | _ => none }
def fnExactLowestCaseRow : OpenClaim := { program := "ythdfkgehgkfffaa", sum := "46672f40c4e09a36616e1b98f594bbc0d01889f95e698696c8462db20ad63e55", func := "loop.example/g01334/laws.FnExactLowestCase", spec := "fnExactLowestCase", unfollowed := true, recurses := true, apart := false }
def FnExactLowestCaseSaid : Prop := fnExactLowestCaseRow.holds Try.pinned (OpenSpec.ofChange fnExactLowestCaseSpec)

/-- ITS FALSE NEIGHBOUR: 'it returns false'. Refute it at one input. -/
def fnExactLowestCaseWrong : ChangeSpec := { name := "fnExactLowestCase", fn := fun _ => fun
  | [d1, d2] => { results := [.lit (.bool false)], args := [d1, d2] }
  | _ => none }
def FnExactLowestCaseWrongFalsely : Prop := fnExactLowestCaseRow.holds Try.pinned (OpenSpec.ofChange fnExactLowestCaseWrong)

/-- 'laws.FnExactFirstLowest': WHATEVER THE INPUT: true; the input reads as it did. -/
def fnExactFirstLowestSpec : ChangeSpec := { name := "fnExactFirstLowest", fn := fun _ => fun
  | [d1, d2] => { results := [.lit (.bool true)], args := [d1, d2] }
  | _ => none }
def fnExactFirstLowestRow : OpenClaim := { program := "ythdfkgehgkfffaa", sum := "46672f40c4e09a36616e1b98f594bbc0d01889f95e698696c8462db20ad63e55", func := "loop.example/g01334/laws.FnExactFirstLowest", spec := "fnExactFirstLowest", unfollowed := true, recurses := true, apart := false }
def FnExactFirstLowestSaid : Prop := fnExactFirstLowestRow.holds Try.pinned (OpenSpec.ofChange fnExactFirstLowestSpec)

/-- ITS FALSE NEIGHBOUR: 'it returns false'. Refute it at one input. -/
def fnExactFirstLowestWrong : ChangeSpec := { name := "fnExactFirstLowest", fn := fun _ => fun
  | [d1, d2] => { results := [.lit (.bool false)], args := [d1, d2] }
  | _ => none }
def FnExactFirstLowestWrongFalsely : Prop := fnExactFirstLowestRow.holds Try.pinned (OpenSpec.ofChange fnExactFirstLowestWrong)

/-- 'laws.FnExactCountLowest': WHATEVER THE INPUT: true; the input reads as it did. -/
def fnExactCountLowestSpec : ChangeSpec := { name := "fnExactCountLowest", fn := fun _ => fun
  | [d1, d2] => { results := [.lit (.bool true)], args := [d1, d2] }
  | _ => none }
def fnExactCountLowestRow : OpenClaim := { program := "ythdfkgehgkfffaa", sum := "46672f40c4e09a36616e1b98f594bbc0d01889f95e698696c8462db20ad63e55", func := "loop.example/g01334/laws.FnExactCountLowest", spec := "fnExactCountLowest", unfollowed := true, recurses := true, apart := false }
def FnExactCountLowestSaid : Prop := fnExactCountLowestRow.holds Try.pinned (OpenSpec.ofChange fnExactCountLowestSpec)

/-- ITS FALSE NEIGHBOUR: 'it returns false'. Refute it at one input. -/
def fnExactCountLowestWrong : ChangeSpec := { name := "fnExactCountLowest", fn := fun _ => fun
  | [d1, d2] => { results := [.lit (.bool false)], args := [d1, d2] }
  | _ => none }
def FnExactCountLowestWrongFalsely : Prop := fnExactCountLowestRow.holds Try.pinned (OpenSpec.ofChange fnExactCountLowestWrong)

/-- 'laws.FnExactSmoothestCase': WHATEVER THE INPUT: true; the input reads as it did. -/
def fnExactSmoothestCaseSpec : ChangeSpec := { name := "fnExactSmoothestCase", fn := fun _ => fun
  | [d1, d2] => { results := [.lit (.bool true)], args := [d1, d2] }
  | _ => none }
def fnExactSmoothestCaseRow : OpenClaim := { program := "ythdfkgehgkfffaa", sum := "46672f40c4e09a36616e1b98f594bbc0d01889f95e698696c8462db20ad63e55", func := "loop.example/g01334/laws.FnExactSmoothestCase", spec := "fnExactSmoothestCase", unfollowed := true, recurses := true, apart := false }
def FnExactSmoothestCaseSaid : Prop := fnExactSmoothestCaseRow.holds Try.pinned (OpenSpec.ofChange fnExactSmoothestCaseSpec)

/-- ITS FALSE NEIGHBOUR: 'it returns false'. Refute it at one input. -/
def fnExactSmoothestCaseWrong : ChangeSpec := { name := "fnExactSmoothestCase", fn := fun _ => fun
  | [d1, d2] => { results := [.lit (.bool false)], args := [d1, d2] }
  | _ => none }
def FnExactSmoothestCaseWrongFalsely : Prop := fnExactSmoothestCaseRow.holds Try.pinned (OpenSpec.ofChange fnExactSmoothestCaseWrong)

/- THE SECOND FORM. 'bulk': how many values and letters a reading holds, each counted each time it is reached (what is shared counts as often as it is met; a slice's spare places count too). A statement '..UptoSaid' is the law's where the arguments, and the package variables that the reading takes, are together of bulk at most 1048576: NARROWER than '..Said'. Prove '..Said' where nothing that the law and all that it calls make is longer than what came in: it says more and counts as full. Else prove '..UptoSaid'. A law counts once. -/
mutual
def uptoBulk {H : Type} : DataW H → Nat
  | .lit (.string bytes) => bytes.length + 1
  | .lit _ => 1
  | .nil => 1
  | .ptr d => uptoBulk d + 1
  | .slice elems spare => uptoBulkAll elems + uptoBulkAll spare + 1
  | .agg parts => uptoBulkAll parts + 1
  | .iface _ d => uptoBulk d + 1
  | .map entries => uptoBulkEntries entries + 1
  | .held _ => 1
def uptoBulkAll {H : Type} : List (DataW H) → Nat
  | [] => 0
  | d :: r => uptoBulk d + uptoBulkAll r
def uptoBulkEntries {H : Type} : List (Lit × DataW H) → Nat
  | [] => 0
  | x :: r => uptoBulkEntry x + uptoBulkEntries r
def uptoBulkEntry {H : Type} : Lit × DataW H → Nat
  | (.string bytes, d) => bytes.length + uptoBulk d + 1
  | (_, d) => uptoBulk d + 1
 end
def uptoSmall : (H : Type) → List (DataW H) → Bool := fun _ ds => decide (uptoBulkAll ds ≤ 1048576)
def OpenSpec.upto (s : _root_.Go.ChangeSpec) : _root_.Go.OpenSpec := { _root_.Go.OpenSpec.ofChange s with cond := some uptoSmall }

/-- 'laws.FnExactCountShelvings', WHERE WHAT IT READS IS OF BULK AT MOST 1048576: true; the input reads as it did. -/
def fnExactCountShelvingsUptoRow : OpenClaim := { program := "ythdfkgehgkfffaa", sum := "46672f40c4e09a36616e1b98f594bbc0d01889f95e698696c8462db20ad63e55", func := "loop.example/g01334/laws.FnExactCountShelvings", spec := "fnExactCountShelvings", unfollowed := true, recurses := true, apart := false, narrowed := true }
def FnExactCountShelvingsUptoSaid : Prop := fnExactCountShelvingsUptoRow.holds Try.pinned (OpenSpec.upto fnExactCountShelvingsSpec)

/-- 'laws.FnExactLowestCase', WHERE WHAT IT READS IS OF BULK AT MOST 1048576: true; the input reads as it did. -/
def fnExactLowestCaseUptoRow : OpenClaim := { program := "ythdfkgehgkfffaa", sum := "46672f40c4e09a36616e1b98f594bbc0d01889f95e698696c8462db20ad63e55", func := "loop.example/g01334/laws.FnExactLowestCase", spec := "fnExactLowestCase", unfollowed := true, recurses := true, apart := false, narrowed := true }
def FnExactLowestCaseUptoSaid : Prop := fnExactLowestCaseUptoRow.holds Try.pinned (OpenSpec.upto fnExactLowestCaseSpec)

/-- 'laws.FnExactFirstLowest', WHERE WHAT IT READS IS OF BULK AT MOST 1048576: true; the input reads as it did. -/
def fnExactFirstLowestUptoRow : OpenClaim := { program := "ythdfkgehgkfffaa", sum := "46672f40c4e09a36616e1b98f594bbc0d01889f95e698696c8462db20ad63e55", func := "loop.example/g01334/laws.FnExactFirstLowest", spec := "fnExactFirstLowest", unfollowed := true, recurses := true, apart := false, narrowed := true }
def FnExactFirstLowestUptoSaid : Prop := fnExactFirstLowestUptoRow.holds Try.pinned (OpenSpec.upto fnExactFirstLowestSpec)

/-- 'laws.FnExactCountLowest', WHERE WHAT IT READS IS OF BULK AT MOST 1048576: true; the input reads as it did. -/
def fnExactCountLowestUptoRow : OpenClaim := { program := "ythdfkgehgkfffaa", sum := "46672f40c4e09a36616e1b98f594bbc0d01889f95e698696c8462db20ad63e55", func := "loop.example/g01334/laws.FnExactCountLowest", spec := "fnExactCountLowest", unfollowed := true, recurses := true, apart := false, narrowed := true }
def FnExactCountLowestUptoSaid : Prop := fnExactCountLowestUptoRow.holds Try.pinned (OpenSpec.upto fnExactCountLowestSpec)

/-- 'laws.FnExactSmoothestCase', WHERE WHAT IT READS IS OF BULK AT MOST 1048576: true; the input reads as it did. -/
def fnExactSmoothestCaseUptoRow : OpenClaim := { program := "ythdfkgehgkfffaa", sum := "46672f40c4e09a36616e1b98f594bbc0d01889f95e698696c8462db20ad63e55", func := "loop.example/g01334/laws.FnExactSmoothestCase", spec := "fnExactSmoothestCase", unfollowed := true, recurses := true, apart := false, narrowed := true }
def FnExactSmoothestCaseUptoSaid : Prop := fnExactSmoothestCaseUptoRow.holds Try.pinned (OpenSpec.upto fnExactSmoothestCaseSpec)

end Rows
end Go.Proofs.Ythdfkgehgkfffaa
