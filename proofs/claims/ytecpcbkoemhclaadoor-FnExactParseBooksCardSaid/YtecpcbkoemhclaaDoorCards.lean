/-
  DERIVED. GIVEN WITH THE SEED: THE CARDS: each row of YtecpcbkoemhclaaDoorRows.lean that lists a variable, with what it lists TIED to the program's text (the seventh form; the later family's looks); each row that meets fmt, with fmt's text TOLD by the authors' own Lean function (tested against real Go, not proved from fmt's source: count such statements apart). THE CARD IS WHAT COUNTS. Prove the row's statement (the work); the ties are given (YtecpcbkoemhclaaDoorTie.lean); close each card by the builder's one call (the guide's Derived/Test/ToyasCard.lean, 'card_holds'). Laid BY PROGRAM, IN A SANDBOX (cutbox-door.mjs). By AI agents, Wed Nov 11 2026. No macro, syntax, notation, axiom, sorry.
-/
import Derived.Test.YtecpcbkoemhclaaDoorRows
import GoSem.ClaimSeven
namespace Go.Proofs.YtecpcbkoemhclaaDoor
namespace Rows

/-- THE TIED CARD OF 'laws.FnExactParseThings'. -/
def fnExactParseThingsCard : Claim7 := { stood := { row := fnExactParseThingsRow, standIns := [], harness := (true, "90de179d76bfe85fab4316a8348448985d7da64643cec164d82f3392a07288c1"), looks := true }, kinds := [], alts := [], laidByText := true, laidKinds := [.data, .data, .data, .sentinel, .sentinel], laidTests := true, laidLooks := .later }
def FnExactParseThingsCardSaid : Prop := Claim7.holds Tryd.pinned (.plain (OpenSpec.ofChange fnExactParseThingsSpec)) fnExactParseThingsCard

/-- THE TIED CARD OF 'laws.FnExactParseBooks'. -/
def fnExactParseBooksCard : Claim7 := { stood := { row := fnExactParseBooksRow, standIns := [], harness := (true, "90de179d76bfe85fab4316a8348448985d7da64643cec164d82f3392a07288c1"), looks := true }, kinds := [], alts := [], laidByText := true, laidKinds := [.data, .data, .data, .sentinel, .sentinel], laidTests := true, laidLooks := .later }
def FnExactParseBooksCardSaid : Prop := Claim7.holds Tryd.pinned (.plain (OpenSpec.ofChange fnExactParseBooksSpec)) fnExactParseBooksCard

/-- THE TIED CARD OF 'laws.FnExactThingsText'. -/
def fnExactThingsTextCard : Claim7 := { stood := { row := fnExactThingsTextRow, standIns := [], harness := (true, "90de179d76bfe85fab4316a8348448985d7da64643cec164d82f3392a07288c1"), looks := true }, kinds := [], alts := [], laidByText := true, laidKinds := [.data, .data, .data], laidTests := true, laidLooks := .later }
def FnExactThingsTextCardSaid : Prop := Claim7.holds Tryd.pinned (.plain (OpenSpec.ofChange fnExactThingsTextSpec)) fnExactThingsTextCard

/-- THE TIED CARD OF 'laws.FnExactBooksText'. -/
def fnExactBooksTextCard : Claim7 := { stood := { row := fnExactBooksTextRow, standIns := [], harness := (true, "90de179d76bfe85fab4316a8348448985d7da64643cec164d82f3392a07288c1"), looks := true }, kinds := [], alts := [], laidByText := true, laidKinds := [.data, .data, .data], laidTests := true, laidLooks := .later }
def FnExactBooksTextCardSaid : Prop := Claim7.holds Tryd.pinned (.plain (OpenSpec.ofChange fnExactBooksTextSpec)) fnExactBooksTextCard

/-- THE SECOND FORM's CARD OF 'laws.FnExactParseThings'. -/
def fnExactParseThingsUptoCard : Claim7 := { stood := { row := fnExactParseThingsUptoRow, standIns := [], harness := (true, "90de179d76bfe85fab4316a8348448985d7da64643cec164d82f3392a07288c1"), looks := true }, kinds := [], alts := [], laidByText := true, laidKinds := [.data, .data, .data, .sentinel, .sentinel], laidTests := true, laidLooks := .later }
def FnExactParseThingsUptoCardSaid : Prop := Claim7.holds Tryd.pinned (.plain (OpenSpec.upto fnExactParseThingsSpec)) fnExactParseThingsUptoCard

/-- THE SECOND FORM's CARD OF 'laws.FnExactParseBooks'. -/
def fnExactParseBooksUptoCard : Claim7 := { stood := { row := fnExactParseBooksUptoRow, standIns := [], harness := (true, "90de179d76bfe85fab4316a8348448985d7da64643cec164d82f3392a07288c1"), looks := true }, kinds := [], alts := [], laidByText := true, laidKinds := [.data, .data, .data, .sentinel, .sentinel], laidTests := true, laidLooks := .later }
def FnExactParseBooksUptoCardSaid : Prop := Claim7.holds Tryd.pinned (.plain (OpenSpec.upto fnExactParseBooksSpec)) fnExactParseBooksUptoCard

/-- THE SECOND FORM's CARD OF 'laws.FnExactThingsText'. -/
def fnExactThingsTextUptoCard : Claim7 := { stood := { row := fnExactThingsTextUptoRow, standIns := [], harness := (true, "90de179d76bfe85fab4316a8348448985d7da64643cec164d82f3392a07288c1"), looks := true }, kinds := [], alts := [], laidByText := true, laidKinds := [.data, .data, .data], laidTests := true, laidLooks := .later }
def FnExactThingsTextUptoCardSaid : Prop := Claim7.holds Tryd.pinned (.plain (OpenSpec.upto fnExactThingsTextSpec)) fnExactThingsTextUptoCard

/-- THE SECOND FORM's CARD OF 'laws.FnExactBooksText'. -/
def fnExactBooksTextUptoCard : Claim7 := { stood := { row := fnExactBooksTextUptoRow, standIns := [], harness := (true, "90de179d76bfe85fab4316a8348448985d7da64643cec164d82f3392a07288c1"), looks := true }, kinds := [], alts := [], laidByText := true, laidKinds := [.data, .data, .data], laidTests := true, laidLooks := .later }
def FnExactBooksTextUptoCardSaid : Prop := Claim7.holds Tryd.pinned (.plain (OpenSpec.upto fnExactBooksTextSpec)) fnExactBooksTextUptoCard
end Rows
end Go.Proofs.YtecpcbkoemhclaaDoor
