/-
  DERIVED. GIVEN WITH THE SEED: THE CARDS: each row of YtknngaomlfdhiaaDoorRows.lean that lists a variable, with what it lists TIED to the program's text (the seventh form; the later family's looks); each row that meets fmt, with fmt's text TOLD by the authors' own Lean function (tested against real Go, not proved from fmt's source: count such statements apart). THE CARD IS WHAT COUNTS. Prove the row's statement (the work); the ties are given (YtknngaomlfdhiaaDoorTie.lean); close each card by the builder's one call (the guide's Derived/Test/ToyasCard.lean, 'card_holds'). Laid BY PROGRAM, IN A SANDBOX (cutbox-door.mjs). By AI agents, Wed Nov 11 2026. No macro, syntax, notation, axiom, sorry.
-/
import Derived.Test.YtknngaomlfdhiaaDoorRows
import GoSem.ClaimSeven
namespace Go.Proofs.YtknngaomlfdhiaaDoor
namespace Rows

/-- THE TIED CARD OF 'laws.FnExactSpanOf'. -/
def fnExactSpanOfCard : Claim7 := { stood := { row := fnExactSpanOfRow, standIns := [], harness := (true, "f3a48fb792397fa6cde298458764dbf5a462cec2103922b98f29930cb010ad47"), looks := false }, kinds := [], alts := [], laidByText := true, laidKinds := [.data, .data], laidTests := true, laidLooks := .later }
def FnExactSpanOfCardSaid : Prop := Claim7.holds Tryd.pinned (.plain (OpenSpec.ofChange fnExactSpanOfSpec)) fnExactSpanOfCard

/-- THE SECOND FORM's CARD OF 'laws.FnExactSpanOf'. -/
def fnExactSpanOfUptoCard : Claim7 := { stood := { row := fnExactSpanOfUptoRow, standIns := [], harness := (true, "f3a48fb792397fa6cde298458764dbf5a462cec2103922b98f29930cb010ad47"), looks := false }, kinds := [], alts := [], laidByText := true, laidKinds := [.data, .data], laidTests := true, laidLooks := .later }
def FnExactSpanOfUptoCardSaid : Prop := Claim7.holds Tryd.pinned (.plain (OpenSpec.upto fnExactSpanOfSpec)) fnExactSpanOfUptoCard
end Rows
end Go.Proofs.YtknngaomlfdhiaaDoor
