/-
  DERIVED. GIVEN WITH THE SEED: THE CARDS: each row of YtfobhlmjcnkpiaaGreatDoorRows.lean that lists a variable, with what it lists TIED to the program's text (the seventh form; the later family's looks); each row that meets fmt, with fmt's text TOLD by the authors' own Lean function (tested against real Go, not proved from fmt's source: count such statements apart). THE CARD IS WHAT COUNTS. Prove the row's statement (the work); the ties are given (YtfobhlmjcnkpiaaGreatDoorTie.lean); close each card by the builder's one call (the guide's Derived/Test/ToyasCard.lean, 'card_holds'). Laid BY PROGRAM, IN A SANDBOX (cutbox-door.mjs). By AI agents, Wed Nov 11 2026. No macro, syntax, notation, axiom, sorry.
-/
import Derived.Test.YtfobhlmjcnkpiaaGreatDoorRows
import GoSem.ClaimSeven
namespace Go.Proofs.YtfobhlmjcnkpiaaGreatDoor
namespace Rows

/-- THE TIED CARD OF 'laws.FnFoldExprs'. -/
def fnFoldExprsCard : Claim7 := { stood := { row := fnFoldExprsRow, standIns := [], harness := (true, "cb131ce310a8c6acff0ceb0eb47ff963729c48eb81f35db65fe6f8f4fb049e41"), looks := false }, kinds := [], alts := [], laidByText := true, laidKinds := [.data, .data, .data], laidTests := true, laidLooks := .later }
def FnFoldExprsCardSaid : Prop := Claim7.holds Tryz.pinned (.plain (OpenSpec.ofChange fnFoldExprsSpec)) fnFoldExprsCard

/-- THE SECOND FORM's CARD OF 'laws.FnFoldExprs'. -/
def fnFoldExprsUptoCard : Claim7 := { stood := { row := fnFoldExprsUptoRow, standIns := [], harness := (true, "cb131ce310a8c6acff0ceb0eb47ff963729c48eb81f35db65fe6f8f4fb049e41"), looks := false }, kinds := [], alts := [], laidByText := true, laidKinds := [.data, .data, .data], laidTests := true, laidLooks := .later }
def FnFoldExprsUptoCardSaid : Prop := Claim7.holds Tryz.pinned (.plain (OpenSpec.upto fnFoldExprsSpec)) fnFoldExprsUptoCard
end Rows
end Go.Proofs.YtfobhlmjcnkpiaaGreatDoor
