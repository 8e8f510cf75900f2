/-
  DERIVED. GIVEN WITH THE SEED: THE CARDS: each row of YtnmkmfancgcaeaaGreatDoorRows.lean that lists a variable, with what it lists TIED to the program's text (the seventh form; the later family's looks); each row that meets fmt, with fmt's text TOLD by the authors' own Lean function (tested against real Go, not proved from fmt's source: count such statements apart). THE CARD IS WHAT COUNTS. Prove the row's statement (the work); the ties are given (YtnmkmfancgcaeaaGreatDoorTie.lean); close each card by the builder's one call (the guide's Derived/Test/ToyasCard.lean, 'card_holds'). Laid BY PROGRAM, IN A SANDBOX (cutbox-door.mjs). By AI agents, Wed Nov 11 2026. No macro, syntax, notation, axiom, sorry.
-/
import Derived.Test.YtnmkmfancgcaeaaGreatDoorRows
import GoSem.ClaimSeven
namespace Go.Proofs.YtnmkmfancgcaeaaGreatDoor
namespace Rows

/-- THE TIED CARD OF 'laws.FnExactFoldExpr'. -/
def fnExactFoldExprCard : Claim7 := { stood := { row := fnExactFoldExprRow, standIns := [], harness := (true, "27c4e60330d3562e3b17e30b5dd0d7ab0a7e17ff7547e88206843c8a88b6d9ee"), looks := false }, kinds := [], alts := [], laidByText := true, laidKinds := [.data, .data, .data], laidTests := true, laidLooks := .later }
def FnExactFoldExprCardSaid : Prop := Claim7.holds Tryz.pinned (.plain (OpenSpec.ofChange fnExactFoldExprSpec)) fnExactFoldExprCard

/-- THE TIED CARD OF 'laws.FnExactFoldProg'. -/
def fnExactFoldProgCard : Claim7 := { stood := { row := fnExactFoldProgRow, standIns := [], harness := (true, "27c4e60330d3562e3b17e30b5dd0d7ab0a7e17ff7547e88206843c8a88b6d9ee"), looks := false }, kinds := [], alts := [], laidByText := true, laidKinds := [.data, .data, .data], laidTests := true, laidLooks := .later }
def FnExactFoldProgCardSaid : Prop := Claim7.holds Tryz.pinned (.plain (OpenSpec.ofChange fnExactFoldProgSpec)) fnExactFoldProgCard

/-- THE SECOND FORM's CARD OF 'laws.FnExactFoldExpr'. -/
def fnExactFoldExprUptoCard : Claim7 := { stood := { row := fnExactFoldExprUptoRow, standIns := [], harness := (true, "27c4e60330d3562e3b17e30b5dd0d7ab0a7e17ff7547e88206843c8a88b6d9ee"), looks := false }, kinds := [], alts := [], laidByText := true, laidKinds := [.data, .data, .data], laidTests := true, laidLooks := .later }
def FnExactFoldExprUptoCardSaid : Prop := Claim7.holds Tryz.pinned (.plain (OpenSpec.upto fnExactFoldExprSpec)) fnExactFoldExprUptoCard

/-- THE SECOND FORM's CARD OF 'laws.FnExactFoldProg'. -/
def fnExactFoldProgUptoCard : Claim7 := { stood := { row := fnExactFoldProgUptoRow, standIns := [], harness := (true, "27c4e60330d3562e3b17e30b5dd0d7ab0a7e17ff7547e88206843c8a88b6d9ee"), looks := false }, kinds := [], alts := [], laidByText := true, laidKinds := [.data, .data, .data], laidTests := true, laidLooks := .later }
def FnExactFoldProgUptoCardSaid : Prop := Claim7.holds Tryz.pinned (.plain (OpenSpec.upto fnExactFoldProgSpec)) fnExactFoldProgUptoCard
end Rows
end Go.Proofs.YtnmkmfancgcaeaaGreatDoor
