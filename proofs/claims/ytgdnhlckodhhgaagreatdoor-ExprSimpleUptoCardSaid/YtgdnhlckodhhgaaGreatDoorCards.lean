/-
  DERIVED. GIVEN WITH THE SEED: THE CARDS: each row of YtgdnhlckodhhgaaGreatDoorRows.lean that lists a variable, with what it lists TIED to the program's text (the seventh form; the later family's looks); each row that meets fmt, with fmt's text TOLD by the authors' own Lean function (tested against real Go, not proved from fmt's source: count such statements apart). THE CARD IS WHAT COUNTS. Prove the row's statement (the work); the ties are given (YtgdnhlckodhhgaaGreatDoorTie.lean); close each card by the builder's one call (the guide's Derived/Test/ToyasCard.lean, 'card_holds'). Laid BY PROGRAM, IN A SANDBOX (cutbox-door.mjs). By AI agents, Wed Nov 11 2026. No macro, syntax, notation, axiom, sorry.
-/
import Derived.Test.YtgdnhlckodhhgaaGreatDoorRows
import GoSem.ClaimSeven
namespace Go.Proofs.YtgdnhlckodhhgaaGreatDoor
namespace Rows

/-- THE TIED CARD OF 'ablautlaw04.ExprHolds'. -/
def exprHoldsCard : Claim7 := { stood := { row := exprHoldsRow, standIns := [], harness := (true, "4d20b0c2aad93465f568405ed11cc988a1645055e791fb69327fc1f8a3f65320"), looks := true }, kinds := [], alts := [], laidByText := true, laidKinds := [.data, .data, .data], laidTests := true, laidLooks := .later }
def ExprHoldsCardSaid : Prop := Claim7.holds Tryz.pinned (.plain (OpenSpec.ofChange exprHoldsSpec)) exprHoldsCard

/-- THE TIED CARD OF 'ablautlaw04.ExprSimple'. -/
def exprSimpleCard : Claim7 := { stood := { row := exprSimpleRow, standIns := [], harness := (true, "4d20b0c2aad93465f568405ed11cc988a1645055e791fb69327fc1f8a3f65320"), looks := true }, kinds := [], alts := [], laidByText := true, laidKinds := [.data, .data, .data], laidTests := true, laidLooks := .later }
def ExprSimpleCardSaid : Prop := Claim7.holds Tryz.pinned (.plain (OpenSpec.ofChange exprSimpleSpec)) exprSimpleCard

/-- THE TIED CARD OF 'ablautlaw04.ExprListed'. -/
def exprListedCard : Claim7 := { stood := { row := exprListedRow, standIns := [], harness := (true, "4d20b0c2aad93465f568405ed11cc988a1645055e791fb69327fc1f8a3f65320"), looks := true }, kinds := [], alts := [], laidByText := true, laidKinds := [.data, .data, .data], laidTests := true, laidLooks := .later }
def ExprListedCardSaid : Prop := Claim7.holds Tryz.pinned (.plain (OpenSpec.ofChange exprListedSpec)) exprListedCard

/-- THE TIED CARD OF 'ablautlaw04.ExprCompiles'. -/
def exprCompilesCard : Claim7 := { stood := { row := exprCompilesRow, standIns := [], harness := (true, "4d20b0c2aad93465f568405ed11cc988a1645055e791fb69327fc1f8a3f65320"), looks := true }, kinds := [], alts := [], laidByText := true, laidKinds := [.data, .data, .data], laidTests := true, laidLooks := .later }
def ExprCompilesCardSaid : Prop := Claim7.holds Tryz.pinned (.plain (OpenSpec.ofChange exprCompilesSpec)) exprCompilesCard

/-- THE SECOND FORM's CARD OF 'ablautlaw04.ExprHolds'. -/
def exprHoldsUptoCard : Claim7 := { stood := { row := exprHoldsUptoRow, standIns := [], harness := (true, "4d20b0c2aad93465f568405ed11cc988a1645055e791fb69327fc1f8a3f65320"), looks := true }, kinds := [], alts := [], laidByText := true, laidKinds := [.data, .data, .data], laidTests := true, laidLooks := .later }
def ExprHoldsUptoCardSaid : Prop := Claim7.holds Tryz.pinned (.plain (OpenSpec.upto exprHoldsSpec)) exprHoldsUptoCard

/-- THE SECOND FORM's CARD OF 'ablautlaw04.ExprSimple'. -/
def exprSimpleUptoCard : Claim7 := { stood := { row := exprSimpleUptoRow, standIns := [], harness := (true, "4d20b0c2aad93465f568405ed11cc988a1645055e791fb69327fc1f8a3f65320"), looks := true }, kinds := [], alts := [], laidByText := true, laidKinds := [.data, .data, .data], laidTests := true, laidLooks := .later }
def ExprSimpleUptoCardSaid : Prop := Claim7.holds Tryz.pinned (.plain (OpenSpec.upto exprSimpleSpec)) exprSimpleUptoCard

/-- THE SECOND FORM's CARD OF 'ablautlaw04.ExprListed'. -/
def exprListedUptoCard : Claim7 := { stood := { row := exprListedUptoRow, standIns := [], harness := (true, "4d20b0c2aad93465f568405ed11cc988a1645055e791fb69327fc1f8a3f65320"), looks := true }, kinds := [], alts := [], laidByText := true, laidKinds := [.data, .data, .data], laidTests := true, laidLooks := .later }
def ExprListedUptoCardSaid : Prop := Claim7.holds Tryz.pinned (.plain (OpenSpec.upto exprListedSpec)) exprListedUptoCard

/-- THE SECOND FORM's CARD OF 'ablautlaw04.ExprCompiles'. -/
def exprCompilesUptoCard : Claim7 := { stood := { row := exprCompilesUptoRow, standIns := [], harness := (true, "4d20b0c2aad93465f568405ed11cc988a1645055e791fb69327fc1f8a3f65320"), looks := true }, kinds := [], alts := [], laidByText := true, laidKinds := [.data, .data, .data], laidTests := true, laidLooks := .later }
def ExprCompilesUptoCardSaid : Prop := Claim7.holds Tryz.pinned (.plain (OpenSpec.upto exprCompilesSpec)) exprCompilesUptoCard
end Rows
end Go.Proofs.YtgdnhlckodhhgaaGreatDoor
