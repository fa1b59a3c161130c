/-
  DERIVED. GIVEN WITH THE SEED: THE CARDS: each row of YtkbfmjnekeipcaaGreatDoorRows.lean that lists a variable, with what it lists TIED to the program's text (the seventh form; the later family's looks); each row that meets fmt, with fmt's text TOLD by the authors' own Lean function (tested against real Go, not proved from fmt's source: count such statements apart). THE CARD IS WHAT COUNTS. Prove the row's statement (the work); the ties are given (YtkbfmjnekeipcaaGreatDoorTie.lean); close each card by the builder's one call (the guide's Derived/Test/ToyasCard.lean, 'card_holds'). Laid BY PROGRAM, IN A SANDBOX (cutbox-door.mjs). By AI agents, Wed Nov 11 2026. No macro, syntax, notation, axiom, sorry.
-/
import Derived.Test.YtkbfmjnekeipcaaGreatDoorRows
import GoSem.ClaimSeven
namespace Go.Proofs.YtkbfmjnekeipcaaGreatDoor
namespace Rows

/-- THE TIED CARD OF 'laws.FnTemperaments'. -/
def fnTemperamentsCard : Claim7 := { stood := { row := fnTemperamentsRow, standIns := [], harness := (true, "d91b9bf62b19c194c945568dde8cf50ffb66af3166f179ee9c5702b32b1a7634"), looks := true }, kinds := [], alts := [], laidByText := true, laidKinds := [.data, .data, .data, .data, .sentinel, .sentinel, .pinned], laidTests := true, laidLooks := .later }
def FnTemperamentsCardSaid : Prop := Claim7.holds Tryz.pinned (.plain (OpenSpec.ofChange fnTemperamentsSpec)) fnTemperamentsCard

/-- THE TIED CARD OF 'laws.FnPartials'. -/
def fnPartialsCard : Claim7 := { stood := { row := fnPartialsRow, standIns := [], harness := (true, "d91b9bf62b19c194c945568dde8cf50ffb66af3166f179ee9c5702b32b1a7634"), looks := true }, kinds := [], alts := [], laidByText := true, laidKinds := [.data, .data, .data, .data, .sentinel, .sentinel, .pinned], laidTests := true, laidLooks := .later }
def FnPartialsCardSaid : Prop := Claim7.holds Tryz.pinned (.plain (OpenSpec.ofChange fnPartialsSpec)) fnPartialsCard

/-- THE SECOND FORM's CARD OF 'laws.FnTemperaments'. -/
def fnTemperamentsUptoCard : Claim7 := { stood := { row := fnTemperamentsUptoRow, standIns := [], harness := (true, "d91b9bf62b19c194c945568dde8cf50ffb66af3166f179ee9c5702b32b1a7634"), looks := true }, kinds := [], alts := [], laidByText := true, laidKinds := [.data, .data, .data, .data, .sentinel, .sentinel, .pinned], laidTests := true, laidLooks := .later }
def FnTemperamentsUptoCardSaid : Prop := Claim7.holds Tryz.pinned (.plain (OpenSpec.upto fnTemperamentsSpec)) fnTemperamentsUptoCard

/-- THE SECOND FORM's CARD OF 'laws.FnPartials'. -/
def fnPartialsUptoCard : Claim7 := { stood := { row := fnPartialsUptoRow, standIns := [], harness := (true, "d91b9bf62b19c194c945568dde8cf50ffb66af3166f179ee9c5702b32b1a7634"), looks := true }, kinds := [], alts := [], laidByText := true, laidKinds := [.data, .data, .data, .data, .sentinel, .sentinel, .pinned], laidTests := true, laidLooks := .later }
def FnPartialsUptoCardSaid : Prop := Claim7.holds Tryz.pinned (.plain (OpenSpec.upto fnPartialsSpec)) fnPartialsUptoCard
end Rows
end Go.Proofs.YtkbfmjnekeipcaaGreatDoor
