/-
  DERIVED. GIVEN WITH THE SEED: THE CARDS: each row of YtkbfmjnekeipcaaDoorRows.lean that lists a variable, with what it lists TIED to the program's text (the seventh form; the later family's looks); each row that meets fmt, with fmt's text TOLD by the authors' own Lean function (tested against real Go, not proved from fmt's source: count such statements apart). THE CARD IS WHAT COUNTS. Prove the row's statement (the work); the ties are given (YtkbfmjnekeipcaaDoorTie.lean); close each card by the builder's one call (the guide's Derived/Test/ToyasCard.lean, 'card_holds'). Laid BY PROGRAM, IN A SANDBOX (cutbox-door.mjs). By AI agents, Wed Nov 11 2026. No macro, syntax, notation, axiom, sorry.
-/
import Derived.Test.YtkbfmjnekeipcaaDoorRows
import GoSem.ClaimSeven
namespace Go.Proofs.YtkbfmjnekeipcaaDoor
namespace Rows

/-- THE TIED CARD OF 'laws.FnExactReadCents'. -/
def fnExactReadCentsCard : Claim7 := { stood := { row := fnExactReadCentsRow, standIns := [], harness := (true, "047d4529e0cfde98ba126aaf47bb4249786861ef47235909f8d2abf4e2e510ba"), looks := true }, kinds := [], alts := [], laidByText := true, laidKinds := [.data, .data, .data, .sentinel, .sentinel], laidTests := true, laidLooks := .later }
def FnExactReadCentsCardSaid : Prop := Claim7.holds Tryd.pinned (.plain (OpenSpec.ofChange fnExactReadCentsSpec)) fnExactReadCentsCard

/-- THE TIED CARD OF 'laws.FnExactReadHertz'. -/
def fnExactReadHertzCard : Claim7 := { stood := { row := fnExactReadHertzRow, standIns := [], harness := (true, "047d4529e0cfde98ba126aaf47bb4249786861ef47235909f8d2abf4e2e510ba"), looks := true }, kinds := [], alts := [], laidByText := true, laidKinds := [.data, .data, .data, .sentinel, .sentinel], laidTests := true, laidLooks := .later }
def FnExactReadHertzCardSaid : Prop := Claim7.holds Tryd.pinned (.plain (OpenSpec.ofChange fnExactReadHertzSpec)) fnExactReadHertzCard

/-- THE TIED CARD OF 'laws.FnExactReadList'. -/
def fnExactReadListCard : Claim7 := { stood := { row := fnExactReadListRow, standIns := [], harness := (true, "047d4529e0cfde98ba126aaf47bb4249786861ef47235909f8d2abf4e2e510ba"), looks := true }, kinds := [], alts := [], laidByText := true, laidKinds := [.data, .data, .data, .data, .sentinel, .sentinel, .pinned], laidTests := true, laidLooks := .later }
def FnExactReadListCardSaid : Prop := Claim7.holds Tryd.pinned (.plain (OpenSpec.ofChange fnExactReadListSpec)) fnExactReadListCard

/-- THE TIED CARD OF 'laws.FnBasics'. -/
def fnBasicsCard : Claim7 := { stood := { row := fnBasicsRow, standIns := [], harness := (true, "047d4529e0cfde98ba126aaf47bb4249786861ef47235909f8d2abf4e2e510ba"), looks := true }, kinds := [], alts := [], laidByText := true, laidKinds := [.data, .data, .data, .data, .sentinel, .sentinel, .pinned], laidTests := true, laidLooks := .later }
def FnBasicsCardSaid : Prop := Claim7.holds Tryd.pinned (.plain (OpenSpec.ofChange fnBasicsSpec)) fnBasicsCard

/-- THE TIED CARD OF 'laws.FnExactReadTemperament'. -/
def fnExactReadTemperamentCard : Claim7 := { stood := { row := fnExactReadTemperamentRow, standIns := [], harness := (true, "047d4529e0cfde98ba126aaf47bb4249786861ef47235909f8d2abf4e2e510ba"), looks := true }, kinds := [], alts := [], laidByText := true, laidKinds := [.data, .data, .data, .data, .sentinel, .sentinel, .pinned], laidTests := true, laidLooks := .later }
def FnExactReadTemperamentCardSaid : Prop := Claim7.holds Tryd.pinned (.plain (OpenSpec.ofChange fnExactReadTemperamentSpec)) fnExactReadTemperamentCard

/-- THE TIED CARD OF 'laws.FnExactReadSound'. -/
def fnExactReadSoundCard : Claim7 := { stood := { row := fnExactReadSoundRow, standIns := [], harness := (true, "047d4529e0cfde98ba126aaf47bb4249786861ef47235909f8d2abf4e2e510ba"), looks := true }, kinds := [], alts := [], laidByText := true, laidKinds := [.data, .data, .data, .data, .sentinel, .sentinel, .pinned], laidTests := true, laidLooks := .later }
def FnExactReadSoundCardSaid : Prop := Claim7.holds Tryd.pinned (.plain (OpenSpec.ofChange fnExactReadSoundSpec)) fnExactReadSoundCard

/-- THE TIED CARD OF 'laws.FnCents'. -/
def fnCentsCard : Claim7 := { stood := { row := fnCentsRow, standIns := [], harness := (true, "047d4529e0cfde98ba126aaf47bb4249786861ef47235909f8d2abf4e2e510ba"), looks := true }, kinds := [], alts := [], laidByText := true, laidKinds := [.data, .data, .data, .sentinel, .sentinel], laidTests := true, laidLooks := .later }
def FnCentsCardSaid : Prop := Claim7.holds Tryd.pinned (.plain (OpenSpec.ofChange fnCentsSpec)) fnCentsCard

/-- THE SECOND FORM's CARD OF 'laws.FnExactReadCents'. -/
def fnExactReadCentsUptoCard : Claim7 := { stood := { row := fnExactReadCentsUptoRow, standIns := [], harness := (true, "047d4529e0cfde98ba126aaf47bb4249786861ef47235909f8d2abf4e2e510ba"), looks := true }, kinds := [], alts := [], laidByText := true, laidKinds := [.data, .data, .data, .sentinel, .sentinel], laidTests := true, laidLooks := .later }
def FnExactReadCentsUptoCardSaid : Prop := Claim7.holds Tryd.pinned (.plain (OpenSpec.upto fnExactReadCentsSpec)) fnExactReadCentsUptoCard

/-- THE SECOND FORM's CARD OF 'laws.FnExactReadHertz'. -/
def fnExactReadHertzUptoCard : Claim7 := { stood := { row := fnExactReadHertzUptoRow, standIns := [], harness := (true, "047d4529e0cfde98ba126aaf47bb4249786861ef47235909f8d2abf4e2e510ba"), looks := true }, kinds := [], alts := [], laidByText := true, laidKinds := [.data, .data, .data, .sentinel, .sentinel], laidTests := true, laidLooks := .later }
def FnExactReadHertzUptoCardSaid : Prop := Claim7.holds Tryd.pinned (.plain (OpenSpec.upto fnExactReadHertzSpec)) fnExactReadHertzUptoCard

/-- THE SECOND FORM's CARD OF 'laws.FnExactReadList'. -/
def fnExactReadListUptoCard : Claim7 := { stood := { row := fnExactReadListUptoRow, standIns := [], harness := (true, "047d4529e0cfde98ba126aaf47bb4249786861ef47235909f8d2abf4e2e510ba"), looks := true }, kinds := [], alts := [], laidByText := true, laidKinds := [.data, .data, .data, .data, .sentinel, .sentinel, .pinned], laidTests := true, laidLooks := .later }
def FnExactReadListUptoCardSaid : Prop := Claim7.holds Tryd.pinned (.plain (OpenSpec.upto fnExactReadListSpec)) fnExactReadListUptoCard

/-- THE SECOND FORM's CARD OF 'laws.FnBasics'. -/
def fnBasicsUptoCard : Claim7 := { stood := { row := fnBasicsUptoRow, standIns := [], harness := (true, "047d4529e0cfde98ba126aaf47bb4249786861ef47235909f8d2abf4e2e510ba"), looks := true }, kinds := [], alts := [], laidByText := true, laidKinds := [.data, .data, .data, .data, .sentinel, .sentinel, .pinned], laidTests := true, laidLooks := .later }
def FnBasicsUptoCardSaid : Prop := Claim7.holds Tryd.pinned (.plain (OpenSpec.upto fnBasicsSpec)) fnBasicsUptoCard

/-- THE SECOND FORM's CARD OF 'laws.FnExactReadTemperament'. -/
def fnExactReadTemperamentUptoCard : Claim7 := { stood := { row := fnExactReadTemperamentUptoRow, standIns := [], harness := (true, "047d4529e0cfde98ba126aaf47bb4249786861ef47235909f8d2abf4e2e510ba"), looks := true }, kinds := [], alts := [], laidByText := true, laidKinds := [.data, .data, .data, .data, .sentinel, .sentinel, .pinned], laidTests := true, laidLooks := .later }
def FnExactReadTemperamentUptoCardSaid : Prop := Claim7.holds Tryd.pinned (.plain (OpenSpec.upto fnExactReadTemperamentSpec)) fnExactReadTemperamentUptoCard

/-- THE SECOND FORM's CARD OF 'laws.FnExactReadSound'. -/
def fnExactReadSoundUptoCard : Claim7 := { stood := { row := fnExactReadSoundUptoRow, standIns := [], harness := (true, "047d4529e0cfde98ba126aaf47bb4249786861ef47235909f8d2abf4e2e510ba"), looks := true }, kinds := [], alts := [], laidByText := true, laidKinds := [.data, .data, .data, .data, .sentinel, .sentinel, .pinned], laidTests := true, laidLooks := .later }
def FnExactReadSoundUptoCardSaid : Prop := Claim7.holds Tryd.pinned (.plain (OpenSpec.upto fnExactReadSoundSpec)) fnExactReadSoundUptoCard

/-- THE SECOND FORM's CARD OF 'laws.FnCents'. -/
def fnCentsUptoCard : Claim7 := { stood := { row := fnCentsUptoRow, standIns := [], harness := (true, "047d4529e0cfde98ba126aaf47bb4249786861ef47235909f8d2abf4e2e510ba"), looks := true }, kinds := [], alts := [], laidByText := true, laidKinds := [.data, .data, .data, .sentinel, .sentinel], laidTests := true, laidLooks := .later }
def FnCentsUptoCardSaid : Prop := Claim7.holds Tryd.pinned (.plain (OpenSpec.upto fnCentsSpec)) fnCentsUptoCard
end Rows
end Go.Proofs.YtkbfmjnekeipcaaDoor
