/-
  DERIVED. GIVEN WITH THE SEED: THE CARDS: each row of YtdmfmpfdkfijeaaDoorRows.lean that lists a variable, with what it lists TIED to the program's text (the seventh form; the later family's looks); each row that meets fmt, with fmt's text TOLD by the authors' own Lean function (tested against real Go, not proved from fmt's source: count such statements apart). THE CARD IS WHAT COUNTS. Prove the row's statement (the work); the ties are given (YtdmfmpfdkfijeaaDoorTie.lean); close each card by the builder's one call (the guide's Derived/Test/ToyasCard.lean, 'card_holds'). Laid BY PROGRAM, IN A SANDBOX (cutbox-door.mjs). By AI agents, Wed Nov 11 2026. No macro, syntax, notation, axiom, sorry.
-/
import Derived.Test.YtdmfmpfdkfijeaaDoorRows
import GoSem.ClaimSeven
namespace Go.Proofs.YtdmfmpfdkfijeaaDoor
namespace Rows

/-- THE TIED CARD OF 'laws.FnExactDecimal'. -/
def fnExactDecimalCard : Claim7 := { stood := { row := fnExactDecimalRow, standIns := [], harness := (true, "866e0879a20b766992ec21fc17b15ee2b48161c112fe33352e84f1a92dced44e"), looks := true }, kinds := [], alts := [], laidByText := true, laidKinds := [.data, .data, .data], laidTests := true, laidLooks := .later }
def FnExactDecimalCardSaid : Prop := Claim7.holds Tryd.pinned (.plain (OpenSpec.ofChange fnExactDecimalSpec)) fnExactDecimalCard

/-- THE TIED CARD OF 'laws.FnExactNoteName'. -/
def fnExactNoteNameCard : Claim7 := { stood := { row := fnExactNoteNameRow, standIns := [], harness := (true, "866e0879a20b766992ec21fc17b15ee2b48161c112fe33352e84f1a92dced44e"), looks := true }, kinds := [], alts := [], laidByText := true, laidKinds := [.data, .data, .data], laidTests := true, laidLooks := .later }
def FnExactNoteNameCardSaid : Prop := Claim7.holds Tryd.pinned (.plain (OpenSpec.ofChange fnExactNoteNameSpec)) fnExactNoteNameCard

/-- THE TIED CARD OF 'laws.FnExactNoteNamed'. -/
def fnExactNoteNamedCard : Claim7 := { stood := { row := fnExactNoteNamedRow, standIns := [], harness := (true, "866e0879a20b766992ec21fc17b15ee2b48161c112fe33352e84f1a92dced44e"), looks := true }, kinds := [], alts := [], laidByText := true, laidKinds := [.data, .data, .data], laidTests := true, laidLooks := .later }
def FnExactNoteNamedCardSaid : Prop := Claim7.holds Tryd.pinned (.plain (OpenSpec.ofChange fnExactNoteNamedSpec)) fnExactNoteNamedCard

/-- THE TIED CARD OF 'laws.FnExactCentsText'. -/
def fnExactCentsTextCard : Claim7 := { stood := { row := fnExactCentsTextRow, standIns := [], harness := (true, "866e0879a20b766992ec21fc17b15ee2b48161c112fe33352e84f1a92dced44e"), looks := true }, kinds := [], alts := [], laidByText := true, laidKinds := [.data, .data, .data], laidTests := true, laidLooks := .later }
def FnExactCentsTextCardSaid : Prop := Claim7.holds Tryd.pinned (.plain (OpenSpec.ofChange fnExactCentsTextSpec)) fnExactCentsTextCard

/-- THE TIED CARD OF 'laws.FnExactSplitWords'. -/
def fnExactSplitWordsCard : Claim7 := { stood := { row := fnExactSplitWordsRow, standIns := [], harness := (true, "866e0879a20b766992ec21fc17b15ee2b48161c112fe33352e84f1a92dced44e"), looks := true }, kinds := [], alts := [], laidByText := true, laidKinds := [.data, .pinned], laidTests := true, laidLooks := .later }
def FnExactSplitWordsCardSaid : Prop := Claim7.holds Tryd.pinned (.plain (OpenSpec.ofChange fnExactSplitWordsSpec)) fnExactSplitWordsCard

/-- THE TIED CARD OF 'laws.FnNotes'. -/
def fnNotesCard : Claim7 := { stood := { row := fnNotesRow, standIns := [], harness := (true, "866e0879a20b766992ec21fc17b15ee2b48161c112fe33352e84f1a92dced44e"), looks := true }, kinds := [], alts := [], laidByText := true, laidKinds := [.data, .data, .data], laidTests := true, laidLooks := .later }
def FnNotesCardSaid : Prop := Claim7.holds Tryd.pinned (.plain (OpenSpec.ofChange fnNotesSpec)) fnNotesCard

/-- THE TIED CARD OF 'laws.FnExactListText'. -/
def fnExactListTextCard : Claim7 := { stood := { row := fnExactListTextRow, standIns := [], harness := (true, "866e0879a20b766992ec21fc17b15ee2b48161c112fe33352e84f1a92dced44e"), looks := true }, kinds := [], alts := [], laidByText := true, laidKinds := [.data, .data, .data], laidTests := true, laidLooks := .later }
def FnExactListTextCardSaid : Prop := Claim7.holds Tryd.pinned (.plain (OpenSpec.ofChange fnExactListTextSpec)) fnExactListTextCard

/-- THE TIED CARD OF 'laws.FnExactHertzText'. -/
def fnExactHertzTextCard : Claim7 := { stood := { row := fnExactHertzTextRow, standIns := [], harness := (true, "866e0879a20b766992ec21fc17b15ee2b48161c112fe33352e84f1a92dced44e"), looks := true }, kinds := [], alts := [], laidByText := true, laidKinds := [.data, .data, .data], laidTests := true, laidLooks := .later }
def FnExactHertzTextCardSaid : Prop := Claim7.holds Tryd.pinned (.plain (OpenSpec.ofChange fnExactHertzTextSpec)) fnExactHertzTextCard

/-- THE TIED CARD OF 'laws.FnExactTemperamentText'. -/
def fnExactTemperamentTextCard : Claim7 := { stood := { row := fnExactTemperamentTextRow, standIns := [], harness := (true, "866e0879a20b766992ec21fc17b15ee2b48161c112fe33352e84f1a92dced44e"), looks := true }, kinds := [], alts := [], laidByText := true, laidKinds := [.data, .data, .data], laidTests := true, laidLooks := .later }
def FnExactTemperamentTextCardSaid : Prop := Claim7.holds Tryd.pinned (.plain (OpenSpec.ofChange fnExactTemperamentTextSpec)) fnExactTemperamentTextCard

/-- THE TIED CARD OF 'laws.FnExactSoundText'. -/
def fnExactSoundTextCard : Claim7 := { stood := { row := fnExactSoundTextRow, standIns := [], harness := (true, "866e0879a20b766992ec21fc17b15ee2b48161c112fe33352e84f1a92dced44e"), looks := true }, kinds := [], alts := [], laidByText := true, laidKinds := [.data, .data, .data], laidTests := true, laidLooks := .later }
def FnExactSoundTextCardSaid : Prop := Claim7.holds Tryd.pinned (.plain (OpenSpec.ofChange fnExactSoundTextSpec)) fnExactSoundTextCard

/-- THE TIED CARD OF 'laws.FnExactReadDecimal'. -/
def fnExactReadDecimalCard : Claim7 := { stood := { row := fnExactReadDecimalRow, standIns := [], harness := (true, "866e0879a20b766992ec21fc17b15ee2b48161c112fe33352e84f1a92dced44e"), looks := true }, kinds := [], alts := [], laidByText := true, laidKinds := [.data, .data, .data, .sentinel, .sentinel], laidTests := true, laidLooks := .later }
def FnExactReadDecimalCardSaid : Prop := Claim7.holds Tryd.pinned (.plain (OpenSpec.ofChange fnExactReadDecimalSpec)) fnExactReadDecimalCard

/-- THE SECOND FORM's CARD OF 'laws.FnExactDecimal'. -/
def fnExactDecimalUptoCard : Claim7 := { stood := { row := fnExactDecimalUptoRow, standIns := [], harness := (true, "866e0879a20b766992ec21fc17b15ee2b48161c112fe33352e84f1a92dced44e"), looks := true }, kinds := [], alts := [], laidByText := true, laidKinds := [.data, .data, .data], laidTests := true, laidLooks := .later }
def FnExactDecimalUptoCardSaid : Prop := Claim7.holds Tryd.pinned (.plain (OpenSpec.upto fnExactDecimalSpec)) fnExactDecimalUptoCard

/-- THE SECOND FORM's CARD OF 'laws.FnExactNoteName'. -/
def fnExactNoteNameUptoCard : Claim7 := { stood := { row := fnExactNoteNameUptoRow, standIns := [], harness := (true, "866e0879a20b766992ec21fc17b15ee2b48161c112fe33352e84f1a92dced44e"), looks := true }, kinds := [], alts := [], laidByText := true, laidKinds := [.data, .data, .data], laidTests := true, laidLooks := .later }
def FnExactNoteNameUptoCardSaid : Prop := Claim7.holds Tryd.pinned (.plain (OpenSpec.upto fnExactNoteNameSpec)) fnExactNoteNameUptoCard

/-- THE SECOND FORM's CARD OF 'laws.FnExactNoteNamed'. -/
def fnExactNoteNamedUptoCard : Claim7 := { stood := { row := fnExactNoteNamedUptoRow, standIns := [], harness := (true, "866e0879a20b766992ec21fc17b15ee2b48161c112fe33352e84f1a92dced44e"), looks := true }, kinds := [], alts := [], laidByText := true, laidKinds := [.data, .data, .data], laidTests := true, laidLooks := .later }
def FnExactNoteNamedUptoCardSaid : Prop := Claim7.holds Tryd.pinned (.plain (OpenSpec.upto fnExactNoteNamedSpec)) fnExactNoteNamedUptoCard

/-- THE SECOND FORM's CARD OF 'laws.FnExactCentsText'. -/
def fnExactCentsTextUptoCard : Claim7 := { stood := { row := fnExactCentsTextUptoRow, standIns := [], harness := (true, "866e0879a20b766992ec21fc17b15ee2b48161c112fe33352e84f1a92dced44e"), looks := true }, kinds := [], alts := [], laidByText := true, laidKinds := [.data, .data, .data], laidTests := true, laidLooks := .later }
def FnExactCentsTextUptoCardSaid : Prop := Claim7.holds Tryd.pinned (.plain (OpenSpec.upto fnExactCentsTextSpec)) fnExactCentsTextUptoCard

/-- THE SECOND FORM's CARD OF 'laws.FnExactSplitWords'. -/
def fnExactSplitWordsUptoCard : Claim7 := { stood := { row := fnExactSplitWordsUptoRow, standIns := [], harness := (true, "866e0879a20b766992ec21fc17b15ee2b48161c112fe33352e84f1a92dced44e"), looks := true }, kinds := [], alts := [], laidByText := true, laidKinds := [.data, .pinned], laidTests := true, laidLooks := .later }
def FnExactSplitWordsUptoCardSaid : Prop := Claim7.holds Tryd.pinned (.plain (OpenSpec.upto fnExactSplitWordsSpec)) fnExactSplitWordsUptoCard

/-- THE SECOND FORM's CARD OF 'laws.FnNotes'. -/
def fnNotesUptoCard : Claim7 := { stood := { row := fnNotesUptoRow, standIns := [], harness := (true, "866e0879a20b766992ec21fc17b15ee2b48161c112fe33352e84f1a92dced44e"), looks := true }, kinds := [], alts := [], laidByText := true, laidKinds := [.data, .data, .data], laidTests := true, laidLooks := .later }
def FnNotesUptoCardSaid : Prop := Claim7.holds Tryd.pinned (.plain (OpenSpec.upto fnNotesSpec)) fnNotesUptoCard

/-- THE SECOND FORM's CARD OF 'laws.FnExactListText'. -/
def fnExactListTextUptoCard : Claim7 := { stood := { row := fnExactListTextUptoRow, standIns := [], harness := (true, "866e0879a20b766992ec21fc17b15ee2b48161c112fe33352e84f1a92dced44e"), looks := true }, kinds := [], alts := [], laidByText := true, laidKinds := [.data, .data, .data], laidTests := true, laidLooks := .later }
def FnExactListTextUptoCardSaid : Prop := Claim7.holds Tryd.pinned (.plain (OpenSpec.upto fnExactListTextSpec)) fnExactListTextUptoCard

/-- THE SECOND FORM's CARD OF 'laws.FnExactHertzText'. -/
def fnExactHertzTextUptoCard : Claim7 := { stood := { row := fnExactHertzTextUptoRow, standIns := [], harness := (true, "866e0879a20b766992ec21fc17b15ee2b48161c112fe33352e84f1a92dced44e"), looks := true }, kinds := [], alts := [], laidByText := true, laidKinds := [.data, .data, .data], laidTests := true, laidLooks := .later }
def FnExactHertzTextUptoCardSaid : Prop := Claim7.holds Tryd.pinned (.plain (OpenSpec.upto fnExactHertzTextSpec)) fnExactHertzTextUptoCard

/-- THE SECOND FORM's CARD OF 'laws.FnExactTemperamentText'. -/
def fnExactTemperamentTextUptoCard : Claim7 := { stood := { row := fnExactTemperamentTextUptoRow, standIns := [], harness := (true, "866e0879a20b766992ec21fc17b15ee2b48161c112fe33352e84f1a92dced44e"), looks := true }, kinds := [], alts := [], laidByText := true, laidKinds := [.data, .data, .data], laidTests := true, laidLooks := .later }
def FnExactTemperamentTextUptoCardSaid : Prop := Claim7.holds Tryd.pinned (.plain (OpenSpec.upto fnExactTemperamentTextSpec)) fnExactTemperamentTextUptoCard

/-- THE SECOND FORM's CARD OF 'laws.FnExactSoundText'. -/
def fnExactSoundTextUptoCard : Claim7 := { stood := { row := fnExactSoundTextUptoRow, standIns := [], harness := (true, "866e0879a20b766992ec21fc17b15ee2b48161c112fe33352e84f1a92dced44e"), looks := true }, kinds := [], alts := [], laidByText := true, laidKinds := [.data, .data, .data], laidTests := true, laidLooks := .later }
def FnExactSoundTextUptoCardSaid : Prop := Claim7.holds Tryd.pinned (.plain (OpenSpec.upto fnExactSoundTextSpec)) fnExactSoundTextUptoCard

/-- THE SECOND FORM's CARD OF 'laws.FnExactReadDecimal'. -/
def fnExactReadDecimalUptoCard : Claim7 := { stood := { row := fnExactReadDecimalUptoRow, standIns := [], harness := (true, "866e0879a20b766992ec21fc17b15ee2b48161c112fe33352e84f1a92dced44e"), looks := true }, kinds := [], alts := [], laidByText := true, laidKinds := [.data, .data, .data, .sentinel, .sentinel], laidTests := true, laidLooks := .later }
def FnExactReadDecimalUptoCardSaid : Prop := Claim7.holds Tryd.pinned (.plain (OpenSpec.upto fnExactReadDecimalSpec)) fnExactReadDecimalUptoCard
end Rows
end Go.Proofs.YtdmfmpfdkfijeaaDoor
