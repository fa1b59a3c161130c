/-
  No cell of these rows narrows 'for every input' (looked for: loops, veiled, ifaces, maps, wideKeys, modest, calm, conditions, laid).
  DERIVED. THE GIVEN ROWS OF THIS SEAT. 12 by the template 'for every input the law returns true; each argument reads behind the call as it read before'; 0 by the template 'total and deterministic' (their statements: YtajlgclodjgiiaaTotals.lean).
  GIVEN WITH THE SEED: the statements are not yours to turn. If you find one false, say at which input.
  Laid BY PROGRAM, IN A SANDBOX (cutbox-rows.mjs): the forced cells as the released guide's own fill.sh prints them over the translation 0bcc81825815562d… (all of the seat's roots in one cut). By AI agents, Wed Nov 11 2026. No macro, syntax, notation, axiom, sorry.
-/
import Derived.Test.YtajlgclodjgiiaaChecked
import GoSem.Claim
import GoSem.ClaimJoined
import GoSem.ClaimMapViews
import Derived.JoinedTies
import Derived.KernelRfl
namespace Go.Proofs.Ytajlgclodjgiiaa
/- THE CELL 'sum', in the pinned program and in every row, IS THE sha256 OF THE DUMP (.gsa) THAT YtajlgclodjgiiaaProg.lean LOADS. Nothing in Lean hashes anything: it is a label: what it is worth is what the hold of that sum in a sandbox is worth. -/
noncomputable def Try.pinned : Pinned := { name := "ytajlgclodjgiiaa", sum := "0bcc81825815562d7b01ff5c4d7dbe004dc6aa72d9a6e15a61de7cf74dfcfc0f", checked := Try.checked }
namespace Rows
def none {H : Type} : Left H := { results := [], args := [] }

/-- 'laws.FnExactValidSound': WHATEVER THE INPUT: true; the input reads as it did. -/
def fnExactValidSoundSpec : ChangeSpec := { name := "fnExactValidSound", fn := fun _ => fun
  | [d] => { results := [.lit (.bool true)], args := [d] }
  | _ => none }
def fnExactValidSoundRow : OpenClaim := { program := "ytajlgclodjgiiaa", sum := "0bcc81825815562d7b01ff5c4d7dbe004dc6aa72d9a6e15a61de7cf74dfcfc0f", func := "loop.example/g00952/laws.FnExactValidSound", spec := "fnExactValidSound", apart := false }
def FnExactValidSoundSaid : Prop := fnExactValidSoundRow.holds Try.pinned (OpenSpec.ofChange fnExactValidSoundSpec)

/-- ITS FALSE NEIGHBOUR: 'it returns false'. Refute it at one input. -/
def fnExactValidSoundWrong : ChangeSpec := { name := "fnExactValidSound", fn := fun _ => fun
  | [d] => { results := [.lit (.bool false)], args := [d] }
  | _ => none }
def FnExactValidSoundWrongFalsely : Prop := fnExactValidSoundRow.holds Try.pinned (OpenSpec.ofChange fnExactValidSoundWrong)

/-- 'laws.FnExactIdealOffsets': WHATEVER THE INPUT: true; the input reads as it did. -/
def fnExactIdealOffsetsSpec : ChangeSpec := { name := "fnExactIdealOffsets", fn := fun _ => fun
  | [d] => { results := [.lit (.bool true)], args := [d] }
  | _ => none }
def fnExactIdealOffsetsRow : OpenClaim := { program := "ytajlgclodjgiiaa", sum := "0bcc81825815562d7b01ff5c4d7dbe004dc6aa72d9a6e15a61de7cf74dfcfc0f", func := "loop.example/g00952/laws.FnExactIdealOffsets", spec := "fnExactIdealOffsets", apart := false }
def FnExactIdealOffsetsSaid : Prop := fnExactIdealOffsetsRow.holds Try.pinned (OpenSpec.ofChange fnExactIdealOffsetsSpec)

/-- ITS FALSE NEIGHBOUR: 'it returns false'. Refute it at one input. -/
def fnExactIdealOffsetsWrong : ChangeSpec := { name := "fnExactIdealOffsets", fn := fun _ => fun
  | [d] => { results := [.lit (.bool false)], args := [d] }
  | _ => none }
def FnExactIdealOffsetsWrongFalsely : Prop := fnExactIdealOffsetsRow.holds Try.pinned (OpenSpec.ofChange fnExactIdealOffsetsWrong)

/-- 'laws.FnExactPartialOf': WHATEVER THE INPUT: true; the input reads as it did. -/
def fnExactPartialOfSpec : ChangeSpec := { name := "fnExactPartialOf", fn := fun _ => fun
  | [d1, d2] => { results := [.lit (.bool true)], args := [d1, d2] }
  | _ => none }
def fnExactPartialOfRow : OpenClaim := { program := "ytajlgclodjgiiaa", sum := "0bcc81825815562d7b01ff5c4d7dbe004dc6aa72d9a6e15a61de7cf74dfcfc0f", func := "loop.example/g00952/laws.FnExactPartialOf", spec := "fnExactPartialOf", apart := false }
def FnExactPartialOfSaid : Prop := fnExactPartialOfRow.holds Try.pinned (OpenSpec.ofChange fnExactPartialOfSpec)

/-- ITS FALSE NEIGHBOUR: 'it returns false'. Refute it at one input. -/
def fnExactPartialOfWrong : ChangeSpec := { name := "fnExactPartialOf", fn := fun _ => fun
  | [d1, d2] => { results := [.lit (.bool false)], args := [d1, d2] }
  | _ => none }
def FnExactPartialOfWrongFalsely : Prop := fnExactPartialOfRow.holds Try.pinned (OpenSpec.ofChange fnExactPartialOfWrong)

/-- 'laws.FnExactWorstDeviation': WHATEVER THE INPUT: true; the input reads as it did. -/
def fnExactWorstDeviationSpec : ChangeSpec := { name := "fnExactWorstDeviation", fn := fun _ => fun
  | [d] => { results := [.lit (.bool true)], args := [d] }
  | _ => none }
def fnExactWorstDeviationRow : OpenClaim := { program := "ytajlgclodjgiiaa", sum := "0bcc81825815562d7b01ff5c4d7dbe004dc6aa72d9a6e15a61de7cf74dfcfc0f", func := "loop.example/g00952/laws.FnExactWorstDeviation", spec := "fnExactWorstDeviation", apart := false }
def FnExactWorstDeviationSaid : Prop := fnExactWorstDeviationRow.holds Try.pinned (OpenSpec.ofChange fnExactWorstDeviationSpec)

/-- ITS FALSE NEIGHBOUR: 'it returns false'. Refute it at one input. -/
def fnExactWorstDeviationWrong : ChangeSpec := { name := "fnExactWorstDeviation", fn := fun _ => fun
  | [d] => { results := [.lit (.bool false)], args := [d] }
  | _ => none }
def FnExactWorstDeviationWrongFalsely : Prop := fnExactWorstDeviationRow.holds Try.pinned (OpenSpec.ofChange fnExactWorstDeviationWrong)

/-- 'laws.FnExactStrikeOf': WHATEVER THE INPUT: true; the input reads as it did. -/
def fnExactStrikeOfSpec : ChangeSpec := { name := "fnExactStrikeOf", fn := fun _ => fun
  | [d] => { results := [.lit (.bool true)], args := [d] }
  | _ => none }
def fnExactStrikeOfRow : OpenClaim := { program := "ytajlgclodjgiiaa", sum := "0bcc81825815562d7b01ff5c4d7dbe004dc6aa72d9a6e15a61de7cf74dfcfc0f", func := "loop.example/g00952/laws.FnExactStrikeOf", spec := "fnExactStrikeOf", apart := false }
def FnExactStrikeOfSaid : Prop := fnExactStrikeOfRow.holds Try.pinned (OpenSpec.ofChange fnExactStrikeOfSpec)

/-- ITS FALSE NEIGHBOUR: 'it returns false'. Refute it at one input. -/
def fnExactStrikeOfWrong : ChangeSpec := { name := "fnExactStrikeOf", fn := fun _ => fun
  | [d] => { results := [.lit (.bool false)], args := [d] }
  | _ => none }
def FnExactStrikeOfWrongFalsely : Prop := fnExactStrikeOfRow.holds Try.pinned (OpenSpec.ofChange fnExactStrikeOfWrong)

/-- 'laws.FnExactWithPartial': WHATEVER THE INPUT: true; the input reads as it did. -/
def fnExactWithPartialSpec : ChangeSpec := { name := "fnExactWithPartial", fn := fun _ => fun
  | [d1, d2, d3] => { results := [.lit (.bool true)], args := [d1, d2, d3] }
  | _ => none }
def fnExactWithPartialRow : OpenClaim := { program := "ytajlgclodjgiiaa", sum := "0bcc81825815562d7b01ff5c4d7dbe004dc6aa72d9a6e15a61de7cf74dfcfc0f", func := "loop.example/g00952/laws.FnExactWithPartial", spec := "fnExactWithPartial", apart := false }
def FnExactWithPartialSaid : Prop := fnExactWithPartialRow.holds Try.pinned (OpenSpec.ofChange fnExactWithPartialSpec)

/-- ITS FALSE NEIGHBOUR: 'it returns false'. Refute it at one input. -/
def fnExactWithPartialWrong : ChangeSpec := { name := "fnExactWithPartial", fn := fun _ => fun
  | [d1, d2, d3] => { results := [.lit (.bool false)], args := [d1, d2, d3] }
  | _ => none }
def FnExactWithPartialWrongFalsely : Prop := fnExactWithPartialRow.holds Try.pinned (OpenSpec.ofChange fnExactWithPartialWrong)

/-- 'laws.FnExactDeviationsOf': WHATEVER THE INPUT: true; the input reads as it did. -/
def fnExactDeviationsOfSpec : ChangeSpec := { name := "fnExactDeviationsOf", fn := fun _ => fun
  | [d1, d2, d3] => { results := [.lit (.bool true)], args := [d1, d2, d3] }
  | _ => none }
def fnExactDeviationsOfRow : OpenClaim := { program := "ytajlgclodjgiiaa", sum := "0bcc81825815562d7b01ff5c4d7dbe004dc6aa72d9a6e15a61de7cf74dfcfc0f", func := "loop.example/g00952/laws.FnExactDeviationsOf", spec := "fnExactDeviationsOf", apart := false }
def FnExactDeviationsOfSaid : Prop := fnExactDeviationsOfRow.holds Try.pinned (OpenSpec.ofChange fnExactDeviationsOfSpec)

/-- ITS FALSE NEIGHBOUR: 'it returns false'. Refute it at one input. -/
def fnExactDeviationsOfWrong : ChangeSpec := { name := "fnExactDeviationsOf", fn := fun _ => fun
  | [d1, d2, d3] => { results := [.lit (.bool false)], args := [d1, d2, d3] }
  | _ => none }
def FnExactDeviationsOfWrongFalsely : Prop := fnExactDeviationsOfRow.holds Try.pinned (OpenSpec.ofChange fnExactDeviationsOfWrong)

/-- 'laws.FnExactIdealSound': WHATEVER THE INPUT: true; the input reads as it did. -/
def fnExactIdealSoundSpec : ChangeSpec := { name := "fnExactIdealSound", fn := fun _ => fun
  | [d1, d2] => { results := [.lit (.bool true)], args := [d1, d2] }
  | _ => none }
def fnExactIdealSoundRow : OpenClaim := { program := "ytajlgclodjgiiaa", sum := "0bcc81825815562d7b01ff5c4d7dbe004dc6aa72d9a6e15a61de7cf74dfcfc0f", func := "loop.example/g00952/laws.FnExactIdealSound", spec := "fnExactIdealSound", apart := false }
def FnExactIdealSoundSaid : Prop := fnExactIdealSoundRow.holds Try.pinned (OpenSpec.ofChange fnExactIdealSoundSpec)

/-- ITS FALSE NEIGHBOUR: 'it returns false'. Refute it at one input. -/
def fnExactIdealSoundWrong : ChangeSpec := { name := "fnExactIdealSound", fn := fun _ => fun
  | [d1, d2] => { results := [.lit (.bool false)], args := [d1, d2] }
  | _ => none }
def FnExactIdealSoundWrongFalsely : Prop := fnExactIdealSoundRow.holds Try.pinned (OpenSpec.ofChange fnExactIdealSoundWrong)

/-- 'laws.FnExactNearestKind': WHATEVER THE INPUT: true; the input reads as it did. -/
def fnExactNearestKindSpec : ChangeSpec := { name := "fnExactNearestKind", fn := fun _ => fun
  | [d] => { results := [.lit (.bool true)], args := [d] }
  | _ => none }
def fnExactNearestKindRow : OpenClaim := { program := "ytajlgclodjgiiaa", sum := "0bcc81825815562d7b01ff5c4d7dbe004dc6aa72d9a6e15a61de7cf74dfcfc0f", func := "loop.example/g00952/laws.FnExactNearestKind", spec := "fnExactNearestKind", apart := false }
def FnExactNearestKindSaid : Prop := fnExactNearestKindRow.holds Try.pinned (OpenSpec.ofChange fnExactNearestKindSpec)

/-- ITS FALSE NEIGHBOUR: 'it returns false'. Refute it at one input. -/
def fnExactNearestKindWrong : ChangeSpec := { name := "fnExactNearestKind", fn := fun _ => fun
  | [d] => { results := [.lit (.bool false)], args := [d] }
  | _ => none }
def FnExactNearestKindWrongFalsely : Prop := fnExactNearestKindRow.holds Try.pinned (OpenSpec.ofChange fnExactNearestKindWrong)

/-- 'laws.FnExactShiftSound': WHATEVER THE INPUT: true; the input reads as it did. -/
def fnExactShiftSoundSpec : ChangeSpec := { name := "fnExactShiftSound", fn := fun _ => fun
  | [d1, d2] => { results := [.lit (.bool true)], args := [d1, d2] }
  | _ => none }
def fnExactShiftSoundRow : OpenClaim := { program := "ytajlgclodjgiiaa", sum := "0bcc81825815562d7b01ff5c4d7dbe004dc6aa72d9a6e15a61de7cf74dfcfc0f", func := "loop.example/g00952/laws.FnExactShiftSound", spec := "fnExactShiftSound", apart := false }
def FnExactShiftSoundSaid : Prop := fnExactShiftSoundRow.holds Try.pinned (OpenSpec.ofChange fnExactShiftSoundSpec)

/-- ITS FALSE NEIGHBOUR: 'it returns false'. Refute it at one input. -/
def fnExactShiftSoundWrong : ChangeSpec := { name := "fnExactShiftSound", fn := fun _ => fun
  | [d1, d2] => { results := [.lit (.bool false)], args := [d1, d2] }
  | _ => none }
def FnExactShiftSoundWrongFalsely : Prop := fnExactShiftSoundRow.holds Try.pinned (OpenSpec.ofChange fnExactShiftSoundWrong)

/-- 'laws.FnStrike': WHATEVER THE INPUT: true; the input reads as it did. -/
def fnStrikeSpec : ChangeSpec := { name := "fnStrike", fn := fun _ => fun
  | [d1, d2] => { results := [.lit (.bool true)], args := [d1, d2] }
  | _ => none }
def fnStrikeRow : OpenClaim := { program := "ytajlgclodjgiiaa", sum := "0bcc81825815562d7b01ff5c4d7dbe004dc6aa72d9a6e15a61de7cf74dfcfc0f", func := "loop.example/g00952/laws.FnStrike", spec := "fnStrike", apart := false }
def FnStrikeSaid : Prop := fnStrikeRow.holds Try.pinned (OpenSpec.ofChange fnStrikeSpec)

/-- ITS FALSE NEIGHBOUR: 'it returns false'. Refute it at one input. -/
def fnStrikeWrong : ChangeSpec := { name := "fnStrike", fn := fun _ => fun
  | [d1, d2] => { results := [.lit (.bool false)], args := [d1, d2] }
  | _ => none }
def FnStrikeWrongFalsely : Prop := fnStrikeRow.holds Try.pinned (OpenSpec.ofChange fnStrikeWrong)

/-- 'laws.FnBeats': WHATEVER THE INPUT: true; the input reads as it did. -/
def fnBeatsSpec : ChangeSpec := { name := "fnBeats", fn := fun _ => fun
  | [d1, d2] => { results := [.lit (.bool true)], args := [d1, d2] }
  | _ => none }
def fnBeatsRow : OpenClaim := { program := "ytajlgclodjgiiaa", sum := "0bcc81825815562d7b01ff5c4d7dbe004dc6aa72d9a6e15a61de7cf74dfcfc0f", func := "loop.example/g00952/laws.FnBeats", spec := "fnBeats", apart := false }
def FnBeatsSaid : Prop := fnBeatsRow.holds Try.pinned (OpenSpec.ofChange fnBeatsSpec)

/-- ITS FALSE NEIGHBOUR: 'it returns false'. Refute it at one input. -/
def fnBeatsWrong : ChangeSpec := { name := "fnBeats", fn := fun _ => fun
  | [d1, d2] => { results := [.lit (.bool false)], args := [d1, d2] }
  | _ => none }
def FnBeatsWrongFalsely : Prop := fnBeatsRow.holds Try.pinned (OpenSpec.ofChange fnBeatsWrong)

/- THE SECOND FORM. 'bulk': how many values and letters a reading holds, each counted each time it is reached (what is shared counts as often as it is met; a slice's spare places count too). A statement '..UptoSaid' is the law's where the arguments, and the package variables that the reading takes, are together of bulk at most 1048576: NARROWER than '..Said'. Prove '..Said' where nothing that the law and all that it calls make is longer than what came in: it says more and counts as full. Else prove '..UptoSaid'. A law counts once. -/
mutual
def uptoBulk {H : Type} : DataW H → Nat
  | .lit (.string bytes) => bytes.length + 1
  | .lit _ => 1
  | .nil => 1
  | .ptr d => uptoBulk d + 1
  | .slice elems spare => uptoBulkAll elems + uptoBulkAll spare + 1
  | .agg parts => uptoBulkAll parts + 1
  | .iface _ d => uptoBulk d + 1
  | .map entries => uptoBulkEntries entries + 1
  | .held _ => 1
def uptoBulkAll {H : Type} : List (DataW H) → Nat
  | [] => 0
  | d :: r => uptoBulk d + uptoBulkAll r
def uptoBulkEntries {H : Type} : List (Lit × DataW H) → Nat
  | [] => 0
  | x :: r => uptoBulkEntry x + uptoBulkEntries r
def uptoBulkEntry {H : Type} : Lit × DataW H → Nat
  | (.string bytes, d) => bytes.length + uptoBulk d + 1
  | (_, d) => uptoBulk d + 1
 end
def uptoSmall : (H : Type) → List (DataW H) → Bool := fun _ ds => decide (uptoBulkAll ds ≤ 1048576)
def OpenSpec.upto (s : _root_.Go.ChangeSpec) : _root_.Go.OpenSpec := { _root_.Go.OpenSpec.ofChange s with cond := some uptoSmall }

/-- 'laws.FnExactValidSound', WHERE WHAT IT READS IS OF BULK AT MOST 1048576: true; the input reads as it did. -/
def fnExactValidSoundUptoRow : OpenClaim := { program := "ytajlgclodjgiiaa", sum := "0bcc81825815562d7b01ff5c4d7dbe004dc6aa72d9a6e15a61de7cf74dfcfc0f", func := "loop.example/g00952/laws.FnExactValidSound", spec := "fnExactValidSound", apart := false, narrowed := true }
def FnExactValidSoundUptoSaid : Prop := fnExactValidSoundUptoRow.holds Try.pinned (OpenSpec.upto fnExactValidSoundSpec)

/-- 'laws.FnExactIdealOffsets', WHERE WHAT IT READS IS OF BULK AT MOST 1048576: true; the input reads as it did. -/
def fnExactIdealOffsetsUptoRow : OpenClaim := { program := "ytajlgclodjgiiaa", sum := "0bcc81825815562d7b01ff5c4d7dbe004dc6aa72d9a6e15a61de7cf74dfcfc0f", func := "loop.example/g00952/laws.FnExactIdealOffsets", spec := "fnExactIdealOffsets", apart := false, narrowed := true }
def FnExactIdealOffsetsUptoSaid : Prop := fnExactIdealOffsetsUptoRow.holds Try.pinned (OpenSpec.upto fnExactIdealOffsetsSpec)

/-- 'laws.FnExactPartialOf', WHERE WHAT IT READS IS OF BULK AT MOST 1048576: true; the input reads as it did. -/
def fnExactPartialOfUptoRow : OpenClaim := { program := "ytajlgclodjgiiaa", sum := "0bcc81825815562d7b01ff5c4d7dbe004dc6aa72d9a6e15a61de7cf74dfcfc0f", func := "loop.example/g00952/laws.FnExactPartialOf", spec := "fnExactPartialOf", apart := false, narrowed := true }
def FnExactPartialOfUptoSaid : Prop := fnExactPartialOfUptoRow.holds Try.pinned (OpenSpec.upto fnExactPartialOfSpec)

/-- 'laws.FnExactWorstDeviation', WHERE WHAT IT READS IS OF BULK AT MOST 1048576: true; the input reads as it did. -/
def fnExactWorstDeviationUptoRow : OpenClaim := { program := "ytajlgclodjgiiaa", sum := "0bcc81825815562d7b01ff5c4d7dbe004dc6aa72d9a6e15a61de7cf74dfcfc0f", func := "loop.example/g00952/laws.FnExactWorstDeviation", spec := "fnExactWorstDeviation", apart := false, narrowed := true }
def FnExactWorstDeviationUptoSaid : Prop := fnExactWorstDeviationUptoRow.holds Try.pinned (OpenSpec.upto fnExactWorstDeviationSpec)

/-- 'laws.FnExactStrikeOf', WHERE WHAT IT READS IS OF BULK AT MOST 1048576: true; the input reads as it did. -/
def fnExactStrikeOfUptoRow : OpenClaim := { program := "ytajlgclodjgiiaa", sum := "0bcc81825815562d7b01ff5c4d7dbe004dc6aa72d9a6e15a61de7cf74dfcfc0f", func := "loop.example/g00952/laws.FnExactStrikeOf", spec := "fnExactStrikeOf", apart := false, narrowed := true }
def FnExactStrikeOfUptoSaid : Prop := fnExactStrikeOfUptoRow.holds Try.pinned (OpenSpec.upto fnExactStrikeOfSpec)

/-- 'laws.FnExactWithPartial', WHERE WHAT IT READS IS OF BULK AT MOST 1048576: true; the input reads as it did. -/
def fnExactWithPartialUptoRow : OpenClaim := { program := "ytajlgclodjgiiaa", sum := "0bcc81825815562d7b01ff5c4d7dbe004dc6aa72d9a6e15a61de7cf74dfcfc0f", func := "loop.example/g00952/laws.FnExactWithPartial", spec := "fnExactWithPartial", apart := false, narrowed := true }
def FnExactWithPartialUptoSaid : Prop := fnExactWithPartialUptoRow.holds Try.pinned (OpenSpec.upto fnExactWithPartialSpec)

/-- 'laws.FnExactDeviationsOf', WHERE WHAT IT READS IS OF BULK AT MOST 1048576: true; the input reads as it did. -/
def fnExactDeviationsOfUptoRow : OpenClaim := { program := "ytajlgclodjgiiaa", sum := "0bcc81825815562d7b01ff5c4d7dbe004dc6aa72d9a6e15a61de7cf74dfcfc0f", func := "loop.example/g00952/laws.FnExactDeviationsOf", spec := "fnExactDeviationsOf", apart := false, narrowed := true }
def FnExactDeviationsOfUptoSaid : Prop := fnExactDeviationsOfUptoRow.holds Try.pinned (OpenSpec.upto fnExactDeviationsOfSpec)

/-- 'laws.FnExactIdealSound', WHERE WHAT IT READS IS OF BULK AT MOST 1048576: true; the input reads as it did. -/
def fnExactIdealSoundUptoRow : OpenClaim := { program := "ytajlgclodjgiiaa", sum := "0bcc81825815562d7b01ff5c4d7dbe004dc6aa72d9a6e15a61de7cf74dfcfc0f", func := "loop.example/g00952/laws.FnExactIdealSound", spec := "fnExactIdealSound", apart := false, narrowed := true }
def FnExactIdealSoundUptoSaid : Prop := fnExactIdealSoundUptoRow.holds Try.pinned (OpenSpec.upto fnExactIdealSoundSpec)

/-- 'laws.FnExactNearestKind', WHERE WHAT IT READS IS OF BULK AT MOST 1048576: true; the input reads as it did. -/
def fnExactNearestKindUptoRow : OpenClaim := { program := "ytajlgclodjgiiaa", sum := "0bcc81825815562d7b01ff5c4d7dbe004dc6aa72d9a6e15a61de7cf74dfcfc0f", func := "loop.example/g00952/laws.FnExactNearestKind", spec := "fnExactNearestKind", apart := false, narrowed := true }
def FnExactNearestKindUptoSaid : Prop := fnExactNearestKindUptoRow.holds Try.pinned (OpenSpec.upto fnExactNearestKindSpec)

/-- 'laws.FnExactShiftSound', WHERE WHAT IT READS IS OF BULK AT MOST 1048576: true; the input reads as it did. -/
def fnExactShiftSoundUptoRow : OpenClaim := { program := "ytajlgclodjgiiaa", sum := "0bcc81825815562d7b01ff5c4d7dbe004dc6aa72d9a6e15a61de7cf74dfcfc0f", func := "loop.example/g00952/laws.FnExactShiftSound", spec := "fnExactShiftSound", apart := false, narrowed := true }
def FnExactShiftSoundUptoSaid : Prop := fnExactShiftSoundUptoRow.holds Try.pinned (OpenSpec.upto fnExactShiftSoundSpec)

/-- 'laws.FnStrike', WHERE WHAT IT READS IS OF BULK AT MOST 1048576: true; the input reads as it did. -/
def fnStrikeUptoRow : OpenClaim := { program := "ytajlgclodjgiiaa", sum := "0bcc81825815562d7b01ff5c4d7dbe004dc6aa72d9a6e15a61de7cf74dfcfc0f", func := "loop.example/g00952/laws.FnStrike", spec := "fnStrike", apart := false, narrowed := true }
def FnStrikeUptoSaid : Prop := fnStrikeUptoRow.holds Try.pinned (OpenSpec.upto fnStrikeSpec)

/-- 'laws.FnBeats', WHERE WHAT IT READS IS OF BULK AT MOST 1048576: true; the input reads as it did. -/
def fnBeatsUptoRow : OpenClaim := { program := "ytajlgclodjgiiaa", sum := "0bcc81825815562d7b01ff5c4d7dbe004dc6aa72d9a6e15a61de7cf74dfcfc0f", func := "loop.example/g00952/laws.FnBeats", spec := "fnBeats", apart := false, narrowed := true }
def FnBeatsUptoSaid : Prop := fnBeatsUptoRow.holds Try.pinned (OpenSpec.upto fnBeatsSpec)

end Rows
end Go.Proofs.Ytajlgclodjgiiaa
