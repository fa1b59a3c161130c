/-
  No cell of these rows narrows 'for every input' (looked for: loops, veiled, ifaces, maps, wideKeys, modest, calm, conditions, laid).
  DERIVED. THE GIVEN ROWS OF THIS SEAT. 12 by the template 'for every input the law returns true; each argument reads behind the call as it read before'; 0 by the template 'total and deterministic' (their statements: YtdpahmkcipfdaaaTotals.lean).
  GIVEN WITH THE SEED: the statements are not yours to turn. If you find one false, say at which input.
  Laid BY PROGRAM, IN A SANDBOX (cutbox-rows.mjs): the forced cells as the released guide's own fill.sh prints them over the translation 2fb848e9ae63ec24… (all of the seat's roots in one cut). By AI agents, Wed Nov 11 2026. No macro, syntax, notation, axiom, sorry.
-/
import Derived.Test.YtdpahmkcipfdaaaChecked
import GoSem.Claim
import GoSem.ClaimJoined
import GoSem.ClaimMapViews
import Derived.JoinedTies
import Derived.KernelRfl
namespace Go.Proofs.Ytdpahmkcipfdaaa
/- THE CELL 'sum', in the pinned program and in every row, IS THE sha256 OF THE DUMP (.gsa) THAT YtdpahmkcipfdaaaProg.lean LOADS. Nothing in Lean hashes anything: it is a label: what it is worth is what the hold of that sum in a sandbox is worth. -/
noncomputable def Try.pinned : Pinned := { name := "ytdpahmkcipfdaaa", sum := "2fb848e9ae63ec2400d0f8b6a1838fc7ef024b3b43f7e969fa89e2f234e380d9", checked := Try.checked }
namespace Rows
def none {H : Type} : Left H := { results := [], args := [] }

/-- 'laws.FnExactTemperamentNames': WHATEVER THE INPUT: true; the input reads as it did. -/
def fnExactTemperamentNamesSpec : ChangeSpec := { name := "fnExactTemperamentNames", fn := fun _ => fun
  | [] => { results := [.lit (.bool true)], args := [] }
  | _ => none }
def fnExactTemperamentNamesRow : OpenClaim := { program := "ytdpahmkcipfdaaa", sum := "2fb848e9ae63ec2400d0f8b6a1838fc7ef024b3b43f7e969fa89e2f234e380d9", func := "loop.example/g00952/laws.FnExactTemperamentNames", spec := "fnExactTemperamentNames", apart := false }
def FnExactTemperamentNamesSaid : Prop := fnExactTemperamentNamesRow.holds Try.pinned (OpenSpec.ofChange fnExactTemperamentNamesSpec)

/-- ITS FALSE NEIGHBOUR: 'it returns false'. Refute it at one input. -/
def fnExactTemperamentNamesWrong : ChangeSpec := { name := "fnExactTemperamentNames", fn := fun _ => fun
  | [] => { results := [.lit (.bool false)], args := [] }
  | _ => none }
def FnExactTemperamentNamesWrongFalsely : Prop := fnExactTemperamentNamesRow.holds Try.pinned (OpenSpec.ofChange fnExactTemperamentNamesWrong)

/-- 'laws.FnExactScaleNotes': WHATEVER THE INPUT: true; the input reads as it did. -/
def fnExactScaleNotesSpec : ChangeSpec := { name := "fnExactScaleNotes", fn := fun _ => fun
  | [d1, d2] => { results := [.lit (.bool true)], args := [d1, d2] }
  | _ => none }
def fnExactScaleNotesRow : OpenClaim := { program := "ytdpahmkcipfdaaa", sum := "2fb848e9ae63ec2400d0f8b6a1838fc7ef024b3b43f7e969fa89e2f234e380d9", func := "loop.example/g00952/laws.FnExactScaleNotes", spec := "fnExactScaleNotes", apart := false }
def FnExactScaleNotesSaid : Prop := fnExactScaleNotesRow.holds Try.pinned (OpenSpec.ofChange fnExactScaleNotesSpec)

/-- ITS FALSE NEIGHBOUR: 'it returns false'. Refute it at one input. -/
def fnExactScaleNotesWrong : ChangeSpec := { name := "fnExactScaleNotes", fn := fun _ => fun
  | [d1, d2] => { results := [.lit (.bool false)], args := [d1, d2] }
  | _ => none }
def FnExactScaleNotesWrongFalsely : Prop := fnExactScaleNotesRow.holds Try.pinned (OpenSpec.ofChange fnExactScaleNotesWrong)

/-- 'laws.FnExactSameTemperament': WHATEVER THE INPUT: true; the input reads as it did. -/
def fnExactSameTemperamentSpec : ChangeSpec := { name := "fnExactSameTemperament", fn := fun _ => fun
  | [d1, d2] => { results := [.lit (.bool true)], args := [d1, d2] }
  | _ => none }
def fnExactSameTemperamentRow : OpenClaim := { program := "ytdpahmkcipfdaaa", sum := "2fb848e9ae63ec2400d0f8b6a1838fc7ef024b3b43f7e969fa89e2f234e380d9", func := "loop.example/g00952/laws.FnExactSameTemperament", spec := "fnExactSameTemperament", apart := false }
def FnExactSameTemperamentSaid : Prop := fnExactSameTemperamentRow.holds Try.pinned (OpenSpec.ofChange fnExactSameTemperamentSpec)

/-- ITS FALSE NEIGHBOUR: 'it returns false'. Refute it at one input. -/
def fnExactSameTemperamentWrong : ChangeSpec := { name := "fnExactSameTemperament", fn := fun _ => fun
  | [d1, d2] => { results := [.lit (.bool false)], args := [d1, d2] }
  | _ => none }
def FnExactSameTemperamentWrongFalsely : Prop := fnExactSameTemperamentRow.holds Try.pinned (OpenSpec.ofChange fnExactSameTemperamentWrong)

/-- 'laws.FnExactTemperamentNamed': WHATEVER THE INPUT: true; the input reads as it did. -/
def fnExactTemperamentNamedSpec : ChangeSpec := { name := "fnExactTemperamentNamed", fn := fun _ => fun
  | [d] => { results := [.lit (.bool true)], args := [d] }
  | _ => none }
def fnExactTemperamentNamedRow : OpenClaim := { program := "ytdpahmkcipfdaaa", sum := "2fb848e9ae63ec2400d0f8b6a1838fc7ef024b3b43f7e969fa89e2f234e380d9", func := "loop.example/g00952/laws.FnExactTemperamentNamed", spec := "fnExactTemperamentNamed", apart := false }
def FnExactTemperamentNamedSaid : Prop := fnExactTemperamentNamedRow.holds Try.pinned (OpenSpec.ofChange fnExactTemperamentNamedSpec)

/-- ITS FALSE NEIGHBOUR: 'it returns false'. Refute it at one input. -/
def fnExactTemperamentNamedWrong : ChangeSpec := { name := "fnExactTemperamentNamed", fn := fun _ => fun
  | [d] => { results := [.lit (.bool false)], args := [d] }
  | _ => none }
def FnExactTemperamentNamedWrongFalsely : Prop := fnExactTemperamentNamedRow.holds Try.pinned (OpenSpec.ofChange fnExactTemperamentNamedWrong)

/-- 'laws.FnExactSameProfile': WHATEVER THE INPUT: true; the input reads as it did. -/
def fnExactSameProfileSpec : ChangeSpec := { name := "fnExactSameProfile", fn := fun _ => fun
  | [d1, d2] => { results := [.lit (.bool true)], args := [d1, d2] }
  | _ => none }
def fnExactSameProfileRow : OpenClaim := { program := "ytdpahmkcipfdaaa", sum := "2fb848e9ae63ec2400d0f8b6a1838fc7ef024b3b43f7e969fa89e2f234e380d9", func := "loop.example/g00952/laws.FnExactSameProfile", spec := "fnExactSameProfile", apart := false }
def FnExactSameProfileSaid : Prop := fnExactSameProfileRow.holds Try.pinned (OpenSpec.ofChange fnExactSameProfileSpec)

/-- ITS FALSE NEIGHBOUR: 'it returns false'. Refute it at one input. -/
def fnExactSameProfileWrong : ChangeSpec := { name := "fnExactSameProfile", fn := fun _ => fun
  | [d1, d2] => { results := [.lit (.bool false)], args := [d1, d2] }
  | _ => none }
def FnExactSameProfileWrongFalsely : Prop := fnExactSameProfileRow.holds Try.pinned (OpenSpec.ofChange fnExactSameProfileWrong)

/-- 'laws.FnExactValidTemperament': WHATEVER THE INPUT: true; the input reads as it did. -/
def fnExactValidTemperamentSpec : ChangeSpec := { name := "fnExactValidTemperament", fn := fun _ => fun
  | [d] => { results := [.lit (.bool true)], args := [d] }
  | _ => none }
def fnExactValidTemperamentRow : OpenClaim := { program := "ytdpahmkcipfdaaa", sum := "2fb848e9ae63ec2400d0f8b6a1838fc7ef024b3b43f7e969fa89e2f234e380d9", func := "loop.example/g00952/laws.FnExactValidTemperament", spec := "fnExactValidTemperament", unfollowed := true, recurses := true, apart := false }
def FnExactValidTemperamentSaid : Prop := fnExactValidTemperamentRow.holds Try.pinned (OpenSpec.ofChange fnExactValidTemperamentSpec)

/-- ITS FALSE NEIGHBOUR: 'it returns false'. Refute it at one input. -/
def fnExactValidTemperamentWrong : ChangeSpec := { name := "fnExactValidTemperament", fn := fun _ => fun
  | [d] => { results := [.lit (.bool false)], args := [d] }
  | _ => none }
def FnExactValidTemperamentWrongFalsely : Prop := fnExactValidTemperamentRow.holds Try.pinned (OpenSpec.ofChange fnExactValidTemperamentWrong)

/-- 'laws.FnExactNoteInterval': WHATEVER THE INPUT: true; the input reads as it did. -/
def fnExactNoteIntervalSpec : ChangeSpec := { name := "fnExactNoteInterval", fn := fun _ => fun
  | [d1, d2, d3] => { results := [.lit (.bool true)], args := [d1, d2, d3] }
  | _ => none }
def fnExactNoteIntervalRow : OpenClaim := { program := "ytdpahmkcipfdaaa", sum := "2fb848e9ae63ec2400d0f8b6a1838fc7ef024b3b43f7e969fa89e2f234e380d9", func := "loop.example/g00952/laws.FnExactNoteInterval", spec := "fnExactNoteInterval", unfollowed := true, recurses := true, apart := false }
def FnExactNoteIntervalSaid : Prop := fnExactNoteIntervalRow.holds Try.pinned (OpenSpec.ofChange fnExactNoteIntervalSpec)

/-- ITS FALSE NEIGHBOUR: 'it returns false'. Refute it at one input. -/
def fnExactNoteIntervalWrong : ChangeSpec := { name := "fnExactNoteInterval", fn := fun _ => fun
  | [d1, d2, d3] => { results := [.lit (.bool false)], args := [d1, d2, d3] }
  | _ => none }
def FnExactNoteIntervalWrongFalsely : Prop := fnExactNoteIntervalRow.holds Try.pinned (OpenSpec.ofChange fnExactNoteIntervalWrong)

/-- 'laws.FnExactValidProfile': WHATEVER THE INPUT: true; the input reads as it did. -/
def fnExactValidProfileSpec : ChangeSpec := { name := "fnExactValidProfile", fn := fun _ => fun
  | [d] => { results := [.lit (.bool true)], args := [d] }
  | _ => none }
def fnExactValidProfileRow : OpenClaim := { program := "ytdpahmkcipfdaaa", sum := "2fb848e9ae63ec2400d0f8b6a1838fc7ef024b3b43f7e969fa89e2f234e380d9", func := "loop.example/g00952/laws.FnExactValidProfile", spec := "fnExactValidProfile", unfollowed := true, recurses := true, apart := false }
def FnExactValidProfileSaid : Prop := fnExactValidProfileRow.holds Try.pinned (OpenSpec.ofChange fnExactValidProfileSpec)

/-- ITS FALSE NEIGHBOUR: 'it returns false'. Refute it at one input. -/
def fnExactValidProfileWrong : ChangeSpec := { name := "fnExactValidProfile", fn := fun _ => fun
  | [d] => { results := [.lit (.bool false)], args := [d] }
  | _ => none }
def FnExactValidProfileWrongFalsely : Prop := fnExactValidProfileRow.holds Try.pinned (OpenSpec.ofChange fnExactValidProfileWrong)

/-- 'laws.FnExactHeightOf': WHATEVER THE INPUT: true; the input reads as it did. -/
def fnExactHeightOfSpec : ChangeSpec := { name := "fnExactHeightOf", fn := fun _ => fun
  | [d] => { results := [.lit (.bool true)], args := [d] }
  | _ => none }
def fnExactHeightOfRow : OpenClaim := { program := "ytdpahmkcipfdaaa", sum := "2fb848e9ae63ec2400d0f8b6a1838fc7ef024b3b43f7e969fa89e2f234e380d9", func := "loop.example/g00952/laws.FnExactHeightOf", spec := "fnExactHeightOf", unfollowed := true, recurses := true, apart := false }
def FnExactHeightOfSaid : Prop := fnExactHeightOfRow.holds Try.pinned (OpenSpec.ofChange fnExactHeightOfSpec)

/-- ITS FALSE NEIGHBOUR: 'it returns false'. Refute it at one input. -/
def fnExactHeightOfWrong : ChangeSpec := { name := "fnExactHeightOf", fn := fun _ => fun
  | [d] => { results := [.lit (.bool false)], args := [d] }
  | _ => none }
def FnExactHeightOfWrongFalsely : Prop := fnExactHeightOfRow.holds Try.pinned (OpenSpec.ofChange fnExactHeightOfWrong)

/-- 'laws.FnExactLipDiameter': WHATEVER THE INPUT: true; the input reads as it did. -/
def fnExactLipDiameterSpec : ChangeSpec := { name := "fnExactLipDiameter", fn := fun _ => fun
  | [d] => { results := [.lit (.bool true)], args := [d] }
  | _ => none }
def fnExactLipDiameterRow : OpenClaim := { program := "ytdpahmkcipfdaaa", sum := "2fb848e9ae63ec2400d0f8b6a1838fc7ef024b3b43f7e969fa89e2f234e380d9", func := "loop.example/g00952/laws.FnExactLipDiameter", spec := "fnExactLipDiameter", unfollowed := true, recurses := true, apart := false }
def FnExactLipDiameterSaid : Prop := fnExactLipDiameterRow.holds Try.pinned (OpenSpec.ofChange fnExactLipDiameterSpec)

/-- ITS FALSE NEIGHBOUR: 'it returns false'. Refute it at one input. -/
def fnExactLipDiameterWrong : ChangeSpec := { name := "fnExactLipDiameter", fn := fun _ => fun
  | [d] => { results := [.lit (.bool false)], args := [d] }
  | _ => none }
def FnExactLipDiameterWrongFalsely : Prop := fnExactLipDiameterRow.holds Try.pinned (OpenSpec.ofChange fnExactLipDiameterWrong)

/-- 'laws.FnExactDeviationFrom': WHATEVER THE INPUT: true; the input reads as it did. -/
def fnExactDeviationFromSpec : ChangeSpec := { name := "fnExactDeviationFrom", fn := fun _ => fun
  | [d1, d2, d3, d4] => { results := [.lit (.bool true)], args := [d1, d2, d3, d4] }
  | _ => none }
def fnExactDeviationFromRow : OpenClaim := { program := "ytdpahmkcipfdaaa", sum := "2fb848e9ae63ec2400d0f8b6a1838fc7ef024b3b43f7e969fa89e2f234e380d9", func := "loop.example/g00952/laws.FnExactDeviationFrom", spec := "fnExactDeviationFrom", unfollowed := true, recurses := true, apart := false }
def FnExactDeviationFromSaid : Prop := fnExactDeviationFromRow.holds Try.pinned (OpenSpec.ofChange fnExactDeviationFromSpec)

/-- ITS FALSE NEIGHBOUR: 'it returns false'. Refute it at one input. -/
def fnExactDeviationFromWrong : ChangeSpec := { name := "fnExactDeviationFrom", fn := fun _ => fun
  | [d1, d2, d3, d4] => { results := [.lit (.bool false)], args := [d1, d2, d3, d4] }
  | _ => none }
def FnExactDeviationFromWrongFalsely : Prop := fnExactDeviationFromRow.holds Try.pinned (OpenSpec.ofChange fnExactDeviationFromWrong)

/-- 'laws.FnExactNearestNote': WHATEVER THE INPUT: true; the input reads as it did. -/
def fnExactNearestNoteSpec : ChangeSpec := { name := "fnExactNearestNote", fn := fun _ => fun
  | [d1, d2, d3] => { results := [.lit (.bool true)], args := [d1, d2, d3] }
  | _ => none }
def fnExactNearestNoteRow : OpenClaim := { program := "ytdpahmkcipfdaaa", sum := "2fb848e9ae63ec2400d0f8b6a1838fc7ef024b3b43f7e969fa89e2f234e380d9", func := "loop.example/g00952/laws.FnExactNearestNote", spec := "fnExactNearestNote", unfollowed := true, recurses := true, apart := false }
def FnExactNearestNoteSaid : Prop := fnExactNearestNoteRow.holds Try.pinned (OpenSpec.ofChange fnExactNearestNoteSpec)

/-- ITS FALSE NEIGHBOUR: 'it returns false'. Refute it at one input. -/
def fnExactNearestNoteWrong : ChangeSpec := { name := "fnExactNearestNote", fn := fun _ => fun
  | [d1, d2, d3] => { results := [.lit (.bool false)], args := [d1, d2, d3] }
  | _ => none }
def FnExactNearestNoteWrongFalsely : Prop := fnExactNearestNoteRow.holds Try.pinned (OpenSpec.ofChange fnExactNearestNoteWrong)

/- THE SECOND FORM. 'bulk': how many values and letters a reading holds, each counted each time it is reached (what is shared counts as often as it is met; a slice's spare places count too). A statement '..UptoSaid' is the law's where the arguments, and the package variables that the reading takes, are together of bulk at most 1048576: NARROWER than '..Said'. Prove '..Said' where nothing that the law and all that it calls make is longer than what came in: it says more and counts as full. Else prove '..UptoSaid'. A law counts once. -/
mutual
def uptoBulk {H : Type} : DataW H → Nat
  | .lit (.string bytes) => bytes.length + 1
  | .lit _ => 1
  | .nil => 1
  | .ptr d => uptoBulk d + 1
  | .slice elems spare => uptoBulkAll elems + uptoBulkAll spare + 1
  | .agg parts => uptoBulkAll parts + 1
  | .iface _ d => uptoBulk d + 1
  | .map entries => uptoBulkEntries entries + 1
  | .held _ => 1
def uptoBulkAll {H : Type} : List (DataW H) → Nat
  | [] => 0
  | d :: r => uptoBulk d + uptoBulkAll r
def uptoBulkEntries {H : Type} : List (Lit × DataW H) → Nat
  | [] => 0
  | x :: r => uptoBulkEntry x + uptoBulkEntries r
def uptoBulkEntry {H : Type} : Lit × DataW H → Nat
  | (.string bytes, d) => bytes.length + uptoBulk d + 1
  | (_, d) => uptoBulk d + 1
 end
def uptoSmall : (H : Type) → List (DataW H) → Bool := fun _ ds => decide (uptoBulkAll ds ≤ 1048576)
def OpenSpec.upto (s : _root_.Go.ChangeSpec) : _root_.Go.OpenSpec := { _root_.Go.OpenSpec.ofChange s with cond := some uptoSmall }

/-- 'laws.FnExactTemperamentNames', WHERE WHAT IT READS IS OF BULK AT MOST 1048576: true; the input reads as it did. -/
def fnExactTemperamentNamesUptoRow : OpenClaim := { program := "ytdpahmkcipfdaaa", sum := "2fb848e9ae63ec2400d0f8b6a1838fc7ef024b3b43f7e969fa89e2f234e380d9", func := "loop.example/g00952/laws.FnExactTemperamentNames", spec := "fnExactTemperamentNames", apart := false, narrowed := true }
def FnExactTemperamentNamesUptoSaid : Prop := fnExactTemperamentNamesUptoRow.holds Try.pinned (OpenSpec.upto fnExactTemperamentNamesSpec)

/-- 'laws.FnExactScaleNotes', WHERE WHAT IT READS IS OF BULK AT MOST 1048576: true; the input reads as it did. -/
def fnExactScaleNotesUptoRow : OpenClaim := { program := "ytdpahmkcipfdaaa", sum := "2fb848e9ae63ec2400d0f8b6a1838fc7ef024b3b43f7e969fa89e2f234e380d9", func := "loop.example/g00952/laws.FnExactScaleNotes", spec := "fnExactScaleNotes", apart := false, narrowed := true }
def FnExactScaleNotesUptoSaid : Prop := fnExactScaleNotesUptoRow.holds Try.pinned (OpenSpec.upto fnExactScaleNotesSpec)

/-- 'laws.FnExactSameTemperament', WHERE WHAT IT READS IS OF BULK AT MOST 1048576: true; the input reads as it did. -/
def fnExactSameTemperamentUptoRow : OpenClaim := { program := "ytdpahmkcipfdaaa", sum := "2fb848e9ae63ec2400d0f8b6a1838fc7ef024b3b43f7e969fa89e2f234e380d9", func := "loop.example/g00952/laws.FnExactSameTemperament", spec := "fnExactSameTemperament", apart := false, narrowed := true }
def FnExactSameTemperamentUptoSaid : Prop := fnExactSameTemperamentUptoRow.holds Try.pinned (OpenSpec.upto fnExactSameTemperamentSpec)

/-- 'laws.FnExactTemperamentNamed', WHERE WHAT IT READS IS OF BULK AT MOST 1048576: true; the input reads as it did. -/
def fnExactTemperamentNamedUptoRow : OpenClaim := { program := "ytdpahmkcipfdaaa", sum := "2fb848e9ae63ec2400d0f8b6a1838fc7ef024b3b43f7e969fa89e2f234e380d9", func := "loop.example/g00952/laws.FnExactTemperamentNamed", spec := "fnExactTemperamentNamed", apart := false, narrowed := true }
def FnExactTemperamentNamedUptoSaid : Prop := fnExactTemperamentNamedUptoRow.holds Try.pinned (OpenSpec.upto fnExactTemperamentNamedSpec)

/-- 'laws.FnExactSameProfile', WHERE WHAT IT READS IS OF BULK AT MOST 1048576: true; the input reads as it did. -/
def fnExactSameProfileUptoRow : OpenClaim := { program := "ytdpahmkcipfdaaa", sum := "2fb848e9ae63ec2400d0f8b6a1838fc7ef024b3b43f7e969fa89e2f234e380d9", func := "loop.example/g00952/laws.FnExactSameProfile", spec := "fnExactSameProfile", apart := false, narrowed := true }
def FnExactSameProfileUptoSaid : Prop := fnExactSameProfileUptoRow.holds Try.pinned (OpenSpec.upto fnExactSameProfileSpec)

/-- 'laws.FnExactValidTemperament', WHERE WHAT IT READS IS OF BULK AT MOST 1048576: true; the input reads as it did. -/
def fnExactValidTemperamentUptoRow : OpenClaim := { program := "ytdpahmkcipfdaaa", sum := "2fb848e9ae63ec2400d0f8b6a1838fc7ef024b3b43f7e969fa89e2f234e380d9", func := "loop.example/g00952/laws.FnExactValidTemperament", spec := "fnExactValidTemperament", unfollowed := true, recurses := true, apart := false, narrowed := true }
def FnExactValidTemperamentUptoSaid : Prop := fnExactValidTemperamentUptoRow.holds Try.pinned (OpenSpec.upto fnExactValidTemperamentSpec)

/-- 'laws.FnExactNoteInterval', WHERE WHAT IT READS IS OF BULK AT MOST 1048576: true; the input reads as it did. -/
def fnExactNoteIntervalUptoRow : OpenClaim := { program := "ytdpahmkcipfdaaa", sum := "2fb848e9ae63ec2400d0f8b6a1838fc7ef024b3b43f7e969fa89e2f234e380d9", func := "loop.example/g00952/laws.FnExactNoteInterval", spec := "fnExactNoteInterval", unfollowed := true, recurses := true, apart := false, narrowed := true }
def FnExactNoteIntervalUptoSaid : Prop := fnExactNoteIntervalUptoRow.holds Try.pinned (OpenSpec.upto fnExactNoteIntervalSpec)

/-- 'laws.FnExactValidProfile', WHERE WHAT IT READS IS OF BULK AT MOST 1048576: true; the input reads as it did. -/
def fnExactValidProfileUptoRow : OpenClaim := { program := "ytdpahmkcipfdaaa", sum := "2fb848e9ae63ec2400d0f8b6a1838fc7ef024b3b43f7e969fa89e2f234e380d9", func := "loop.example/g00952/laws.FnExactValidProfile", spec := "fnExactValidProfile", unfollowed := true, recurses := true, apart := false, narrowed := true }
def FnExactValidProfileUptoSaid : Prop := fnExactValidProfileUptoRow.holds Try.pinned (OpenSpec.upto fnExactValidProfileSpec)

/-- 'laws.FnExactHeightOf', WHERE WHAT IT READS IS OF BULK AT MOST 1048576: true; the input reads as it did. -/
def fnExactHeightOfUptoRow : OpenClaim := { program := "ytdpahmkcipfdaaa", sum := "2fb848e9ae63ec2400d0f8b6a1838fc7ef024b3b43f7e969fa89e2f234e380d9", func := "loop.example/g00952/laws.FnExactHeightOf", spec := "fnExactHeightOf", unfollowed := true, recurses := true, apart := false, narrowed := true }
def FnExactHeightOfUptoSaid : Prop := fnExactHeightOfUptoRow.holds Try.pinned (OpenSpec.upto fnExactHeightOfSpec)

/-- 'laws.FnExactLipDiameter', WHERE WHAT IT READS IS OF BULK AT MOST 1048576: true; the input reads as it did. -/
def fnExactLipDiameterUptoRow : OpenClaim := { program := "ytdpahmkcipfdaaa", sum := "2fb848e9ae63ec2400d0f8b6a1838fc7ef024b3b43f7e969fa89e2f234e380d9", func := "loop.example/g00952/laws.FnExactLipDiameter", spec := "fnExactLipDiameter", unfollowed := true, recurses := true, apart := false, narrowed := true }
def FnExactLipDiameterUptoSaid : Prop := fnExactLipDiameterUptoRow.holds Try.pinned (OpenSpec.upto fnExactLipDiameterSpec)

/-- 'laws.FnExactDeviationFrom', WHERE WHAT IT READS IS OF BULK AT MOST 1048576: true; the input reads as it did. -/
def fnExactDeviationFromUptoRow : OpenClaim := { program := "ytdpahmkcipfdaaa", sum := "2fb848e9ae63ec2400d0f8b6a1838fc7ef024b3b43f7e969fa89e2f234e380d9", func := "loop.example/g00952/laws.FnExactDeviationFrom", spec := "fnExactDeviationFrom", unfollowed := true, recurses := true, apart := false, narrowed := true }
def FnExactDeviationFromUptoSaid : Prop := fnExactDeviationFromUptoRow.holds Try.pinned (OpenSpec.upto fnExactDeviationFromSpec)

/-- 'laws.FnExactNearestNote', WHERE WHAT IT READS IS OF BULK AT MOST 1048576: true; the input reads as it did. -/
def fnExactNearestNoteUptoRow : OpenClaim := { program := "ytdpahmkcipfdaaa", sum := "2fb848e9ae63ec2400d0f8b6a1838fc7ef024b3b43f7e969fa89e2f234e380d9", func := "loop.example/g00952/laws.FnExactNearestNote", spec := "fnExactNearestNote", unfollowed := true, recurses := true, apart := false, narrowed := true }
def FnExactNearestNoteUptoSaid : Prop := fnExactNearestNoteUptoRow.holds Try.pinned (OpenSpec.upto fnExactNearestNoteSpec)

end Rows
end Go.Proofs.Ytdpahmkcipfdaaa
