/-
  No cell of these rows narrows 'for every input' (looked for: loops, veiled, ifaces, maps, wideKeys, modest, calm, conditions, laid).
  DERIVED. THE GIVEN ROWS OF THIS SEAT. 12 by the template 'for every input the law returns true; each argument reads behind the call as it read before'; 0 by the template 'total and deterministic' (their statements: YtapogcdihapjjaaTotals.lean).
  GIVEN WITH THE SEED: the statements are not yours to turn. If you find one false, say at which input.
  Laid BY PROGRAM, IN A SANDBOX (cutbox-rows.mjs): the forced cells as the released guide's own fill.sh prints them over the translation acf91911e835a7b3… (all of the seat's roots in one cut). By AI agents, Wed Nov 11 2026. No macro, syntax, notation, axiom, sorry.
-/
import Derived.Test.YtapogcdihapjjaaChecked
import GoSem.Claim
import GoSem.ClaimJoined
import GoSem.ClaimMapViews
import Derived.JoinedTies
import Derived.KernelRfl
namespace Go.Proofs.Ytapogcdihapjjaa
/- THE CELL 'sum', in the pinned program and in every row, IS THE sha256 OF THE DUMP (.gsa) THAT YtapogcdihapjjaaProg.lean LOADS. Nothing in Lean hashes anything: it is a label: what it is worth is what the hold of that sum in a sandbox is worth. -/
noncomputable def Try.pinned : Pinned := { name := "ytapogcdihapjjaa", sum := "acf91911e835a7b38a77a67421c70d7314d89c9a5b9298d3a0b2d8fc919944b4", checked := Try.checked }
namespace Rows
def none {H : Type} : Left H := { results := [], args := [] }

/-- 'laws.FnExactCrc16': WHATEVER THE INPUT: true; the input reads as it did. -/
def fnExactCrc16Spec : ChangeSpec := { name := "fnExactCrc16", fn := fun _ => fun
  | [d1, d2] => { results := [.lit (.bool true)], args := [d1, d2] }
  | _ => none }
def fnExactCrc16Row : OpenClaim := { program := "ytapogcdihapjjaa", sum := "acf91911e835a7b38a77a67421c70d7314d89c9a5b9298d3a0b2d8fc919944b4", func := "loop.example/g00952/laws.FnExactCrc16", spec := "fnExactCrc16", apart := false }
def FnExactCrc16Said : Prop := fnExactCrc16Row.holds Try.pinned (OpenSpec.ofChange fnExactCrc16Spec)

/-- ITS FALSE NEIGHBOUR: 'it returns false'. Refute it at one input. -/
def fnExactCrc16Wrong : ChangeSpec := { name := "fnExactCrc16", fn := fun _ => fun
  | [d1, d2] => { results := [.lit (.bool false)], args := [d1, d2] }
  | _ => none }
def FnExactCrc16WrongFalsely : Prop := fnExactCrc16Row.holds Try.pinned (OpenSpec.ofChange fnExactCrc16Wrong)

/-- 'laws.FnExactBeat': WHATEVER THE INPUT: true; the input reads as it did. -/
def fnExactBeatSpec : ChangeSpec := { name := "fnExactBeat", fn := fun _ => fun
  | [d1, d2] => { results := [.lit (.bool true)], args := [d1, d2] }
  | _ => none }
def fnExactBeatRow : OpenClaim := { program := "ytapogcdihapjjaa", sum := "acf91911e835a7b38a77a67421c70d7314d89c9a5b9298d3a0b2d8fc919944b4", func := "loop.example/g00952/laws.FnExactBeat", spec := "fnExactBeat", apart := false }
def FnExactBeatSaid : Prop := fnExactBeatRow.holds Try.pinned (OpenSpec.ofChange fnExactBeatSpec)

/-- ITS FALSE NEIGHBOUR: 'it returns false'. Refute it at one input. -/
def fnExactBeatWrong : ChangeSpec := { name := "fnExactBeat", fn := fun _ => fun
  | [d1, d2] => { results := [.lit (.bool false)], args := [d1, d2] }
  | _ => none }
def FnExactBeatWrongFalsely : Prop := fnExactBeatRow.holds Try.pinned (OpenSpec.ofChange fnExactBeatWrong)

/-- 'laws.FnExactDivRound': WHATEVER THE INPUT: true; the input reads as it did. -/
def fnExactDivRoundSpec : ChangeSpec := { name := "fnExactDivRound", fn := fun _ => fun
  | [d1, d2] => { results := [.lit (.bool true)], args := [d1, d2] }
  | _ => none }
def fnExactDivRoundRow : OpenClaim := { program := "ytapogcdihapjjaa", sum := "acf91911e835a7b38a77a67421c70d7314d89c9a5b9298d3a0b2d8fc919944b4", func := "loop.example/g00952/laws.FnExactDivRound", spec := "fnExactDivRound", apart := false }
def FnExactDivRoundSaid : Prop := fnExactDivRoundRow.holds Try.pinned (OpenSpec.ofChange fnExactDivRoundSpec)

/-- ITS FALSE NEIGHBOUR: 'it returns false'. Refute it at one input. -/
def fnExactDivRoundWrong : ChangeSpec := { name := "fnExactDivRound", fn := fun _ => fun
  | [d1, d2] => { results := [.lit (.bool false)], args := [d1, d2] }
  | _ => none }
def FnExactDivRoundWrongFalsely : Prop := fnExactDivRoundRow.holds Try.pinned (OpenSpec.ofChange fnExactDivRoundWrong)

/-- 'laws.FnExactReduceOctave': WHATEVER THE INPUT: true; the input reads as it did. -/
def fnExactReduceOctaveSpec : ChangeSpec := { name := "fnExactReduceOctave", fn := fun _ => fun
  | [d1, d2] => { results := [.lit (.bool true)], args := [d1, d2] }
  | _ => none }
def fnExactReduceOctaveRow : OpenClaim := { program := "ytapogcdihapjjaa", sum := "acf91911e835a7b38a77a67421c70d7314d89c9a5b9298d3a0b2d8fc919944b4", func := "loop.example/g00952/laws.FnExactReduceOctave", spec := "fnExactReduceOctave", apart := false }
def FnExactReduceOctaveSaid : Prop := fnExactReduceOctaveRow.holds Try.pinned (OpenSpec.ofChange fnExactReduceOctaveSpec)

/-- ITS FALSE NEIGHBOUR: 'it returns false'. Refute it at one input. -/
def fnExactReduceOctaveWrong : ChangeSpec := { name := "fnExactReduceOctave", fn := fun _ => fun
  | [d1, d2] => { results := [.lit (.bool false)], args := [d1, d2] }
  | _ => none }
def FnExactReduceOctaveWrongFalsely : Prop := fnExactReduceOctaveRow.holds Try.pinned (OpenSpec.ofChange fnExactReduceOctaveWrong)

/-- 'laws.FnExactRatioFrequency': WHATEVER THE INPUT: true; the input reads as it did. -/
def fnExactRatioFrequencySpec : ChangeSpec := { name := "fnExactRatioFrequency", fn := fun _ => fun
  | [d1, d2, d3] => { results := [.lit (.bool true)], args := [d1, d2, d3] }
  | _ => none }
def fnExactRatioFrequencyRow : OpenClaim := { program := "ytapogcdihapjjaa", sum := "acf91911e835a7b38a77a67421c70d7314d89c9a5b9298d3a0b2d8fc919944b4", func := "loop.example/g00952/laws.FnExactRatioFrequency", spec := "fnExactRatioFrequency", apart := false }
def FnExactRatioFrequencySaid : Prop := fnExactRatioFrequencyRow.holds Try.pinned (OpenSpec.ofChange fnExactRatioFrequencySpec)

/-- ITS FALSE NEIGHBOUR: 'it returns false'. Refute it at one input. -/
def fnExactRatioFrequencyWrong : ChangeSpec := { name := "fnExactRatioFrequency", fn := fun _ => fun
  | [d1, d2, d3] => { results := [.lit (.bool false)], args := [d1, d2, d3] }
  | _ => none }
def FnExactRatioFrequencyWrongFalsely : Prop := fnExactRatioFrequencyRow.holds Try.pinned (OpenSpec.ofChange fnExactRatioFrequencyWrong)

/-- 'laws.FnExactBlend': WHATEVER THE INPUT: true; the input reads as it did. -/
def fnExactBlendSpec : ChangeSpec := { name := "fnExactBlend", fn := fun _ => fun
  | [d1, d2, d3, d4, d5] => { results := [.lit (.bool true)], args := [d1, d2, d3, d4, d5] }
  | _ => none }
def fnExactBlendRow : OpenClaim := { program := "ytapogcdihapjjaa", sum := "acf91911e835a7b38a77a67421c70d7314d89c9a5b9298d3a0b2d8fc919944b4", func := "loop.example/g00952/laws.FnExactBlend", spec := "fnExactBlend", apart := false }
def FnExactBlendSaid : Prop := fnExactBlendRow.holds Try.pinned (OpenSpec.ofChange fnExactBlendSpec)

/-- ITS FALSE NEIGHBOUR: 'it returns false'. Refute it at one input. -/
def fnExactBlendWrong : ChangeSpec := { name := "fnExactBlend", fn := fun _ => fun
  | [d1, d2, d3, d4, d5] => { results := [.lit (.bool false)], args := [d1, d2, d3, d4, d5] }
  | _ => none }
def FnExactBlendWrongFalsely : Prop := fnExactBlendRow.holds Try.pinned (OpenSpec.ofChange fnExactBlendWrong)

/-- 'laws.FnExactFineLog': WHATEVER THE INPUT: true; the input reads as it did. -/
def fnExactFineLogSpec : ChangeSpec := { name := "fnExactFineLog", fn := fun _ => fun
  | [d] => { results := [.lit (.bool true)], args := [d] }
  | _ => none }
def fnExactFineLogRow : OpenClaim := { program := "ytapogcdihapjjaa", sum := "acf91911e835a7b38a77a67421c70d7314d89c9a5b9298d3a0b2d8fc919944b4", func := "loop.example/g00952/laws.FnExactFineLog", spec := "fnExactFineLog", apart := false }
def FnExactFineLogSaid : Prop := fnExactFineLogRow.holds Try.pinned (OpenSpec.ofChange fnExactFineLogSpec)

/-- ITS FALSE NEIGHBOUR: 'it returns false'. Refute it at one input. -/
def fnExactFineLogWrong : ChangeSpec := { name := "fnExactFineLog", fn := fun _ => fun
  | [d] => { results := [.lit (.bool false)], args := [d] }
  | _ => none }
def FnExactFineLogWrongFalsely : Prop := fnExactFineLogRow.holds Try.pinned (OpenSpec.ofChange fnExactFineLogWrong)

/-- 'laws.FnExactBeatTime': WHATEVER THE INPUT: true; the input reads as it did. -/
def fnExactBeatTimeSpec : ChangeSpec := { name := "fnExactBeatTime", fn := fun _ => fun
  | [d1, d2] => { results := [.lit (.bool true)], args := [d1, d2] }
  | _ => none }
def fnExactBeatTimeRow : OpenClaim := { program := "ytapogcdihapjjaa", sum := "acf91911e835a7b38a77a67421c70d7314d89c9a5b9298d3a0b2d8fc919944b4", func := "loop.example/g00952/laws.FnExactBeatTime", spec := "fnExactBeatTime", apart := false }
def FnExactBeatTimeSaid : Prop := fnExactBeatTimeRow.holds Try.pinned (OpenSpec.ofChange fnExactBeatTimeSpec)

/-- ITS FALSE NEIGHBOUR: 'it returns false'. Refute it at one input. -/
def fnExactBeatTimeWrong : ChangeSpec := { name := "fnExactBeatTime", fn := fun _ => fun
  | [d1, d2] => { results := [.lit (.bool false)], args := [d1, d2] }
  | _ => none }
def FnExactBeatTimeWrongFalsely : Prop := fnExactBeatTimeRow.holds Try.pinned (OpenSpec.ofChange fnExactBeatTimeWrong)

/-- 'laws.FnExactLogTenths': WHATEVER THE INPUT: true; the input reads as it did. -/
def fnExactLogTenthsSpec : ChangeSpec := { name := "fnExactLogTenths", fn := fun _ => fun
  | [d] => { results := [.lit (.bool true)], args := [d] }
  | _ => none }
def fnExactLogTenthsRow : OpenClaim := { program := "ytapogcdihapjjaa", sum := "acf91911e835a7b38a77a67421c70d7314d89c9a5b9298d3a0b2d8fc919944b4", func := "loop.example/g00952/laws.FnExactLogTenths", spec := "fnExactLogTenths", apart := false }
def FnExactLogTenthsSaid : Prop := fnExactLogTenthsRow.holds Try.pinned (OpenSpec.ofChange fnExactLogTenthsSpec)

/-- ITS FALSE NEIGHBOUR: 'it returns false'. Refute it at one input. -/
def fnExactLogTenthsWrong : ChangeSpec := { name := "fnExactLogTenths", fn := fun _ => fun
  | [d] => { results := [.lit (.bool false)], args := [d] }
  | _ => none }
def FnExactLogTenthsWrongFalsely : Prop := fnExactLogTenthsRow.holds Try.pinned (OpenSpec.ofChange fnExactLogTenthsWrong)

/-- 'laws.FnExactCentsBetween': WHATEVER THE INPUT: true; the input reads as it did. -/
def fnExactCentsBetweenSpec : ChangeSpec := { name := "fnExactCentsBetween", fn := fun _ => fun
  | [d1, d2] => { results := [.lit (.bool true)], args := [d1, d2] }
  | _ => none }
def fnExactCentsBetweenRow : OpenClaim := { program := "ytapogcdihapjjaa", sum := "acf91911e835a7b38a77a67421c70d7314d89c9a5b9298d3a0b2d8fc919944b4", func := "loop.example/g00952/laws.FnExactCentsBetween", spec := "fnExactCentsBetween", apart := false }
def FnExactCentsBetweenSaid : Prop := fnExactCentsBetweenRow.holds Try.pinned (OpenSpec.ofChange fnExactCentsBetweenSpec)

/-- ITS FALSE NEIGHBOUR: 'it returns false'. Refute it at one input. -/
def fnExactCentsBetweenWrong : ChangeSpec := { name := "fnExactCentsBetween", fn := fun _ => fun
  | [d1, d2] => { results := [.lit (.bool false)], args := [d1, d2] }
  | _ => none }
def FnExactCentsBetweenWrongFalsely : Prop := fnExactCentsBetweenRow.holds Try.pinned (OpenSpec.ofChange fnExactCentsBetweenWrong)

/-- 'laws.FnExactMeanFrequency': WHATEVER THE INPUT: true; the input reads as it did. -/
def fnExactMeanFrequencySpec : ChangeSpec := { name := "fnExactMeanFrequency", fn := fun _ => fun
  | [d] => { results := [.lit (.bool true)], args := [d] }
  | _ => none }
def fnExactMeanFrequencyRow : OpenClaim := { program := "ytapogcdihapjjaa", sum := "acf91911e835a7b38a77a67421c70d7314d89c9a5b9298d3a0b2d8fc919944b4", func := "loop.example/g00952/laws.FnExactMeanFrequency", spec := "fnExactMeanFrequency", apart := false }
def FnExactMeanFrequencySaid : Prop := fnExactMeanFrequencyRow.holds Try.pinned (OpenSpec.ofChange fnExactMeanFrequencySpec)

/-- ITS FALSE NEIGHBOUR: 'it returns false'. Refute it at one input. -/
def fnExactMeanFrequencyWrong : ChangeSpec := { name := "fnExactMeanFrequency", fn := fun _ => fun
  | [d] => { results := [.lit (.bool false)], args := [d] }
  | _ => none }
def FnExactMeanFrequencyWrongFalsely : Prop := fnExactMeanFrequencyRow.holds Try.pinned (OpenSpec.ofChange fnExactMeanFrequencyWrong)

/-- 'laws.FnExactRaise': WHATEVER THE INPUT: true; the input reads as it did. -/
def fnExactRaiseSpec : ChangeSpec := { name := "fnExactRaise", fn := fun _ => fun
  | [d1, d2] => { results := [.lit (.bool true)], args := [d1, d2] }
  | _ => none }
def fnExactRaiseRow : OpenClaim := { program := "ytapogcdihapjjaa", sum := "acf91911e835a7b38a77a67421c70d7314d89c9a5b9298d3a0b2d8fc919944b4", func := "loop.example/g00952/laws.FnExactRaise", spec := "fnExactRaise", apart := false }
def FnExactRaiseSaid : Prop := fnExactRaiseRow.holds Try.pinned (OpenSpec.ofChange fnExactRaiseSpec)

/-- ITS FALSE NEIGHBOUR: 'it returns false'. Refute it at one input. -/
def fnExactRaiseWrong : ChangeSpec := { name := "fnExactRaise", fn := fun _ => fun
  | [d1, d2] => { results := [.lit (.bool false)], args := [d1, d2] }
  | _ => none }
def FnExactRaiseWrongFalsely : Prop := fnExactRaiseRow.holds Try.pinned (OpenSpec.ofChange fnExactRaiseWrong)

/- THE SECOND FORM. 'bulk': how many values and letters a reading holds, each counted each time it is reached (what is shared counts as often as it is met; a slice's spare places count too). A statement '..UptoSaid' is the law's where the arguments, and the package variables that the reading takes, are together of bulk at most 1048576: NARROWER than '..Said'. Prove '..Said' where nothing that the law and all that it calls make is longer than what came in: it says more and counts as full. Else prove '..UptoSaid'. A law counts once. -/
mutual
def uptoBulk {H : Type} : DataW H → Nat
  | .lit (.string bytes) => bytes.length + 1
  | .lit _ => 1
  | .nil => 1
  | .ptr d => uptoBulk d + 1
  | .slice elems spare => uptoBulkAll elems + uptoBulkAll spare + 1
  | .agg parts => uptoBulkAll parts + 1
  | .iface _ d => uptoBulk d + 1
  | .map entries => uptoBulkEntries entries + 1
  | .held _ => 1
def uptoBulkAll {H : Type} : List (DataW H) → Nat
  | [] => 0
  | d :: r => uptoBulk d + uptoBulkAll r
def uptoBulkEntries {H : Type} : List (Lit × DataW H) → Nat
  | [] => 0
  | x :: r => uptoBulkEntry x + uptoBulkEntries r
def uptoBulkEntry {H : Type} : Lit × DataW H → Nat
  | (.string bytes, d) => bytes.length + uptoBulk d + 1
  | (_, d) => uptoBulk d + 1
 end
def uptoSmall : (H : Type) → List (DataW H) → Bool := fun _ ds => decide (uptoBulkAll ds ≤ 1048576)
def OpenSpec.upto (s : _root_.Go.ChangeSpec) : _root_.Go.OpenSpec := { _root_.Go.OpenSpec.ofChange s with cond := some uptoSmall }

/-- 'laws.FnExactCrc16', WHERE WHAT IT READS IS OF BULK AT MOST 1048576: true; the input reads as it did. -/
def fnExactCrc16UptoRow : OpenClaim := { program := "ytapogcdihapjjaa", sum := "acf91911e835a7b38a77a67421c70d7314d89c9a5b9298d3a0b2d8fc919944b4", func := "loop.example/g00952/laws.FnExactCrc16", spec := "fnExactCrc16", apart := false, narrowed := true }
def FnExactCrc16UptoSaid : Prop := fnExactCrc16UptoRow.holds Try.pinned (OpenSpec.upto fnExactCrc16Spec)

/-- 'laws.FnExactBeat', WHERE WHAT IT READS IS OF BULK AT MOST 1048576: true; the input reads as it did. -/
def fnExactBeatUptoRow : OpenClaim := { program := "ytapogcdihapjjaa", sum := "acf91911e835a7b38a77a67421c70d7314d89c9a5b9298d3a0b2d8fc919944b4", func := "loop.example/g00952/laws.FnExactBeat", spec := "fnExactBeat", apart := false, narrowed := true }
def FnExactBeatUptoSaid : Prop := fnExactBeatUptoRow.holds Try.pinned (OpenSpec.upto fnExactBeatSpec)

/-- 'laws.FnExactDivRound', WHERE WHAT IT READS IS OF BULK AT MOST 1048576: true; the input reads as it did. -/
def fnExactDivRoundUptoRow : OpenClaim := { program := "ytapogcdihapjjaa", sum := "acf91911e835a7b38a77a67421c70d7314d89c9a5b9298d3a0b2d8fc919944b4", func := "loop.example/g00952/laws.FnExactDivRound", spec := "fnExactDivRound", apart := false, narrowed := true }
def FnExactDivRoundUptoSaid : Prop := fnExactDivRoundUptoRow.holds Try.pinned (OpenSpec.upto fnExactDivRoundSpec)

/-- 'laws.FnExactReduceOctave', WHERE WHAT IT READS IS OF BULK AT MOST 1048576: true; the input reads as it did. -/
def fnExactReduceOctaveUptoRow : OpenClaim := { program := "ytapogcdihapjjaa", sum := "acf91911e835a7b38a77a67421c70d7314d89c9a5b9298d3a0b2d8fc919944b4", func := "loop.example/g00952/laws.FnExactReduceOctave", spec := "fnExactReduceOctave", apart := false, narrowed := true }
def FnExactReduceOctaveUptoSaid : Prop := fnExactReduceOctaveUptoRow.holds Try.pinned (OpenSpec.upto fnExactReduceOctaveSpec)

/-- 'laws.FnExactRatioFrequency', WHERE WHAT IT READS IS OF BULK AT MOST 1048576: true; the input reads as it did. -/
def fnExactRatioFrequencyUptoRow : OpenClaim := { program := "ytapogcdihapjjaa", sum := "acf91911e835a7b38a77a67421c70d7314d89c9a5b9298d3a0b2d8fc919944b4", func := "loop.example/g00952/laws.FnExactRatioFrequency", spec := "fnExactRatioFrequency", apart := false, narrowed := true }
def FnExactRatioFrequencyUptoSaid : Prop := fnExactRatioFrequencyUptoRow.holds Try.pinned (OpenSpec.upto fnExactRatioFrequencySpec)

/-- 'laws.FnExactBlend', WHERE WHAT IT READS IS OF BULK AT MOST 1048576: true; the input reads as it did. -/
def fnExactBlendUptoRow : OpenClaim := { program := "ytapogcdihapjjaa", sum := "acf91911e835a7b38a77a67421c70d7314d89c9a5b9298d3a0b2d8fc919944b4", func := "loop.example/g00952/laws.FnExactBlend", spec := "fnExactBlend", apart := false, narrowed := true }
def FnExactBlendUptoSaid : Prop := fnExactBlendUptoRow.holds Try.pinned (OpenSpec.upto fnExactBlendSpec)

/-- 'laws.FnExactFineLog', WHERE WHAT IT READS IS OF BULK AT MOST 1048576: true; the input reads as it did. -/
def fnExactFineLogUptoRow : OpenClaim := { program := "ytapogcdihapjjaa", sum := "acf91911e835a7b38a77a67421c70d7314d89c9a5b9298d3a0b2d8fc919944b4", func := "loop.example/g00952/laws.FnExactFineLog", spec := "fnExactFineLog", apart := false, narrowed := true }
def FnExactFineLogUptoSaid : Prop := fnExactFineLogUptoRow.holds Try.pinned (OpenSpec.upto fnExactFineLogSpec)

/-- 'laws.FnExactBeatTime', WHERE WHAT IT READS IS OF BULK AT MOST 1048576: true; the input reads as it did. -/
def fnExactBeatTimeUptoRow : OpenClaim := { program := "ytapogcdihapjjaa", sum := "acf91911e835a7b38a77a67421c70d7314d89c9a5b9298d3a0b2d8fc919944b4", func := "loop.example/g00952/laws.FnExactBeatTime", spec := "fnExactBeatTime", apart := false, narrowed := true }
def FnExactBeatTimeUptoSaid : Prop := fnExactBeatTimeUptoRow.holds Try.pinned (OpenSpec.upto fnExactBeatTimeSpec)

/-- 'laws.FnExactLogTenths', WHERE WHAT IT READS IS OF BULK AT MOST 1048576: true; the input reads as it did. -/
def fnExactLogTenthsUptoRow : OpenClaim := { program := "ytapogcdihapjjaa", sum := "acf91911e835a7b38a77a67421c70d7314d89c9a5b9298d3a0b2d8fc919944b4", func := "loop.example/g00952/laws.FnExactLogTenths", spec := "fnExactLogTenths", apart := false, narrowed := true }
def FnExactLogTenthsUptoSaid : Prop := fnExactLogTenthsUptoRow.holds Try.pinned (OpenSpec.upto fnExactLogTenthsSpec)

/-- 'laws.FnExactCentsBetween', WHERE WHAT IT READS IS OF BULK AT MOST 1048576: true; the input reads as it did. -/
def fnExactCentsBetweenUptoRow : OpenClaim := { program := "ytapogcdihapjjaa", sum := "acf91911e835a7b38a77a67421c70d7314d89c9a5b9298d3a0b2d8fc919944b4", func := "loop.example/g00952/laws.FnExactCentsBetween", spec := "fnExactCentsBetween", apart := false, narrowed := true }
def FnExactCentsBetweenUptoSaid : Prop := fnExactCentsBetweenUptoRow.holds Try.pinned (OpenSpec.upto fnExactCentsBetweenSpec)

/-- 'laws.FnExactMeanFrequency', WHERE WHAT IT READS IS OF BULK AT MOST 1048576: true; the input reads as it did. -/
def fnExactMeanFrequencyUptoRow : OpenClaim := { program := "ytapogcdihapjjaa", sum := "acf91911e835a7b38a77a67421c70d7314d89c9a5b9298d3a0b2d8fc919944b4", func := "loop.example/g00952/laws.FnExactMeanFrequency", spec := "fnExactMeanFrequency", apart := false, narrowed := true }
def FnExactMeanFrequencyUptoSaid : Prop := fnExactMeanFrequencyUptoRow.holds Try.pinned (OpenSpec.upto fnExactMeanFrequencySpec)

/-- 'laws.FnExactRaise', WHERE WHAT IT READS IS OF BULK AT MOST 1048576: true; the input reads as it did. -/
def fnExactRaiseUptoRow : OpenClaim := { program := "ytapogcdihapjjaa", sum := "acf91911e835a7b38a77a67421c70d7314d89c9a5b9298d3a0b2d8fc919944b4", func := "loop.example/g00952/laws.FnExactRaise", spec := "fnExactRaise", apart := false, narrowed := true }
def FnExactRaiseUptoSaid : Prop := fnExactRaiseUptoRow.holds Try.pinned (OpenSpec.upto fnExactRaiseSpec)

end Rows
end Go.Proofs.Ytapogcdihapjjaa
