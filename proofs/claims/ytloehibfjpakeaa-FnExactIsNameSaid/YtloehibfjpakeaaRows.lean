/-
  No cell of these rows narrows 'for every input' (looked for: loops, veiled, ifaces, maps, wideKeys, modest, calm, conditions, laid).
  DERIVED. THE GIVEN ROWS OF THIS SEAT. 7 by the template 'for every input the law returns true; each argument reads behind the call as it read before'; 0 by the template 'total and deterministic' (their statements: YtloehibfjpakeaaTotals.lean).
  GIVEN WITH THE SEED: the statements are not yours to turn. If you find one false, say at which input.
  Laid BY PROGRAM, IN A SANDBOX (cutbox-rows.mjs): the forced cells as the released guide's own fill.sh prints them over the translation e11ada4ecd675695… (all of the seat's roots in one cut). By AI agents, Wed Nov 11 2026. No macro, syntax, notation, axiom, sorry.
-/
import Derived.Test.YtloehibfjpakeaaChecked
import GoSem.Claim
import GoSem.ClaimJoined
import GoSem.ClaimMapViews
import Derived.JoinedTies
import Derived.KernelRfl
namespace Go.Proofs.Ytloehibfjpakeaa
/- THE CELL 'sum', in the pinned program and in every row, IS THE sha256 OF THE DUMP (.gsa) THAT YtloehibfjpakeaaProg.lean LOADS. Nothing in Lean hashes anything: it is a label: what it is worth is what the hold of that sum in a sandbox is worth. -/
noncomputable def Try.pinned : Pinned := { name := "ytloehibfjpakeaa", sum := "e11ada4ecd6756954c679af95ca8b20c0369843dca7e7de862f06d9e8cc08580", checked := Try.checked }
namespace Rows
def none {H : Type} : Left H := { results := [], args := [] }

/-- 'laws.FnExactConstants': WHATEVER THE INPUT: true; the input reads as it did. -/
def fnExactConstantsSpec : ChangeSpec := { name := "fnExactConstants", fn := fun _ => fun
  | [] => { results := [.lit (.bool true)], args := [] }
  | _ => none }
def fnExactConstantsRow : OpenClaim := { program := "ytloehibfjpakeaa", sum := "e11ada4ecd6756954c679af95ca8b20c0369843dca7e7de862f06d9e8cc08580", func := "loop.example/g00952/laws.FnExactConstants", spec := "fnExactConstants", apart := false }
def FnExactConstantsSaid : Prop := fnExactConstantsRow.holds Try.pinned (OpenSpec.ofChange fnExactConstantsSpec)

/-- ITS FALSE NEIGHBOUR: 'it returns false'. Refute it at one input. -/
def fnExactConstantsWrong : ChangeSpec := { name := "fnExactConstants", fn := fun _ => fun
  | [] => { results := [.lit (.bool false)], args := [] }
  | _ => none }
def FnExactConstantsWrongFalsely : Prop := fnExactConstantsRow.holds Try.pinned (OpenSpec.ofChange fnExactConstantsWrong)

/-- 'laws.FnExactIsFrequency': WHATEVER THE INPUT: true; the input reads as it did. -/
def fnExactIsFrequencySpec : ChangeSpec := { name := "fnExactIsFrequency", fn := fun _ => fun
  | [d] => { results := [.lit (.bool true)], args := [d] }
  | _ => none }
def fnExactIsFrequencyRow : OpenClaim := { program := "ytloehibfjpakeaa", sum := "e11ada4ecd6756954c679af95ca8b20c0369843dca7e7de862f06d9e8cc08580", func := "loop.example/g00952/laws.FnExactIsFrequency", spec := "fnExactIsFrequency", apart := false }
def FnExactIsFrequencySaid : Prop := fnExactIsFrequencyRow.holds Try.pinned (OpenSpec.ofChange fnExactIsFrequencySpec)

/-- ITS FALSE NEIGHBOUR: 'it returns false'. Refute it at one input. -/
def fnExactIsFrequencyWrong : ChangeSpec := { name := "fnExactIsFrequency", fn := fun _ => fun
  | [d] => { results := [.lit (.bool false)], args := [d] }
  | _ => none }
def FnExactIsFrequencyWrongFalsely : Prop := fnExactIsFrequencyRow.holds Try.pinned (OpenSpec.ofChange fnExactIsFrequencyWrong)

/-- 'laws.FnExactCodeName': WHATEVER THE INPUT: true; the input reads as it did. -/
def fnExactCodeNameSpec : ChangeSpec := { name := "fnExactCodeName", fn := fun _ => fun
  | [d] => { results := [.lit (.bool true)], args := [d] }
  | _ => none }
def fnExactCodeNameRow : OpenClaim := { program := "ytloehibfjpakeaa", sum := "e11ada4ecd6756954c679af95ca8b20c0369843dca7e7de862f06d9e8cc08580", func := "loop.example/g00952/laws.FnExactCodeName", spec := "fnExactCodeName", apart := false }
def FnExactCodeNameSaid : Prop := fnExactCodeNameRow.holds Try.pinned (OpenSpec.ofChange fnExactCodeNameSpec)

/-- ITS FALSE NEIGHBOUR: 'it returns false'. Refute it at one input. -/
def fnExactCodeNameWrong : ChangeSpec := { name := "fnExactCodeName", fn := fun _ => fun
  | [d] => { results := [.lit (.bool false)], args := [d] }
  | _ => none }
def FnExactCodeNameWrongFalsely : Prop := fnExactCodeNameRow.holds Try.pinned (OpenSpec.ofChange fnExactCodeNameWrong)

/-- 'laws.FnExactPartialName': WHATEVER THE INPUT: true; the input reads as it did. -/
def fnExactPartialNameSpec : ChangeSpec := { name := "fnExactPartialName", fn := fun _ => fun
  | [d] => { results := [.lit (.bool true)], args := [d] }
  | _ => none }
def fnExactPartialNameRow : OpenClaim := { program := "ytloehibfjpakeaa", sum := "e11ada4ecd6756954c679af95ca8b20c0369843dca7e7de862f06d9e8cc08580", func := "loop.example/g00952/laws.FnExactPartialName", spec := "fnExactPartialName", apart := false }
def FnExactPartialNameSaid : Prop := fnExactPartialNameRow.holds Try.pinned (OpenSpec.ofChange fnExactPartialNameSpec)

/-- ITS FALSE NEIGHBOUR: 'it returns false'. Refute it at one input. -/
def fnExactPartialNameWrong : ChangeSpec := { name := "fnExactPartialName", fn := fun _ => fun
  | [d] => { results := [.lit (.bool false)], args := [d] }
  | _ => none }
def FnExactPartialNameWrongFalsely : Prop := fnExactPartialNameRow.holds Try.pinned (OpenSpec.ofChange fnExactPartialNameWrong)

/-- 'laws.FnExactValidRing': WHATEVER THE INPUT: true; the input reads as it did. -/
def fnExactValidRingSpec : ChangeSpec := { name := "fnExactValidRing", fn := fun _ => fun
  | [d] => { results := [.lit (.bool true)], args := [d] }
  | _ => none }
def fnExactValidRingRow : OpenClaim := { program := "ytloehibfjpakeaa", sum := "e11ada4ecd6756954c679af95ca8b20c0369843dca7e7de862f06d9e8cc08580", func := "loop.example/g00952/laws.FnExactValidRing", spec := "fnExactValidRing", apart := false }
def FnExactValidRingSaid : Prop := fnExactValidRingRow.holds Try.pinned (OpenSpec.ofChange fnExactValidRingSpec)

/-- ITS FALSE NEIGHBOUR: 'it returns false'. Refute it at one input. -/
def fnExactValidRingWrong : ChangeSpec := { name := "fnExactValidRing", fn := fun _ => fun
  | [d] => { results := [.lit (.bool false)], args := [d] }
  | _ => none }
def FnExactValidRingWrongFalsely : Prop := fnExactValidRingRow.holds Try.pinned (OpenSpec.ofChange fnExactValidRingWrong)

/-- 'laws.FnExactRootOf': WHATEVER THE INPUT: true; the input reads as it did. -/
def fnExactRootOfSpec : ChangeSpec := { name := "fnExactRootOf", fn := fun _ => fun
  | [d] => { results := [.lit (.bool true)], args := [d] }
  | _ => none }
def fnExactRootOfRow : OpenClaim := { program := "ytloehibfjpakeaa", sum := "e11ada4ecd6756954c679af95ca8b20c0369843dca7e7de862f06d9e8cc08580", func := "loop.example/g00952/laws.FnExactRootOf", spec := "fnExactRootOf", apart := false }
def FnExactRootOfSaid : Prop := fnExactRootOfRow.holds Try.pinned (OpenSpec.ofChange fnExactRootOfSpec)

/-- ITS FALSE NEIGHBOUR: 'it returns false'. Refute it at one input. -/
def fnExactRootOfWrong : ChangeSpec := { name := "fnExactRootOf", fn := fun _ => fun
  | [d] => { results := [.lit (.bool false)], args := [d] }
  | _ => none }
def FnExactRootOfWrongFalsely : Prop := fnExactRootOfRow.holds Try.pinned (OpenSpec.ofChange fnExactRootOfWrong)

/-- 'laws.FnExactIsName': WHATEVER THE INPUT: true; the input reads as it did. -/
def fnExactIsNameSpec : ChangeSpec := { name := "fnExactIsName", fn := fun _ => fun
  | [d] => { results := [.lit (.bool true)], args := [d] }
  | _ => none }
def fnExactIsNameRow : OpenClaim := { program := "ytloehibfjpakeaa", sum := "e11ada4ecd6756954c679af95ca8b20c0369843dca7e7de862f06d9e8cc08580", func := "loop.example/g00952/laws.FnExactIsName", spec := "fnExactIsName", apart := false }
def FnExactIsNameSaid : Prop := fnExactIsNameRow.holds Try.pinned (OpenSpec.ofChange fnExactIsNameSpec)

/-- ITS FALSE NEIGHBOUR: 'it returns false'. Refute it at one input. -/
def fnExactIsNameWrong : ChangeSpec := { name := "fnExactIsName", fn := fun _ => fun
  | [d] => { results := [.lit (.bool false)], args := [d] }
  | _ => none }
def FnExactIsNameWrongFalsely : Prop := fnExactIsNameRow.holds Try.pinned (OpenSpec.ofChange fnExactIsNameWrong)

/- THE SECOND FORM. 'bulk': how many values and letters a reading holds, each counted each time it is reached (what is shared counts as often as it is met; a slice's spare places count too). A statement '..UptoSaid' is the law's where the arguments, and the package variables that the reading takes, are together of bulk at most 1048576: NARROWER than '..Said'. Prove '..Said' where nothing that the law and all that it calls make is longer than what came in: it says more and counts as full. Else prove '..UptoSaid'. A law counts once. -/
mutual
def uptoBulk {H : Type} : DataW H → Nat
  | .lit (.string bytes) => bytes.length + 1
  | .lit _ => 1
  | .nil => 1
  | .ptr d => uptoBulk d + 1
  | .slice elems spare => uptoBulkAll elems + uptoBulkAll spare + 1
  | .agg parts => uptoBulkAll parts + 1
  | .iface _ d => uptoBulk d + 1
  | .map entries => uptoBulkEntries entries + 1
  | .held _ => 1
def uptoBulkAll {H : Type} : List (DataW H) → Nat
  | [] => 0
  | d :: r => uptoBulk d + uptoBulkAll r
def uptoBulkEntries {H : Type} : List (Lit × DataW H) → Nat
  | [] => 0
  | x :: r => uptoBulkEntry x + uptoBulkEntries r
def uptoBulkEntry {H : Type} : Lit × DataW H → Nat
  | (.string bytes, d) => bytes.length + uptoBulk d + 1
  | (_, d) => uptoBulk d + 1
 end
def uptoSmall : (H : Type) → List (DataW H) → Bool := fun _ ds => decide (uptoBulkAll ds ≤ 1048576)
def OpenSpec.upto (s : _root_.Go.ChangeSpec) : _root_.Go.OpenSpec := { _root_.Go.OpenSpec.ofChange s with cond := some uptoSmall }

/-- 'laws.FnExactConstants', WHERE WHAT IT READS IS OF BULK AT MOST 1048576: true; the input reads as it did. -/
def fnExactConstantsUptoRow : OpenClaim := { program := "ytloehibfjpakeaa", sum := "e11ada4ecd6756954c679af95ca8b20c0369843dca7e7de862f06d9e8cc08580", func := "loop.example/g00952/laws.FnExactConstants", spec := "fnExactConstants", apart := false, narrowed := true }
def FnExactConstantsUptoSaid : Prop := fnExactConstantsUptoRow.holds Try.pinned (OpenSpec.upto fnExactConstantsSpec)

/-- 'laws.FnExactIsFrequency', WHERE WHAT IT READS IS OF BULK AT MOST 1048576: true; the input reads as it did. -/
def fnExactIsFrequencyUptoRow : OpenClaim := { program := "ytloehibfjpakeaa", sum := "e11ada4ecd6756954c679af95ca8b20c0369843dca7e7de862f06d9e8cc08580", func := "loop.example/g00952/laws.FnExactIsFrequency", spec := "fnExactIsFrequency", apart := false, narrowed := true }
def FnExactIsFrequencyUptoSaid : Prop := fnExactIsFrequencyUptoRow.holds Try.pinned (OpenSpec.upto fnExactIsFrequencySpec)

/-- 'laws.FnExactCodeName', WHERE WHAT IT READS IS OF BULK AT MOST 1048576: true; the input reads as it did. -/
def fnExactCodeNameUptoRow : OpenClaim := { program := "ytloehibfjpakeaa", sum := "e11ada4ecd6756954c679af95ca8b20c0369843dca7e7de862f06d9e8cc08580", func := "loop.example/g00952/laws.FnExactCodeName", spec := "fnExactCodeName", apart := false, narrowed := true }
def FnExactCodeNameUptoSaid : Prop := fnExactCodeNameUptoRow.holds Try.pinned (OpenSpec.upto fnExactCodeNameSpec)

/-- 'laws.FnExactPartialName', WHERE WHAT IT READS IS OF BULK AT MOST 1048576: true; the input reads as it did. -/
def fnExactPartialNameUptoRow : OpenClaim := { program := "ytloehibfjpakeaa", sum := "e11ada4ecd6756954c679af95ca8b20c0369843dca7e7de862f06d9e8cc08580", func := "loop.example/g00952/laws.FnExactPartialName", spec := "fnExactPartialName", apart := false, narrowed := true }
def FnExactPartialNameUptoSaid : Prop := fnExactPartialNameUptoRow.holds Try.pinned (OpenSpec.upto fnExactPartialNameSpec)

/-- 'laws.FnExactValidRing', WHERE WHAT IT READS IS OF BULK AT MOST 1048576: true; the input reads as it did. -/
def fnExactValidRingUptoRow : OpenClaim := { program := "ytloehibfjpakeaa", sum := "e11ada4ecd6756954c679af95ca8b20c0369843dca7e7de862f06d9e8cc08580", func := "loop.example/g00952/laws.FnExactValidRing", spec := "fnExactValidRing", apart := false, narrowed := true }
def FnExactValidRingUptoSaid : Prop := fnExactValidRingUptoRow.holds Try.pinned (OpenSpec.upto fnExactValidRingSpec)

/-- 'laws.FnExactRootOf', WHERE WHAT IT READS IS OF BULK AT MOST 1048576: true; the input reads as it did. -/
def fnExactRootOfUptoRow : OpenClaim := { program := "ytloehibfjpakeaa", sum := "e11ada4ecd6756954c679af95ca8b20c0369843dca7e7de862f06d9e8cc08580", func := "loop.example/g00952/laws.FnExactRootOf", spec := "fnExactRootOf", apart := false, narrowed := true }
def FnExactRootOfUptoSaid : Prop := fnExactRootOfUptoRow.holds Try.pinned (OpenSpec.upto fnExactRootOfSpec)

/-- 'laws.FnExactIsName', WHERE WHAT IT READS IS OF BULK AT MOST 1048576: true; the input reads as it did. -/
def fnExactIsNameUptoRow : OpenClaim := { program := "ytloehibfjpakeaa", sum := "e11ada4ecd6756954c679af95ca8b20c0369843dca7e7de862f06d9e8cc08580", func := "loop.example/g00952/laws.FnExactIsName", spec := "fnExactIsName", apart := false, narrowed := true }
def FnExactIsNameUptoSaid : Prop := fnExactIsNameUptoRow.holds Try.pinned (OpenSpec.upto fnExactIsNameSpec)

end Rows
end Go.Proofs.Ytloehibfjpakeaa
