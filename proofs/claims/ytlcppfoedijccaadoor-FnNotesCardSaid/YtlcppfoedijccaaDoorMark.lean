/- Contracts of the laws' marks on a slice of integers of their own: written, and found again. -/
import Derived.Test.YtlcppfoedijccaaDoorSlice
namespace Go.Proofs.YtlcppfoedijccaaDoor
open Go.ChangeShapes Go.WideShapes Go.ChangeAt Go.RowKit
set_option maxRecDepth 100000

/-- n numbers from k on. -/
def marks (k : Int) (n : Nat) : List Int := (List.range n).map fun (i : Nat) => k + (i : Int)
theorem marks_len (k : Int) (n : Nat) : (marks k n).length = n := by simp [marks]
theorem marks_get {k : Int} {n i : Nat} (h : i < n) : (marks k n)[i]? = some (k + i) := by simp [marks, h]

end Go.Proofs.YtlcppfoedijccaaDoor
