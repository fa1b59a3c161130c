/- Slices of bytes: how they read. Conditions: what memory holds. -/
import Derived.Test.YtdmfmpfdkfijeaaDoorSlice
namespace Go.Proofs.YtdmfmpfdkfijeaaDoor
open Go.ChangeShapes Go.WideShapes Go.ChangeAt Go.RowKit
set_option maxRecDepth 100000

def bV (b : UInt8) : Value := .int .u8 (b.toNat : Int)
def BytesAt (w : World) (A : Option Addr) (n : Nat) (xs : List UInt8) : Prop := CellsAt w A n 1 (xs.map bV)
theorem BytesAt.at_ {w : World} {A : Option Addr} {n : Nat} {xs : List UInt8} (h : BytesAt w A n xs) {k : Nat} (hk : k < n) : ∃ b off x, A = some ⟨b, off, none⟩ ∧ b < w.heap.size ∧ xs[k]? = some x ∧ w.cell? ⟨b, off + k, none⟩ = some (.int .u8 (x.toNat : Int)) := by
  obtain ⟨b, off, e, hlt, hc⟩ := h.2 (by omega)
  have hl : xs.length = n := by have := h.1; simpa using this
  have hz : xs[k]? = some (xs[k]'(by omega)) := List.getElem?_eq_getElem (by omega)
  exact ⟨b, off, _, e, hlt, hz, hc k _ (by rw [List.getElem?_map, hz]; rfl)⟩
end Go.Proofs.YtdmfmpfdkfijeaaDoor
