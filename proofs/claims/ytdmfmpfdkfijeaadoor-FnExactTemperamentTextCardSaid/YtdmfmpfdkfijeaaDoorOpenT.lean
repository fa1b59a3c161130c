/- A temperament as an argument opened: its name and its offsets. -/
import Derived.Test.YtdmfmpfdkfijeaaDoorOpen
namespace Go.Proofs.YtdmfmpfdkfijeaaDoor
open Go.Joins Go.ChangeShapes Go.WideShapes Go.RowKit Go.Deep
set_option maxRecDepth 100000
section
variable {H : Type} {enc : TypeId × Value → H} {w : World} {base b0 : Nat} {spare : Nat → Bool} {held : Bool}
theorem cellsTemp : Tryd.prog.cellsOf 46 = 2 := by kernel_rfl
theorem open_temperament {W : World} {r : Reach} {v : Value} {d : DataW H} {p : List MemPlace} (hv : Value.okWide Tryd.prog W r b0 46 v) (h : DataW.Trod enc Tryd.prog W 0 (fun _ => true) true 46 v d p)
    (hlt : ∀ x ∈ p, x.block < W.heap.size) : ∃ (s : ByteArray) (A : Option Addr) (n c : Nat) (zs : List Int), v = .agg #[.string s, .slice A n c] ∧ s.size ≤ maxLen ∧ IntsAt W A n zs ∧ n ≤ maxLen := by
  obtain ⟨v0, v1, y0, y1, n, rfl, rfl, rfl, h0, h1⟩ := open_agg2 Tryd.underlying46 (by kernel_rfl) cellsTemp hv h
  obtain ⟨s, e0, e1, ws⟩ := DataW.trod_string Tryd.underlying9 h0
  simp only [List.cons.injEq, and_true] at e0
  subst e0
  rcases open_ints Tryd.underlying33 Tryd.underlying2 cellsInt h1 with ⟨hcs, hx⟩ | ⟨a, len', cap', zs, hcs, _, hl, hm, hz, hx, hcell, hwz⟩
  · simp only [List.cons.injEq, and_true] at hcs
    subst hcs
    exact ⟨s, none, 0, 0, [], rfl, ws, CellsAt.nil, Nat.zero_le _⟩
  · simp only [List.cons.injEq, and_true] at hcs
    subst hcs
    obtain ⟨zs', hz'⟩ := ints_of_trod h1 (fun y hy => hlt y (by simp [hy]))
    exact ⟨s, some a, len', cap', zs', rfl, ws, hz', by omega⟩
end
end Go.Proofs.YtdmfmpfdkfijeaaDoor
