/- A temperament as an argument opened: its name and its offsets. -/
import Derived.Test.YtdmfmpfdkfijeaaOpen
namespace Go.Proofs.Ytdmfmpfdkfijeaa
open Go.Joins Go.ChangeShapes Go.WideShapes Go.RowKit Go.Deep
set_option maxRecDepth 100000
section
variable {H : Type} {enc : TypeId × Value → H} {w : World} {base b0 : Nat} {spare : Nat → Bool} {held : Bool}
theorem cellsTemp : Try.prog.cellsOf 24 = 2 := by kernel_rfl
theorem open_temperament {W : World} {r : Reach} {v : Value} {d : DataW H} {p : List MemPlace} (hv : Value.okWide Try.prog W r b0 24 v) (h : DataW.Trod enc Try.prog W 0 (fun _ => true) true 24 v d p)
    (hlt : ∀ x ∈ p, x.block < W.heap.size) : ∃ (s : ByteArray) (A : Option Addr) (n c : Nat) (zs : List Int), v = .agg #[.string s, .slice A n c] ∧ s.size ≤ maxLen ∧ IntsAt W A n zs ∧ n ≤ maxLen := by
  obtain ⟨v0, v1, y0, y1, n, rfl, rfl, rfl, h0, h1⟩ := open_agg2 Try.underlying24 (by kernel_rfl) cellsTemp hv h
  obtain ⟨s, e0, e1, ws⟩ := DataW.trod_string Try.underlying9 h0
  simp only [List.cons.injEq, and_true] at e0
  subst e0
  rcases open_ints Try.underlying22 Try.underlying2 cellsInt h1 with ⟨hcs, hx⟩ | ⟨a, len', cap', zs, hcs, _, hl, hm, hz, hx, hcell, hwz⟩
  · simp only [List.cons.injEq, and_true] at hcs
    subst hcs
    exact ⟨s, none, 0, 0, [], rfl, ws, CellsAt.nil, Nat.zero_le _⟩
  · simp only [List.cons.injEq, and_true] at hcs
    subst hcs
    obtain ⟨zs', hz'⟩ := ints_of_trod h1 (fun y hy => hlt y (by simp [hy]))
    exact ⟨s, some a, len', cap', zs', rfl, ws, hz', by omega⟩
end
end Go.Proofs.Ytdmfmpfdkfijeaa
