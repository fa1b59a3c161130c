/- Contracts of a law's choices out of bytes, and of the source's making. -/
import Derived.Test.YtajlgclodjgiiaaSrc
import Derived.Test.YtajlgclodjgiiaaFreq
namespace Go.Proofs.Ytajlgclodjgiiaa
open Go.ChangeShapes Go.WideShapes Go.ChangeAt Go.RowKit

theorem from_is (A : Option Addr) (n c : Nat) (xs : List UInt8) (w : World) (hb : BytesAt w A n xs) :
    Calls Try.prog 79 #[.slice A n c] w fun e w' => ∃ g, e = .returned (.pointer (some ⟨g, 0, none⟩)) ∧ w.heap.size ≤ g ∧ SrcAt w' g A n c xs 0 0 ∧ Below w.heap.size w w' := by
  have HB := Lib.hid hb
  clear hb
  go_enter Try.func79, Try.ntmps79
  go_wp2
  go_ret
  refine ⟨w.heap.size, rfl, Nat.le_refl _, ?_, (Below.refl _ _).alloc (Nat.le_refl _) _⟩
  exact ⟨by simp, by go_simp, by go_simp, by go_simp, by go_simp, by go_simp, CellsAt.below HB.out ((Below.refl _ _).alloc (Nat.le_refl _) _), fun hn a ha e => by obtain ⟨b, off, ea, hlt, _⟩ := HB.out.2 hn; rw [ea] at ha; cases ha; simp at e; omega, by omega, by omega⟩
theorem b10Long_is (A : Option Addr) (n c : Nat) (w : World) : Calls Try.prog 41 #[.slice A n c] w fun e w' => e = .returned (.bool (decide (1048576 < (n : Int)))) ∧ w = w' := by
  go_enter Try.func41, Try.ntmps41
  go_wp2
  go_ret
  exact ⟨rfl, rfl⟩
theorem b10Abs_is (x : Int) (w : World) (h1 : -4611686018427387904 ≤ x) (h2 : x ≤ 4611686018427387904) : Calls Try.prog 45 #[.int .i64 x] w fun e w' => e = .returned (.int .i64 (absI x)) ∧ w = w' := by
  by_cases h : x < 0
  · have H : Hid (-x = absI x) := by
      show _ = _
      rcases absI_cases x with ⟨_, e⟩ | ⟨_, e⟩ <;> omega
    go_enter Try.func45, Try.ntmps45
    go_wp2
    go_ret
    exact ⟨ret_int H.out, rfl⟩
  · have H : Hid (x = absI x) := by
      show _ = _
      rcases absI_cases x with ⟨_, e⟩ | ⟨_, e⟩ <;> omega
    go_enter Try.func45, Try.ntmps45
    go_wp2
    go_ret
    exact ⟨ret_int H.out, rfl⟩
end Go.Proofs.Ytajlgclodjgiiaa
