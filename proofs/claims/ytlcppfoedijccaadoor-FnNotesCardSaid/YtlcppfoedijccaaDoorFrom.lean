/- Contracts of a law's choices out of bytes, and of the source's making. -/
import Derived.Test.YtlcppfoedijccaaDoorSrc
import Derived.Test.YtlcppfoedijccaaDoorFreq
namespace Go.Proofs.YtlcppfoedijccaaDoor
open Go.ChangeShapes Go.WideShapes Go.ChangeAt Go.RowKit
set_option maxRecDepth 100000

theorem r8At_is (A : Option Addr) (n c : Nat) (xs : List UInt8) (k : Nat) (kn m : Int) (hkn : kn = (k : Int)) (w : World) (hb : BytesAt w A n xs) (hm : 1 ≤ m) :
    Calls Tryd.prog 6 #[.slice A n c, .int .i64 kn, .int .i64 m] w fun e w' => ∃ r : Int, e = .returned (.int .i64 r) ∧ 0 ≤ r ∧ r < m ∧ w = w' := by
  subst hkn
  by_cases h1 : m ≤ 1
  · obtain rfl : m = 1 := by omega
    clear hb
    go_enter Tryd.func6, Tryd.ntmps6
    go_wp2
    go_ret
    exact ⟨0, rfl, by omega, by omega, rfl⟩
  · by_cases hkn : k < n
    · obtain ⟨b, off, x, rfl, hbl, hx, hc⟩ := hb.at_ hkn
      have hkI : ¬ (n : Int) ≤ (k : Int) := by omega
      have hk0 : (0 : Int) ≤ (k : Int) := Int.natCast_nonneg _
      have hki : (k : Int) < (n : Int) := by omega
      have hx0 : (0 : Int) ≤ (x.toNat : Int) := Int.natCast_nonneg _
      have hx1 : (x.toNat : Int) ≤ 255 := by have := UInt8.toNat_lt x; omega
      have hne : m ≠ 0 := by omega
      clear hx hb
      go_enter Tryd.func6, Tryd.ntmps6
      go_wp2
      go_ret
      exact ⟨_, rfl, Int.emod_nonneg _ hne, Int.emod_lt_of_pos _ (by omega), rfl⟩
    · have hkI : (n : Int) ≤ (k : Int) := by omega
      clear hb
      go_enter Tryd.func6, Tryd.ntmps6
      go_wp2
      go_ret
      exact ⟨0, rfl, by omega, by omega, rfl⟩
theorem r8Long_is (A B : Option Addr) (n m c d : Nat) (w : World) : Calls Tryd.prog 4 #[.slice A n c, .slice B m d] w fun e w' => e = .returned (.bool (decide (1048576 < (n : Int)) || decide (1048576 < (m : Int)))) ∧ w = w' := by
  by_cases h1 : (1048576 : Int) < n
  · have HV : Hid ((decide (1048576 < (n : Int)) || decide (1048576 < (m : Int))) = true) := by show _ = _; simp [h1]
    go_enter Tryd.func4, Tryd.ntmps4
    go_wp2
    go_ret
    exact ⟨by first | rfl | (rw [HV.out]; rfl), rfl⟩
  · by_cases h2 : (1048576 : Int) < m
    · have HV : Hid ((decide (1048576 < (n : Int)) || decide (1048576 < (m : Int))) = true) := by show _ = _; simp [h2]
      go_enter Tryd.func4, Tryd.ntmps4
      go_wp2
      go_ret
      exact ⟨by first | rfl | (rw [HV.out]; rfl), rfl⟩
    · have HV : Hid ((decide (1048576 < (n : Int)) || decide (1048576 < (m : Int))) = false) := by show _ = _; simp [h1, h2]
      go_enter Tryd.func4, Tryd.ntmps4
      go_wp2
      go_ret
      exact ⟨by first | rfl | (rw [HV.out]; rfl), rfl⟩
theorem from_is (A : Option Addr) (n c : Nat) (xs : List UInt8) (w : World) (hb : BytesAt w A n xs) :
    Calls Tryd.prog 11 #[.slice A n c] w fun e w' => ∃ g, e = .returned (.pointer (some ⟨g, 0, none⟩)) ∧ w.heap.size ≤ g ∧ SrcAt w' g A n c xs 0 0 ∧ Below w.heap.size w w' := by
  have HB := Lib.hid hb
  clear hb
  go_enter Tryd.func11, Tryd.ntmps11
  go_wp2
  go_ret
  refine ⟨w.heap.size, rfl, Nat.le_refl _, ?_, (Below.refl _ _).alloc (Nat.le_refl _) _⟩
  exact ⟨by simp, by go_simp, by go_simp, by go_simp, by go_simp, by go_simp, CellsAt.below HB.out ((Below.refl _ _).alloc (Nat.le_refl _) _), fun hn a ha e => by obtain ⟨b, off, ea, hlt, _⟩ := HB.out.2 hn; rw [ea] at ha; cases ha; simp at e; omega, by omega, by omega⟩
end Go.Proofs.YtlcppfoedijccaaDoor
