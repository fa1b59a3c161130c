/- Contracts of a law's choices out of bytes, and of the source's making. -/
import Derived.Test.YtkbfmjnekeipcaaGreatDoorSrc
import Derived.Test.YtkbfmjnekeipcaaGreatDoorFreq
namespace Go.Proofs.YtkbfmjnekeipcaaGreatDoor
open Go.ChangeShapes Go.WideShapes Go.ChangeAt Go.RowKit
set_option maxRecDepth 100000

theorem r8At_is (A : Option Addr) (n c : Nat) (xs : List UInt8) (k : Nat) (kn m : Int) (hkn : kn = (k : Int)) (w : World) (hb : BytesAt w A n xs) (hm : 1 ≤ m) :
    Calls Tryz.prog 7 #[.slice A n c, .int .i64 kn, .int .i64 m] w fun e w' => ∃ r : Int, e = .returned (.int .i64 r) ∧ 0 ≤ r ∧ r < m ∧ w = w' := by
  subst hkn
  by_cases h1 : m ≤ 1
  · obtain rfl : m = 1 := by omega
    clear hb
    go_enter Tryz.func7, Tryz.ntmps7
    go_wp2
    go_ret
    exact ⟨0, rfl, by omega, by omega, rfl⟩
  · by_cases hkn : k < n
    · obtain ⟨b, off, x, rfl, hbl, hx, hc⟩ := hb.at_ hkn
      have hkI : ¬ (n : Int) ≤ (k : Int) := by omega
      have hk0 : (0 : Int) ≤ (k : Int) := Int.natCast_nonneg _
      have hki : (k : Int) < (n : Int) := by omega
      have hx0 : (0 : Int) ≤ (x.toNat : Int) := Int.natCast_nonneg _
      have hx1 : (x.toNat : Int) ≤ 255 := by have := UInt8.toNat_lt x; omega
      have hne : m ≠ 0 := by omega
      clear hx hb
      go_enter Tryz.func7, Tryz.ntmps7
      go_wp2
      go_ret
      exact ⟨_, rfl, Int.emod_nonneg _ hne, Int.emod_lt_of_pos _ (by omega), rfl⟩
    · have hkI : (n : Int) ≤ (k : Int) := by omega
      clear hb
      go_enter Tryz.func7, Tryz.ntmps7
      go_wp2
      go_ret
      exact ⟨0, rfl, by omega, by omega, rfl⟩
theorem r8Long_is (A B : Option Addr) (n m c d : Nat) (w : World) : Calls Tryz.prog 5 #[.slice A n c, .slice B m d] w fun e w' => e = .returned (.bool (decide (1048576 < (n : Int)) || decide (1048576 < (m : Int)))) ∧ w = w' := by
  by_cases h1 : (1048576 : Int) < n
  · have HV : Hid ((decide (1048576 < (n : Int)) || decide (1048576 < (m : Int))) = true) := by show _ = _; simp [h1]
    go_enter Tryz.func5, Tryz.ntmps5
    go_wp2
    go_ret
    exact ⟨by first | rfl | (rw [HV.out]; rfl), rfl⟩
  · by_cases h2 : (1048576 : Int) < m
    · have HV : Hid ((decide (1048576 < (n : Int)) || decide (1048576 < (m : Int))) = true) := by show _ = _; simp [h2]
      go_enter Tryz.func5, Tryz.ntmps5
      go_wp2
      go_ret
      exact ⟨by first | rfl | (rw [HV.out]; rfl), rfl⟩
    · have HV : Hid ((decide (1048576 < (n : Int)) || decide (1048576 < (m : Int))) = false) := by show _ = _; simp [h1, h2]
      go_enter Tryz.func5, Tryz.ntmps5
      go_wp2
      go_ret
      exact ⟨by first | rfl | (rw [HV.out]; rfl), rfl⟩
theorem from_is (A : Option Addr) (n c : Nat) (xs : List UInt8) (w : World) (hb : BytesAt w A n xs) :
    Calls Tryz.prog 27 #[.slice A n c] w fun e w' => ∃ g, e = .returned (.pointer (some ⟨g, 0, none⟩)) ∧ w.heap.size ≤ g ∧ SrcAt w' g A n c xs 0 0 ∧ Below w.heap.size w w' := by
  have HB := Lib.hid hb
  clear hb
  go_enter Tryz.func27, Tryz.ntmps27
  go_wp2
  go_ret
  refine ⟨w.heap.size, rfl, Nat.le_refl _, ?_, (Below.refl _ _).alloc (Nat.le_refl _) _⟩
  exact ⟨by simp, by go_simp, by go_simp, by go_simp, by go_simp, by go_simp, CellsAt.below HB.out ((Below.refl _ _).alloc (Nat.le_refl _) _), fun hn a ha e => by obtain ⟨b, off, ea, hlt, _⟩ := HB.out.2 hn; rw [ea] at ha; cases ha; simp at e; omega, by omega, by omega⟩
theorem b10Long_is (A : Option Addr) (n c : Nat) (w : World) : Calls Tryz.prog 16 #[.slice A n c] w fun e w' => e = .returned (.bool (decide (1048576 < (n : Int)))) ∧ w = w' := by
  go_enter Tryz.func16, Tryz.ntmps16
  go_wp2
  go_ret
  exact ⟨rfl, rfl⟩
theorem r8Wide_is (A : Option Addr) (n c : Nat) (xs : List UInt8) (k : Nat) (kn m : Int) (hkn : kn = (k : Int)) (hk : k ≤ 100000) (w : World) (hb : BytesAt w A n xs) (hm : 2 ≤ m) :
    Calls Tryz.prog 12 #[.slice A n c, .int .i64 kn, .int .i64 m] w fun e w' => ∃ r : Int, e = .returned (.int .i64 r) ∧ 0 ≤ r ∧ r < m ∧ w = w' := by
  subst hkn
  have H1 := Lib.hid (r8At_is A n c xs k k 256 rfl w hb (by omega))
  have H2 := Lib.hid (r8At_is A n c xs (k + 1) ((k : Int) + 1) 256 (by omega) w hb (by omega))
  have hne : m ≠ 0 := by omega
  have hk0 : (0 : Int) ≤ (k : Int) := Int.natCast_nonneg _
  clear hb
  go_enter Tryz.func12, Tryz.ntmps12
  go_wp2_with fail
  refine H1.out.mono ?_
  rintro e w1 ⟨r1, rfl, a0, a1, rfl⟩
  go_wp2_with fail
  refine H2.out.mono ?_
  rintro e w1 ⟨r2, rfl, b0, b1, rfl⟩
  go_wp2
  go_ret
  exact ⟨_, rfl, Int.emod_nonneg _ hne, Int.emod_lt_of_pos _ (by omega), rfl⟩
end Go.Proofs.YtkbfmjnekeipcaaGreatDoor
