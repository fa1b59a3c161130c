/- Contracts of reading a number with a point: the reference's reader, and the program's two. -/
import Derived.Test.YtkbfmjnekeipcaaGreatDoorPointP
import Derived.Test.YtkbfmjnekeipcaaGreatDoorSplitS
import Derived.Test.YtkbfmjnekeipcaaGreatDoorNumS
import Derived.Test.YtkbfmjnekeipcaaGreatDoorNumI
namespace Go.Proofs.YtkbfmjnekeipcaaGreatDoor
open Go.ChangeShapes Go.WideShapes Go.ChangeAt Go.RowKit
set_option maxRecDepth 100000

theorem ret_pvb {a c : Int} {b d : Bool} (h : a = c) (h' : b = d) : Ending.returned (.tuple #[.int .i64 a, .bool b]) = .returned (.tuple #[.int .i64 c, .bool d]) := by rw [h, h']
theorem two_strs {w : World} {A : Option Addr} {p0 p1 : ByteArray} (h : StrsAt w A 2 [p0, p1]) : ∃ b off, A = some ⟨b, off, none⟩ ∧ b < w.heap.size ∧ w.cell? ⟨b, off, none⟩ = some (.string p0) ∧ w.cell? ⟨b, off + 1, none⟩ = some (.string p1) := by
  obtain ⟨b, off, x, e, hb, hx, hc⟩ := h.at_ (k := 0) (by omega)
  obtain ⟨b', off', x', e', hb', hx', hc'⟩ := h.at_ (k := 1) (by omega)
  rw [e] at e'
  cases e'
  cases hx
  cases hx'
  exact ⟨b, off, e, hb, hc, hc'⟩
theorem ptM_zero (p1 : ByteArray) (N : Int) : N * 10 ^ 0 + (valTo p1 0 0 : Int) = N := by rw [valTo_self]; omega
theorem ptM_succ {p1 : ByteArray} {k : Nat} {N : Int} (hk : k < p1.size) (h48 : 48 ≤ bt p1 k) : 10 * (N * 10 ^ k + (valTo p1 0 k : Int)) + ((bt p1 k : Int) - 48) = N * 10 ^ (k + 1) + (valTo p1 0 (k + 1) : Int) := by
  rw [valTo_succ (Nat.zero_le _) hk, Int.pow_succ]
  have h1 : N * (10 ^ k * 10) = 10 * (N * 10 ^ k) := by rw [← Int.mul_assoc, Int.mul_comm]
  rw [h1]
  omega
theorem ptM_bd {p1 : ByteArray} {k : Nat} {N : Int} (h0 : 0 ≤ N) (h1 : N ≤ 1000000) (hd : digTo p1 0 k) (hk : k ≤ p1.size) (h3 : k ≤ 3) : 0 ≤ N * 10 ^ k + (valTo p1 0 k : Int) ∧ N * 10 ^ k + (valTo p1 0 k : Int) ≤ 2000000000 := by
  have hv := valTo_lt hd hk
  rw [Nat.sub_zero] at hv
  have e0 : (10 : Int) ^ 0 = 1 := rfl
  have e1 : (10 : Int) ^ 1 = 10 := rfl
  have e2 : (10 : Int) ^ 2 = 100 := rfl
  have e3 : (10 : Int) ^ 3 = 1000 := rfl
  have f0 : (10 : Nat) ^ 0 = 1 := rfl
  have f1 : (10 : Nat) ^ 1 = 10 := rfl
  have f2 : (10 : Nat) ^ 2 = 100 := rfl
  have f3 : (10 : Nat) ^ 3 = 1000 := rfl
  rcases (show k = 0 ∨ k = 1 ∨ k = 2 ∨ k = 3 from by omega) with rfl | rfl | rfl | rfl <;> omega
end Go.Proofs.YtkbfmjnekeipcaaGreatDoor
