/- Contracts of the text of an interval. -/
import Derived.Test.YtlcppfoedijccaaDoorDec
import Derived.Test.YtlcppfoedijccaaDoorDiv
namespace Go.Proofs.YtlcppfoedijccaaDoor
open Go.ChangeShapes Go.WideShapes Go.ChangeAt Go.RowKit
set_option maxRecDepth 100000

theorem decDigits_le : ∀ (k u : Nat), u < 10 ^ (k + 1) → (Lib.decDigits u).length ≤ k + 1 := by
  intro k
  induction k with
  | zero => intro u h; rw [Lib.decDigits, dif_pos (by simpa using h)]; simp
  | succ k ih =>
    intro u h
    rw [Lib.decDigits]
    split
    · simp
    · have := ih (u / 10) (by rw [Nat.pow_succ] at h; omega)
      simp; omega
theorem decS_size {n : Int} (h : -9223372036854775808 ≤ n ∧ n ≤ 9223372036854775807) : (decS n).size ≤ 20 := by
  have h19 : (10 : Nat) ^ (18 + 1) = 10000000000000000000 := rfl
  show (Lib.itoa n).toArray.size ≤ 20
  unfold Lib.itoa
  split
  · have := decDigits_le 18 n.natAbs (by omega)
    simp; omega
  · have := decDigits_le 18 n.toNat (by omega)
    simp; omega
def centsT (sg : ByteArray) (m : Int) : ByteArray := sg ++ decS (m.tdiv 10) ++ ⟨#[46]⟩ ++ decS (m % 10)
def centsS (t : Int) : ByteArray := if inB t (-120000) 120000 then (if t < 0 then centsT ⟨#[45]⟩ (-t) else centsT ⟨#[43]⟩ t) else ⟨#[]⟩
theorem wf_of {a : Int} (h : -9223372036854775808 ≤ a ∧ a ≤ 9223372036854775807) : (Lit.int .i64 a).wf = true := by
  have h1 : IntKind.i64.min = -9223372036854775808 := rfl
  have h2 : IntKind.i64.max = 9223372036854775807 := rfl
  simp [Lit.wf]; omega
theorem parts10 {m : Int} (h0 : 0 ≤ m) (h1 : m ≤ 120000) : (Lit.int .i64 (m.tdiv 10)).wf = true ∧ (Lit.int .i64 (m % 10)).wf = true ∧ (0 ≤ m.tdiv 10 ∧ m.tdiv 10 ≤ 12000) ∧ 0 ≤ m % 10 ∧ m % 10 ≤ 9 := by
  have h2 : m.tdiv 10 = m / 10 := Int.tdiv_eq_ediv_of_nonneg h0
  have h3 : m.tmod 10 = m % 10 := Int.tmod_eq_emod_of_nonneg h0
  exact ⟨wf_of (by omega), wf_of (by omega), by omega, by omega⟩
end Go.Proofs.YtlcppfoedijccaaDoor
