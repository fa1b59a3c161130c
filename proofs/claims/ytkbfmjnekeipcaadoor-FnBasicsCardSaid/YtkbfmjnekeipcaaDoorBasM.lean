/- Rounded quotients and lines through two points, their bounds; contracts of the law's own small functions; lists of numbers are read back. -/
import Derived.Test.YtkbfmjnekeipcaaDoorBlend
import Derived.Test.YtkbfmjnekeipcaaDoorRoot
import Derived.Test.YtkbfmjnekeipcaaDoorListW
import Derived.Test.YtkbfmjnekeipcaaDoorFrom
import Derived.Test.YtkbfmjnekeipcaaDoorDrawN
namespace Go.Proofs.YtkbfmjnekeipcaaDoor
open Go.ChangeShapes Go.WideShapes Go.ChangeAt Go.RowKit
set_option maxRecDepth 100000

theorem nr_pos {a b : Int} (ha : 0 ≤ a) (hb : 0 < b) : nearI a b = (2 * a + b) / (2 * b) := by
  unfold nearI nearP
  rw [if_pos (by rw [eq_iff_iff]; omega), absI_pos ha, absI_pos (Int.le_of_lt hb)]
theorem nr_bd {a b : Int} (ha : 0 ≤ a) (hb : 0 < b) : 2 * a - b ≤ 2 * (nearI a b * b) ∧ 2 * (nearI a b * b) ≤ 2 * a + b ∧ 0 ≤ nearI a b := by
  rw [nr_pos ha hb]
  obtain ⟨q, hq⟩ : ∃ q, q = (2 * a + b) / (2 * b) := ⟨_, rfl⟩
  rw [← hq]
  have h1 : q * (2 * b) ≤ 2 * a + b := by rw [hq]; exact Int.ediv_mul_le _ (by omega)
  have h2 : 2 * a + b < (q + 1) * (2 * b) := by rw [hq]; exact Int.lt_ediv_add_one_mul_self _ (by omega)
  have h0 : 0 ≤ q := by rw [hq]; exact Int.ediv_nonneg (by omega) (by omega)
  have e1 : q * (2 * b) = 2 * (q * b) := by rw [← Int.mul_assoc, Int.mul_comm q 2, Int.mul_assoc]
  have e2 : (q + 1) * (2 * b) = 2 * (q * b) + 2 * b := by rw [Int.add_mul, e1, Int.one_mul]
  rw [e1] at h1
  rw [e2] at h2
  exact ⟨by omega, by omega, h0⟩
theorem nr_neg {a b : Int} (hb : 0 < b) : nearI (-a) b = -nearI a b := by
  rcases Int.lt_trichotomy a 0 with h | rfl | h
  · rw [nr_pos (a := -a) (by omega) hb]
    unfold nearI nearP
    rw [if_neg (by rw [eq_iff_iff]; omega), absI_neg h, absI_pos (Int.le_of_lt hb), Int.neg_neg]
  · rw [Int.neg_zero, nr_pos (by omega) hb]
    have : (2 * 0 + b) / (2 * b) = 0 := Int.ediv_eq_zero_of_lt (by omega) (by omega)
    rw [this]
    rfl
  · rw [nr_pos (a := a) (by omega) hb]
    unfold nearI nearP
    rw [if_neg (by rw [eq_iff_iff]; omega), absI_neg (by omega), absI_pos (Int.le_of_lt hb), Int.neg_neg]
/-- The quotient is the nearest one. -/
theorem nr_abs (a : Int) {b : Int} (hb : 0 < b) : 2 * absI (a - nearI a b * b) ≤ b ∧ 2 * absI (nearI a b * b) ≤ 2 * absI a + b := by
  rcases Int.le_total 0 a with h | h
  · obtain ⟨h1, h2, _⟩ := nr_bd h hb
    rcases absI_cases (a - nearI a b * b) with ⟨_, e⟩ | ⟨_, e⟩ <;> rcases absI_cases (nearI a b * b) with ⟨_, e'⟩ | ⟨_, e'⟩ <;> rcases absI_cases a with ⟨_, e''⟩ | ⟨_, e''⟩ <;> omega
  · obtain ⟨h1, h2, _⟩ := nr_bd (a := -a) (by omega) hb
    rw [nr_neg hb, Int.neg_mul] at h1 h2
    rcases absI_cases (a - nearI a b * b) with ⟨_, e⟩ | ⟨_, e⟩ <;> rcases absI_cases (nearI a b * b) with ⟨_, e'⟩ | ⟨_, e'⟩ <;> rcases absI_cases a with ⟨_, e''⟩ | ⟨_, e''⟩ <;> omega
/-- A line from 0 to 1000 stays between its ends. -/
theorem part_bd {D x : Int} (hD : 0 ≤ D) (h0 : 0 ≤ x) (h1 : x ≤ 999) : 0 ≤ nearI (D * x) 1000 ∧ nearI (D * x) 1000 ≤ D := by
  have hm : 0 ≤ D * x := Int.mul_nonneg hD h0
  have hm2 : D * x ≤ D * 999 := Int.mul_le_mul_of_nonneg_left h1 hD
  obtain ⟨a, b, c⟩ := nr_bd hm (show (0 : Int) < 1000 by omega)
  exact ⟨c, by omega⟩
theorem line_ends (y z : Int) : lineV 0 y 1000 z 0 = y ∧ lineV 0 y 1000 z 1000 = z := by
  constructor
  · unfold lineV; rw [if_pos (by omega)]
  · unfold lineV; rw [if_neg (by omega), if_pos (by omega)]
theorem line_between {y z x : Int} (h0 : 0 ≤ x) (h1 : x ≤ 999) : (y ≤ z → y ≤ lineV 0 y 1000 z x ∧ lineV 0 y 1000 z x ≤ z) ∧ (z ≤ y → z ≤ lineV 0 y 1000 z x ∧ lineV 0 y 1000 z x ≤ y) := by
  unfold lineV
  by_cases hx : x ≤ 0 ∨ (1000 : Int) ≤ 0
  · rw [if_pos hx]; omega
  · rw [if_neg hx, if_neg (by omega), Int.sub_zero, Int.sub_zero]
    constructor
    · intro h
      have := part_bd (D := z - y) (x := x) (by omega) h0 h1
      omega
    · intro h
      have := part_bd (D := y - z) (x := x) (by omega) h0 h1
      have e : (z - y) * x = -((y - z) * x) := by rw [← Int.neg_mul]; congr 1; omega
      rw [e, nr_neg (by omega)]
      omega
/-- A list of five small numbers is read back. -/
theorem five_back {a b x y z : Int} (ha : valB a = true) (hb : valB b = true) (hx : valB x = true) (hy : valB y = true) (hz : valB z = true) :
    (listS [a, b, x, y, z]).size ≤ 1048576 ∧ lstV (listS [a, b, x, y, z]) = [a, b, x, y, z] ∧ lstB (listS [a, b, x, y, z]) = true := by
  have hf : fitsB [a, b, x, y, z] = true := by simp [fitsB, ha, hb, hx, hy, hz]
  have e : listS [a, b, x, y, z] = listT [a, b, x, y, z] := by unfold listS; rw [if_pos hf]
  obtain ⟨y1, y2⟩ := lst_yes (s := listS [a, b, x, y, z]) (zs := [a, b, x, y, z]) ⟨hf, e.symm⟩
  refine ⟨?_, y1, y2⟩
  rw [e]
  unfold listT
  rw [if_neg (by simp)]
  have hs := joinB_size ([a, b, x, y, z].map decS) ⟨#[44]⟩ 20 (fun t ht => by
    obtain ⟨n, hn, rfl⟩ := List.mem_map.1 ht
    have hv : valB n = true := by
      simp only [List.mem_cons, List.mem_nil_iff, or_false] at hn
      rcases hn with rfl | rfl | rfl | rfl | rfl <;> assumption
    have := inB_iff.1 hv
    exact decS_size (by omega))
  have e1 : (⟨#[44]⟩ : ByteArray).size = 1 := rfl
  rw [e1] at hs
  simp at hs
  unfold listL
  simp
  omega
theorem r8Abs_is (x : Int) (w : World) (h1 : -4611686018427387904 ≤ x) (h2 : x ≤ 4611686018427387904) : Calls Tryd.prog 23 #[.int .i64 x] w fun e w' => e = .returned (.int .i64 (absI x)) ∧ w = w' := by
  have H : Hid (max x (-x) = absI x) := by
    show _ = _
    rcases absI_cases x with ⟨_, e⟩ | ⟨_, e⟩ <;> omega
  go_enter Tryd.func23, Tryd.ntmps23
  go_wp2
  go_ret
  exact ⟨ret_int H.out, rfl⟩
theorem r8Same_yes (A B : Option Addr) (n c d : Nat) (xs : List Int) (w : World) (ha : IntsAt w A n xs) (hb : IntsAt w B n xs) (hn : n ≤ 4611686018427387904) :
    Calls Tryd.prog 29 #[.slice A n c, .slice B n d] w fun e w' => e = .returned (.bool true) ∧ ∃ k, w' = w.drewN k := by
  go_enter Tryd.func29, Tryd.ntmps29
  go_wp2
  go_loopw [5] (fun i wr => ∃ (k q : Nat), k ≤ n ∧ i = .int .i64 k ∧ wr = w.drewN q) (fun i _ => n - (intOf i).toNat)
  case atStart => exact ⟨0, 0, Nat.zero_le _, rfl, rfl⟩
  case round =>
    obtain ⟨k, q, hk, rfl, rfl⟩ := hrel
    by_cases hlt : k < n
    · obtain ⟨b, off, x, rfl, _, hx, hcx⟩ := ha.at_ hlt
      obtain ⟨b', off', y, rfl, _, hy, hcy⟩ := hb.at_ hlt
      obtain rfl : x = y := Option.some.inj (hx.symm.trans hy)
      have hltI : (k : Int) < (n : Int) := by omega
      have hd : (x != x) = false := by simp
      clear hx hy
      go_wp2
      go_quiet (fail)
      go_wp2
      go_roundw
      case rel => exact ⟨k + 1, q + nq, by omega, by go_num, by first | rfl | rw [World.drewN_drewN]⟩
      case measure => simp [intOf]; omega
    · obtain rfl : k = n := by omega
      go_wp2
      go_ret
      exact ⟨rfl, q, rfl⟩
end Go.Proofs.YtkbfmjnekeipcaaDoor
