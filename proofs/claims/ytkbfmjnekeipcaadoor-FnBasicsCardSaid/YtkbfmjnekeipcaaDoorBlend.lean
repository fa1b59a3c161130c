/- Contracts of the line through two points, in the program and in the reference. -/
import Derived.Test.YtkbfmjnekeipcaaDoorFreq
namespace Go.Proofs.YtkbfmjnekeipcaaDoor
open Go.ChangeShapes Go.WideShapes Go.ChangeAt Go.RowKit
set_option maxRecDepth 100000

/-- The value at x of the line. -/
def lineV (x0 y0 x1 y1 x : Int) : Int := if x ≤ x0 ∨ x1 ≤ x0 then y0 else if x1 ≤ x then y1 else y0 + nearI ((y1 - y0) * (x - x0)) (x1 - x0)
theorem nearP_bd {x y : Int} (hx : 0 ≤ x) (hy : 0 < y) : 0 ≤ nearP x y ∧ nearP x y ≤ x + 1 := by
  have h1 := Int.ediv_nonneg hx (Int.le_of_lt hy)
  have h2 := Int.ediv_le_self y hx
  by_cases h : y - x % y ≤ x % y
  · rw [nearP_up hy h]; omega
  · rw [nearP_down hy (by omega)]; omega
theorem nearI_bd (a b : Int) (hb : b ≠ 0) : -(absI a + 1) ≤ nearI a b ∧ nearI a b ≤ absI a + 1 := by
  have hB : 0 < absI b := by rcases absI_cases b with ⟨_, e⟩ | ⟨_, e⟩ <;> omega
  have := nearP_bd (absI_nonneg a) hB
  unfold nearI
  split <;> omega
theorem mul_bd {a b A B : Int} (h1 : -A ≤ a) (h2 : a ≤ A) (h3 : 0 ≤ b) (h4 : b ≤ B) : -(A * B) ≤ a * b ∧ a * b ≤ A * B := by
  have hA : 0 ≤ A := by omega
  have e : A * b ≤ A * B := Int.mul_le_mul_of_nonneg_left h4 hA
  have e1 : a * b ≤ A * b := Int.mul_le_mul_of_nonneg_right h2 h3
  have e2 : -A * b ≤ a * b := Int.mul_le_mul_of_nonneg_right h1 h3
  rw [Int.neg_mul] at e2
  omega
/-- What the walk wants of a line between its points. -/
theorem line_facts {x0 y0 x1 y1 x : Int} (h0 : -1000000 ≤ x0) (h1 : x1 ≤ 1000000) (a0 : -1000000 ≤ y0) (a1 : y0 ≤ 1000000) (b0 : -1000000 ≤ y1) (b1 : y1 ≤ 1000000) (hx : x0 < x) (hx1 : x < x1) :
    -4000000000000 ≤ (y1 - y0) * (x - x0) ∧ (y1 - y0) * (x - x0) ≤ 4000000000000 ∧ -4000000000001 ≤ nearI ((y1 - y0) * (x - x0)) (x1 - x0) ∧ nearI ((y1 - y0) * (x - x0)) (x1 - x0) ≤ 4000000000001 := by
  have m := mul_bd (a := y1 - y0) (b := x - x0) (A := 2000000) (B := 2000000) (by omega) (by omega) (by omega) (by omega)
  have n := nearI_bd ((y1 - y0) * (x - x0)) (x1 - x0) (by omega)
  have := absI_cases ((y1 - y0) * (x - x0))
  omega

theorem lineV_a {x0 y0 x1 y1 x : Int} (h : x ≤ x0) : y0 = lineV x0 y0 x1 y1 x := by unfold lineV; rw [if_pos (.inl h)]
theorem lineV_b {x0 y0 x1 y1 x : Int} (h : x1 ≤ x0) : y0 = lineV x0 y0 x1 y1 x := by unfold lineV; rw [if_pos (.inr h)]
theorem lineV_c {x0 y0 x1 y1 x : Int} (h1 : ¬ x ≤ x0) (h2 : ¬ x1 ≤ x0) (h3 : x1 ≤ x) : y1 = lineV x0 y0 x1 y1 x := by unfold lineV; rw [if_neg (by omega), if_pos h3]
theorem lineV_d {x0 y0 x1 y1 x : Int} (h1 : ¬ x ≤ x0) (h2 : ¬ x1 ≤ x0) (h3 : ¬ x1 ≤ x) : y0 + nearI ((y1 - y0) * (x - x0)) (x1 - x0) = lineV x0 y0 x1 y1 x := by unfold lineV; rw [if_neg (by omega), if_neg h3]

set_option maxHeartbeats 1000000 in
theorem blend_any (x0 y0 x1 y1 x : Int) (w : World) (c0 : -1000000 ≤ x0) (c1 : x1 ≤ 1000000) (a0 : -1000000 ≤ y0) (a1 : y0 ≤ 1000000) (b0 : -1000000 ≤ y1) (b1 : y1 ≤ 1000000) :
    Calls Tryd.prog 61 #[.int .i64 x0, .int .i64 y0, .int .i64 x1, .int .i64 y1, .int .i64 x] w fun e w' => e = .returned (.int .i64 (lineV x0 y0 x1 y1 x)) ∧ ∃ n, w' = w.drewN n := by
  by_cases h1 : x ≤ x0
  · have H := Lib.hid (lineV_a (y0 := y0) (x1 := x1) (y1 := y1) h1)
    go_enter Tryd.func61, Tryd.ntmps61
    go_wp2
    go_ret
    exact ⟨ret_int H.out, 0, rfl⟩
  by_cases h2 : x1 ≤ x0
  · have H := Lib.hid (lineV_b (y0 := y0) (x := x) (y1 := y1) h2)
    have d1 : decide (x ≤ x0) = false := decide_eq_false h1
    go_enter Tryd.func61, Tryd.ntmps61
    go_wp2
    go_ret
    exact ⟨ret_int H.out, 0, rfl⟩
  by_cases h3 : x1 ≤ x
  · have H := Lib.hid (lineV_c (y0 := y0) (y1 := y1) h1 h2 h3)
    have d1 : decide (x ≤ x0) = false := decide_eq_false h1
    have d2 : decide (x1 ≤ x0) = false := decide_eq_false h2
    go_enter Tryd.func61, Tryd.ntmps61
    go_wp2
    go_ret
    exact ⟨ret_int H.out, 0, rfl⟩
  · have H := Lib.hid (lineV_d (y0 := y0) (y1 := y1) h1 h2 h3)
    have d1 : decide (x ≤ x0) = false := decide_eq_false h1
    have d2 : decide (x1 ≤ x0) = false := decide_eq_false h2
    have d3 : decide (x1 ≤ x) = false := decide_eq_false h3
    obtain ⟨m1, m2, m3, m4⟩ := line_facts (y1 := y1) (y0 := y0) c0 c1 a0 a1 b0 b1 (by omega) (show x < x1 by omega)
    go_enter Tryd.func61, Tryd.ntmps61
    go_wp2_with (go_at_call 59; refine (nearest_any _ _ (by omega) (by omega) (by omega) (by omega) (by omega) _).mono ?_; rintro e w' ⟨rfl, nq, rfl⟩)
    go_ret
    exact ⟨ret_int H.out, nq, rfl⟩

/-- All are small. -/
def allM (zs : List Int) : Bool := zs.all fun z => inB z (-1000000) 1000000
theorem allM_false {zs : List Int} {k : Nat} {z : Int} (h : zs[k]? = some z) (hz : inB z (-1000000) 1000000 = false) : allM zs = false := by
  unfold allM
  rw [List.all_eq_false]
  exact ⟨z, List.mem_of_getElem? h, by simp [hz]⟩
theorem allM4 {a b c d : Int} : allM [a, b, c, d] = true ↔ inB a (-1000000) 1000000 = true ∧ inB b (-1000000) 1000000 = true ∧ inB c (-1000000) 1000000 = true ∧ inB d (-1000000) 1000000 = true := by simp [allM]
theorem IntsAt.new4 (w : World) (x y z u : Int) (t : TypeId) : IntsAt (w.alloc (.cells #[.int .i64 x, .int .i64 y, .int .i64 z, .int .i64 u] t)) (some ⟨w.heap.size, 0, none⟩) 4 [x, y, z, u] := IntsAt.new w [x, y, z, u] t

set_option maxRecDepth 100000 in
set_option maxHeartbeats 1000000 in
theorem Blend_ok (x0 y0 x1 y1 x : Int) (w : World) (h : allM [x0, y0, x1, y1] = true) :
    Calls Tryd.prog 25 #[.int .i64 x0, .int .i64 y0, .int .i64 x1, .int .i64 y1, .int .i64 x] w fun e w' => e = .returned (.int .i64 (lineV x0 y0 x1 y1 x)) ∧ Below w.heap.size w w' := by
  obtain ⟨h1, h2, h3, h4⟩ := allM4.1 h
  obtain ⟨p1, p2⟩ := inB_bd h1
  obtain ⟨q1, q2⟩ := inB_bd h2
  obtain ⟨r1, r2⟩ := inB_bd h3
  obtain ⟨s1, s2⟩ := inB_bd h4
  clear h
  go_enter Tryd.func25, Tryd.ntmps25
  go_wp2
  go_loop [12, 19] (fun _ i => ∃ k : Nat, k ≤ 4 ∧ i = .int .i64 k) (fun _ i => 4 - (intOf i).toNat)
  case atStart => exact ⟨0, by omega, rfl⟩
  case round =>
    obtain ⟨k, hk, rfl⟩ := hrel
    by_cases hlt : k < 4
    · rcases (show k = 0 ∨ k = 1 ∨ k = 2 ∨ k = 3 from by omega) with rfl | rfl | rfl | rfl
      all_goals
        go_wp2_with (go_at_call 50; refine (within_is (by assumption) _).mono ?_; rintro e w' ⟨rfl, rfl⟩)
        go_round
        case rel => first | exact ⟨1, by omega, rfl⟩ | exact ⟨2, by omega, rfl⟩ | exact ⟨3, by omega, rfl⟩ | exact ⟨4, by omega, rfl⟩
        case measure => simp [intOf]
    · go_wp2_with (go_at_call 61; refine (blend_any _ _ _ _ _ _ p1 r2 q1 q2 s1 s2).mono ?_; rintro e w' ⟨rfl, nq, rfl⟩)
      go_ret
      exact ⟨rfl, below_drewN ((Below.refl _ _).alloc (Nat.le_refl _) _) _⟩
set_option maxRecDepth 100000 in
set_option maxHeartbeats 1000000 in
theorem Blend_no (x0 y0 x1 y1 x : Int) (w : World) (h : allM [x0, y0, x1, y1] = false) :
    Calls Tryd.prog 25 #[.int .i64 x0, .int .i64 y0, .int .i64 x1, .int .i64 y1, .int .i64 x] w fun e w' => e = .returned (.int .i64 0) ∧ Below w.heap.size w w' := by
  have HM := Lib.hid h
  clear h
  go_enter Tryd.func25, Tryd.ntmps25
  go_wp2
  go_loop [12, 19] (fun _ i => ∃ k : Nat, k ≤ 4 ∧ i = .int .i64 k ∧ (0 < k → inB x0 (-1000000) 1000000 = true) ∧ (1 < k → inB y0 (-1000000) 1000000 = true) ∧ (2 < k → inB x1 (-1000000) 1000000 = true) ∧ (3 < k → inB y1 (-1000000) 1000000 = true)) (fun _ i => 4 - (intOf i).toNat)
  case atStart => exact ⟨0, by omega, rfl, fun h => by omega, fun h => by omega, fun h => by omega, fun h => by omega⟩
  case round =>
    obtain ⟨k, hk, rfl, hall⟩ := hrel
    by_cases hlt : k < 4
    · rcases (show k = 0 ∨ k = 1 ∨ k = 2 ∨ k = 3 from by omega) with rfl | rfl | rfl | rfl
      · skip
        cases hB : inB x0 (-1000000) 1000000
        · clear hall
          go_wp2_with (go_at_call 50; refine (within_is hB _).mono ?_; rintro e w' ⟨rfl, rfl⟩)
          go_ret
          exact ⟨rfl, (Below.refl _ _).alloc (Nat.le_refl _) _⟩
        · have H := Lib.hid hall
          clear hall
          go_wp2_with (go_at_call 50; refine (within_is hB _).mono ?_; rintro e w' ⟨rfl, rfl⟩)
          go_round
          case rel => exact ⟨1, by omega, rfl, fun _ => (by first | exact hB | trivial), fun h => by omega, fun h => by omega, fun h => by omega⟩
          case measure => simp [intOf]
      · skip
        cases hB : inB y0 (-1000000) 1000000
        · clear hall
          go_wp2_with (go_at_call 50; refine (within_is hB _).mono ?_; rintro e w' ⟨rfl, rfl⟩)
          go_ret
          exact ⟨rfl, (Below.refl _ _).alloc (Nat.le_refl _) _⟩
        · have H := Lib.hid hall
          clear hall
          go_wp2_with (go_at_call 50; refine (within_is hB _).mono ?_; rintro e w' ⟨rfl, rfl⟩)
          go_round
          case rel => exact ⟨2, by omega, rfl, fun _ => H.out.1 (by omega), fun _ => (by first | exact hB | trivial), fun h => by omega, fun h => by omega⟩
          case measure => simp [intOf]
      · skip
        cases hB : inB x1 (-1000000) 1000000
        · clear hall
          go_wp2_with (go_at_call 50; refine (within_is hB _).mono ?_; rintro e w' ⟨rfl, rfl⟩)
          go_ret
          exact ⟨rfl, (Below.refl _ _).alloc (Nat.le_refl _) _⟩
        · have H := Lib.hid hall
          clear hall
          go_wp2_with (go_at_call 50; refine (within_is hB _).mono ?_; rintro e w' ⟨rfl, rfl⟩)
          go_round
          case rel => exact ⟨3, by omega, rfl, fun _ => H.out.1 (by omega), fun _ => H.out.2.1 (by omega), fun _ => (by first | exact hB | trivial), fun h => by omega⟩
          case measure => simp [intOf]
      · skip
        cases hB : inB y1 (-1000000) 1000000
        · clear hall
          go_wp2_with (go_at_call 50; refine (within_is hB _).mono ?_; rintro e w' ⟨rfl, rfl⟩)
          go_ret
          exact ⟨rfl, (Below.refl _ _).alloc (Nat.le_refl _) _⟩
        · have H := Lib.hid hall
          clear hall
          go_wp2_with (go_at_call 50; refine (within_is hB _).mono ?_; rintro e w' ⟨rfl, rfl⟩)
          go_round
          case rel => exact ⟨4, by omega, rfl, fun _ => H.out.1 (by omega), fun _ => H.out.2.1 (by omega), fun _ => H.out.2.2.1 (by omega), fun _ => (by first | exact hB | trivial)⟩
          case measure => simp [intOf]
    · exfalso
      have := allM4.2 ⟨hall.1 (by omega), hall.2.1 (by omega), hall.2.2.1 (by omega), hall.2.2.2 (by omega)⟩
      rw [HM.out] at this
      cases this
end Go.Proofs.YtkbfmjnekeipcaaDoor
