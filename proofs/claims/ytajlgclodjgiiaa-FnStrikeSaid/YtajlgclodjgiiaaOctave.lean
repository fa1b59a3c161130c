/- Contracts of the moving of a frequency by octaves, in the program and in the reference: the same steps. -/
import Derived.Test.YtajlgclodjgiiaaFreq
namespace Go.Proofs.Ytajlgclodjgiiaa
open Go.ChangeShapes Go.WideShapes Go.ChangeAt Go.RowKit

def halfK (f : Int) : Nat → Int
  | 0 => f
  | k + 1 => halfK f k / 2
def dblJ (g : Int) : Nat → Int
  | 0 => g
  | j + 1 => dblJ g j * 2
/-- The loop that lowers, behind k rounds. -/
def downRel (f base : Int) (k : Nat) (x : Int) : Prop := x = halfK f k ∧ (∀ i, i < k → 2 * base ≤ halfK f i) ∧ 1 ≤ x ∧ x + k ≤ 20000000
/-- The loop that raises, behind j rounds. -/
def upRel (g base : Int) (j : Nat) (y : Int) : Prop := y = dblJ g j ∧ (∀ i, i < j → dblJ g i < base) ∧ (j : Int) + 1 ≤ y ∧ y ≤ 40000000
/-- f is lowered by k octaves and then raised by j. -/
def redRel (f base : Int) (k j : Nat) : Prop :=
  (∀ i, i < k → 2 * base ≤ halfK f i) ∧ halfK f k < 2 * base ∧ (∀ i, i < j → dblJ (halfK f k) i < base) ∧ base ≤ dblJ (halfK f k) j
theorem redRel_unique {f base : Int} {k j k' j' : Nat} (h : redRel f base k j) (h' : redRel f base k' j') : k = k' ∧ j = j' := by
  obtain ⟨a1, a2, a3, a4⟩ := h
  obtain ⟨b1, b2, b3, b4⟩ := h'
  have hk : k = k' := by
    rcases Nat.lt_trichotomy k k' with hlt | he | hlt
    · have := b1 k hlt; omega
    · exact he
    · have := a1 k' hlt; omega
  subst hk
  refine ⟨rfl, ?_⟩
  rcases Nat.lt_trichotomy j j' with hlt | he | hlt
  · have := b3 j hlt; omega
  · exact he
  · have := a3 j' hlt; omega
theorem downRel_start {f base : Int} (h1 : 1 ≤ f) (h2 : f ≤ 20000000) : downRel f base 0 f := ⟨rfl, fun i hi => by omega, h1, by omega⟩
theorem downRel_succ {f base x : Int} {k : Nat} (hb : 10000 ≤ base) (h : downRel f base k x) (hx : 2 * base ≤ x) : downRel f base (k + 1) (x / 2) := by
  obtain ⟨e, h1, h2, h3⟩ := h
  refine ⟨by rw [e]; rfl, fun i hi => ?_, by omega, by omega⟩
  rcases Nat.lt_or_eq_of_le (Nat.le_of_lt_succ hi) with hlt | rfl
  · exact h1 i hlt
  · rw [← e]; exact hx
theorem upRel_start {f base x : Int} {k : Nat} (h : downRel f base k x) : upRel (halfK f k) base 0 x := ⟨h.1, fun i hi => by omega, by have := h.2.2.1; omega, by have := h.2.2.2; omega⟩
theorem upRel_succ {g base y : Int} {j : Nat} (hb : base ≤ 20000000) (h : upRel g base j y) (hy : y < base) : upRel g base (j + 1) (y * 2) := by
  obtain ⟨e, h1, h2, h3⟩ := h
  refine ⟨by rw [e]; rfl, fun i hi => ?_, by omega, by omega⟩
  rcases Nat.lt_or_eq_of_le (Nat.le_of_lt_succ hi) with hlt | rfl
  · exact h1 i hlt
  · rw [← e]; exact hy
theorem redRel_end {f base x y : Int} {k j : Nat} (hd : downRel f base k x) (hx : ¬ 2 * base ≤ x) (hu : upRel (halfK f k) base j y) (hy : ¬ y < base) : redRel f base k j :=
  ⟨hd.2.1, by rw [← hd.1]; omega, hu.2.1, by rw [← hu.1]; omega⟩

/-- What ReduceOctave returns. -/
def RedPost (f base : Int) (e : Ending) : Prop := ∃ k j : Nat, redRel f base k j ∧
  ((inB (dblJ (halfK f k) j) 10000 20000000 = true ∧ e = .returned (.tuple #[.int .i64 (dblJ (halfK f k) j), .int .i64 ((k : Int) - j), .int .i64 0])) ∨
   (inB (dblJ (halfK f k) j) 10000 20000000 = false ∧ e = .returned (.tuple #[.int .i64 0, .int .i64 0, .int .i64 2])))
theorem redPost_one {f base : Int} {a b : Ending} (h : RedPost f base a) (h' : RedPost f base b) : a = b := by
  obtain ⟨k, j, hr, hc⟩ := h
  obtain ⟨k', j', hr', hc'⟩ := h'
  obtain ⟨rfl, rfl⟩ := redRel_unique hr hr'
  rcases hc with ⟨i1, e1⟩ | ⟨i1, e1⟩ <;> rcases hc' with ⟨i2, e2⟩ | ⟨i2, e2⟩
  · rw [e1, e2]
  · rw [i1] at i2; cases i2
  · rw [i1] at i2; cases i2
  · rw [e1, e2]
theorem redPost_yes {f base x y : Int} {k j : Nat} (hd : downRel f base k x) (hx : ¬ 2 * base ≤ x) (hu : upRel (halfK f k) base j y) (hy : ¬ y < base) (hi : inB y 10000 20000000 = true) {z : Int} (hz : z = (k : Int) - j) :
    RedPost f base (.returned (.tuple #[.int .i64 y, .int .i64 z, .int .i64 0])) := by
  refine ⟨k, j, redRel_end hd hx hu hy, .inl ⟨by rw [← hu.1]; exact hi, by rw [← hu.1, hz]⟩⟩
theorem redPost_no {f base x y : Int} {k j : Nat} (hd : downRel f base k x) (hx : ¬ 2 * base ≤ x) (hu : upRel (halfK f k) base j y) (hy : ¬ y < base) (hi : inB y 10000 20000000 = false) :
    RedPost f base (.returned (.tuple #[.int .i64 0, .int .i64 0, .int .i64 2])) :=
  ⟨k, j, redRel_end hd hx hu hy, .inr ⟨by rw [← hu.1]; exact hi, rfl⟩⟩
theorem redPost_shape {f base : Int} {e : Ending} (h : RedPost f base e) : ∃ a b c : Int, e = .returned (.tuple #[.int .i64 a, .int .i64 b, .int .i64 c]) := by
  obtain ⟨k, j, _, ⟨_, rfl⟩ | ⟨_, rfl⟩⟩ := h
  · exact ⟨_, _, _, rfl⟩
  · exact ⟨_, _, _, rfl⟩

set_option maxRecDepth 100000 in
set_option maxHeartbeats 1000000 in
theorem reduce_ok (f base : Int) (w : World) (hf : inB f 10000 20000000 = true) (hb : inB base 10000 20000000 = true) :
    Calls Try.prog 51 #[.int .i64 f, .int .i64 base] w fun e w' => RedPost f base e ∧ Below w.heap.size w w' := by
  obtain ⟨f1, f2⟩ := inB_bd hf
  obtain ⟨b1, b2⟩ := inB_bd hb
  have hA := Lib.hid (allF2 hf hb)
  clear hf hb
  go_enter Try.func51, Try.ntmps51
  go_wp2_with (go_at_call 53; refine (areFreq_is hA.out _ (IntsAt.new2 _ _ _ _) (by omega)).mono ?_; rintro e w' ⟨rfl, rfl⟩)
  go_loop [0, 7] (fun x l => ∃ (k : Nat) (x' : Int), x = .int .i64 x' ∧ l = .int .i64 k ∧ downRel f base k x') (fun x _ => (intOf x).toNat)
  case atStart => exact ⟨0, f, rfl, rfl, downRel_start (by omega) f2⟩
  case round =>
    obtain ⟨k, x, rfl, rfl, hd⟩ := hrel
    have d1 := hd.2.2.1
    have d2 := hd.2.2.2
    by_cases hx : 2 * base ≤ x
    · have H := Lib.hid (downRel_succ b1 hd hx)
      clear hd
      go_wp2
      go_round
      case rel => exact ⟨k + 1, _, rfl, by go_num, H.out⟩
      case measure => simp [intOf]; omega
    · have HD := Lib.hid hd
      have HX := Lib.hid hx
      have hst := Lib.hid (upRel_start hd)
      clear hd
      go_wp2
      go_loop [0, 7] (fun y l => ∃ (j : Nat) (y' l' : Int), y = .int .i64 y' ∧ l = .int .i64 l' ∧ l' = (k : Int) - j ∧ upRel (halfK f k) base j y') (fun y _ => (base - intOf y).toNat)
      case atStart => exact ⟨0, x, k, rfl, rfl, by omega, hst.out⟩
      case round =>
        clear hst
        obtain ⟨j, y, l, rfl, rfl, hl, hu⟩ := hrel
        have u1 := hu.2.2.1
        have u2 := hu.2.2.2
        have l1 : -40000000 ≤ l := by omega
        have l2 : l ≤ 20000000 := by omega
        have HL := Lib.hid hl
        clear hl
        by_cases hy : y < base
        · have H := Lib.hid (upRel_succ b2 hu hy)
          clear hu
          go_wp2
          go_round
          case rel => exact ⟨j + 1, _, _, rfl, rfl, by have := HL.out; omega, H.out⟩
          case measure => simp [intOf]; omega
        · cases hi : inB y 10000 20000000
          · have H := Lib.hid (redPost_no HD.out (Int.not_le.2 HX.out) hu hy hi)
            clear hu
            go_wp2_with (go_at_call 69; refine (isFreq_is hi _).mono ?_; rintro e w' ⟨rfl, rfl⟩)
            go_ret3
            exact ⟨H.out, (Below.refl _ _).alloc (Nat.le_refl _) _⟩
          · have H := Lib.hid (redPost_yes HD.out (Int.not_le.2 HX.out) hu hy hi HL.out)
            clear hu
            go_wp2_with (go_at_call 69; refine (isFreq_is hi _).mono ?_; rintro e w' ⟨rfl, rfl⟩)
            go_ret3
            exact ⟨H.out, (Below.refl _ _).alloc (Nat.le_refl _) _⟩

theorem reduce_no (f base : Int) (w : World) (h : inB f 10000 20000000 = false ∨ inB base 10000 20000000 = false) :
    Calls Try.prog 51 #[.int .i64 f, .int .i64 base] w fun e w' => e = .returned (.tuple #[.int .i64 0, .int .i64 0, .int .i64 2]) ∧ Below w.heap.size w w' := by
  have hA := Lib.hid (allF2_no h)
  clear h
  go_enter Try.func51, Try.ntmps51
  go_wp2_with (go_at_call 53; refine (areFreq_is hA.out _ (IntsAt.new2 _ _ _ _) (by omega)).mono ?_; rintro e w' ⟨rfl, rfl⟩)
  go_ret3
  exact ⟨rfl, (Below.refl _ _).alloc (Nat.le_refl _) _⟩
end Go.Proofs.Ytajlgclodjgiiaa
