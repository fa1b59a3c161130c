/- Contracts of the functions on frequencies and quotients: beats, ratios, rounded division within bounds, lines through two points; in the program and in the reference. -/
import Derived.Test.YtajlgclodjgiiaaDiv
import Derived.Test.YtajlgclodjgiiaaSlice
namespace Go.Proofs.Ytajlgclodjgiiaa
open Go.ChangeShapes Go.WideShapes Go.ChangeAt Go.RowKit

theorem IntsAt.new2 (w : World) (x y : Int) (t : TypeId) : IntsAt (w.alloc (.cells #[.int .i64 x, .int .i64 y] t)) (some ⟨w.heap.size, 0, none⟩) 2 [x, y] := IntsAt.new w [x, y] t
theorem allF2 {x y : Int} (hx : inB x 10000 20000000 = true) (hy : inB y 10000 20000000 = true) : allF [x, y] = true := by simp [allF, hx, hy]
theorem allF2_no {x y : Int} (h : inB x 10000 20000000 = false ∨ inB y 10000 20000000 = false) : allF [x, y] = false := by rcases h with h | h <;> simp [allF, h]
theorem areFreq_is {A : Option Addr} {n c : Nat} {zs : List Int} {r : Bool} (hr : allF zs = r) (w : World) (h : IntsAt w A n zs) (hn : n ≤ 4611686018427387904) :
    Calls Try.prog 53 #[.slice A n c] w fun e w' => e = .returned (.bool r) ∧ w = w' := hr ▸ areFreq_any A n c zs w h hn
theorem inB_bd {n lo hi : Int} (h : inB n lo hi = true) : lo ≤ n ∧ n ≤ hi := inB_iff.1 h

theorem beat_ok (f g : Int) (w : World) (hf : inB f 10000 20000000 = true) (hg : inB g 10000 20000000 = true) :
    Calls Try.prog 47 #[.int .i64 f, .int .i64 g] w fun e w' => e = .returned (.tuple #[.int .i64 (absI (f - g)), .int .i64 0]) ∧ Below w.heap.size w w' := by
  obtain ⟨f1, f2⟩ := inB_bd hf
  obtain ⟨g1, g2⟩ := inB_bd hg
  have hA := Lib.hid (allF2 hf hg)
  clear hf hg
  go_enter Try.func47, Try.ntmps47
  go_wp2_with (first
    | (go_at_call 53; refine (areFreq_is hA.out _ (IntsAt.new2 _ _ _ _) (by omega)).mono ?_; rintro e w' ⟨rfl, rfl⟩)
    | (go_at_call 78; refine (abs_any _ _ (by omega) (by omega)).mono ?_; rintro e w' ⟨rfl, rfl⟩))
  go_ret2
  exact ⟨rfl, (Below.refl _ _).alloc (Nat.le_refl _) _⟩
theorem beat_no (f g : Int) (w : World) (h : inB f 10000 20000000 = false ∨ inB g 10000 20000000 = false) :
    Calls Try.prog 47 #[.int .i64 f, .int .i64 g] w fun e w' => e = .returned (.tuple #[.int .i64 0, .int .i64 2]) ∧ Below w.heap.size w w' := by
  have hA := Lib.hid (allF2_no h)
  clear h
  go_enter Try.func47, Try.ntmps47
  go_wp2_with (go_at_call 53; refine (areFreq_is hA.out _ (IntsAt.new2 _ _ _ _) (by omega)).mono ?_; rintro e w' ⟨rfl, rfl⟩)
  go_ret2
  exact ⟨rfl, (Below.refl _ _).alloc (Nat.le_refl _) _⟩
theorem beatTime_ok (f g : Int) (w : World) (hf : inB f 10000 20000000 = true) (hg : inB g 10000 20000000 = true) (hne : f ≠ g) :
    Calls Try.prog 48 #[.int .i64 f, .int .i64 g] w fun e w' => e = .returned (.tuple #[.int .i64 (nearI 1000000 (absI (f - g))), .int .i64 0]) ∧ Below w.heap.size w w' := by
  obtain ⟨f1, f2⟩ := inB_bd hf
  obtain ⟨g1, g2⟩ := inB_bd hg
  have a1 : 1 ≤ absI (f - g) := by rcases absI_cases (f - g) with ⟨_, e⟩ | ⟨_, e⟩ <;> omega
  have a2 : absI (f - g) ≤ 20000000 := by rcases absI_cases (f - g) with ⟨_, e⟩ | ⟨_, e⟩ <;> omega
  have a3 : (absI (f - g) == 0) = false := by rw [beq_eq_false_iff_ne]; omega
  go_enter Try.func48, Try.ntmps48
  go_wp2_with (first
    | (go_at_call 47; refine (beat_ok _ _ _ hf hg).mono ?_; rintro e w' ⟨rfl, hb⟩)
    | (go_at_call 68; refine (nearest_any _ _ (by omega) (by omega) (by omega) (by omega) (by omega) _).mono ?_; rintro e w' ⟨rfl, nq, rfl⟩))
  go_ret2
  exact ⟨rfl, below_drewN hb _⟩
theorem beatTime_same (f : Int) (w : World) (hf : inB f 10000 20000000 = true) :
    Calls Try.prog 48 #[.int .i64 f, .int .i64 f] w fun e w' => e = .returned (.tuple #[.int .i64 0, .int .i64 6]) ∧ Below w.heap.size w w' := by
  have a3 : (absI (f - f) == 0) = true := by rw [beq_iff_eq, Int.sub_self]; rfl
  go_enter Try.func48, Try.ntmps48
  go_wp2_with (go_at_call 47; refine (beat_ok _ _ _ hf hf).mono ?_; rintro e w' ⟨rfl, hb⟩)
  go_ret2
  exact ⟨rfl, hb⟩
theorem beatTime_no (f g : Int) (w : World) (h : inB f 10000 20000000 = false ∨ inB g 10000 20000000 = false) :
    Calls Try.prog 48 #[.int .i64 f, .int .i64 g] w fun e w' => e = .returned (.tuple #[.int .i64 0, .int .i64 2]) ∧ Below w.heap.size w w' := by
  have H := Lib.hid h
  clear h
  go_enter Try.func48, Try.ntmps48
  go_wp2_with (go_at_call 47; refine (beat_no _ _ _ H.out).mono ?_; rintro e w' ⟨rfl, hb⟩)
  go_ret2
  exact ⟨rfl, hb⟩

end Go.Proofs.Ytajlgclodjgiiaa
