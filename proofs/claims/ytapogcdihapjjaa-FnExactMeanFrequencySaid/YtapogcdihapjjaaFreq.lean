/- Contracts of the functions on frequencies and quotients: beats, ratios, rounded division within bounds, lines through two points; in the program and in the reference. -/
import Derived.Test.YtapogcdihapjjaaDiv
import Derived.Test.YtapogcdihapjjaaSlice
namespace Go.Proofs.Ytapogcdihapjjaa
open Go.ChangeShapes Go.WideShapes Go.ChangeAt Go.RowKit

theorem IntsAt.new2 (w : World) (x y : Int) (t : TypeId) : IntsAt (w.alloc (.cells #[.int .i64 x, .int .i64 y] t)) (some ⟨w.heap.size, 0, none⟩) 2 [x, y] := IntsAt.new w [x, y] t
theorem allF2 {x y : Int} (hx : inB x 10000 20000000 = true) (hy : inB y 10000 20000000 = true) : allF [x, y] = true := by simp [allF, hx, hy]
theorem allF2_no {x y : Int} (h : inB x 10000 20000000 = false ∨ inB y 10000 20000000 = false) : allF [x, y] = false := by rcases h with h | h <;> simp [allF, h]
theorem areFreq_is {A : Option Addr} {n c : Nat} {zs : List Int} {r : Bool} (hr : allF zs = r) (w : World) (h : IntsAt w A n zs) (hn : n ≤ 4611686018427387904) :
    Calls Try.prog 46 #[.slice A n c] w fun e w' => e = .returned (.bool r) ∧ w = w' := hr ▸ areFreq_any A n c zs w h hn
theorem inB_bd {n lo hi : Int} (h : inB n lo hi = true) : lo ≤ n ∧ n ≤ hi := inB_iff.1 h

theorem beat_ok (f g : Int) (w : World) (hf : inB f 10000 20000000 = true) (hg : inB g 10000 20000000 = true) :
    Calls Try.prog 18 #[.int .i64 f, .int .i64 g] w fun e w' => e = .returned (.tuple #[.int .i64 (absI (f - g)), .int .i64 0]) ∧ Below w.heap.size w w' := by
  obtain ⟨f1, f2⟩ := inB_bd hf
  obtain ⟨g1, g2⟩ := inB_bd hg
  have hA := Lib.hid (allF2 hf hg)
  clear hf hg
  go_enter Try.func18, Try.ntmps18
  go_wp2_with (first
    | (go_at_call 46; refine (areFreq_is hA.out _ (IntsAt.new2 _ _ _ _) (by omega)).mono ?_; rintro e w' ⟨rfl, rfl⟩)
    | (go_at_call 47; refine (abs_any _ _ (by omega) (by omega)).mono ?_; rintro e w' ⟨rfl, rfl⟩))
  go_ret2
  exact ⟨rfl, (Below.refl _ _).alloc (Nat.le_refl _) _⟩
theorem beat_no (f g : Int) (w : World) (h : inB f 10000 20000000 = false ∨ inB g 10000 20000000 = false) :
    Calls Try.prog 18 #[.int .i64 f, .int .i64 g] w fun e w' => e = .returned (.tuple #[.int .i64 0, .int .i64 2]) ∧ Below w.heap.size w w' := by
  have hA := Lib.hid (allF2_no h)
  clear h
  go_enter Try.func18, Try.ntmps18
  go_wp2_with (go_at_call 46; refine (areFreq_is hA.out _ (IntsAt.new2 _ _ _ _) (by omega)).mono ?_; rintro e w' ⟨rfl, rfl⟩)
  go_ret2
  exact ⟨rfl, (Below.refl _ _).alloc (Nat.le_refl _) _⟩
theorem l02Beat_any (f g : Int) (w : World) (h1 : -4611686018427387904 ≤ f - g) (h2 : f - g ≤ 4611686018427387904) : Calls Try.prog 45 #[.int .i64 f, .int .i64 g] w fun e w' => e = .returned (.int .i64 (absI (f - g))) ∧ w = w' := by
  by_cases hlt : g - f < f - g
  · have H : Hid (f - g = absI (f - g)) := by
      show _ = _
      rcases absI_cases (f - g) with ⟨_, e⟩ | ⟨_, e⟩ <;> omega
    go_enter Try.func45, Try.ntmps45
    go_wp2
    go_ret
    exact ⟨ret_int H.out, rfl⟩
  · have H : Hid (g - f = absI (f - g)) := by
      show _ = _
      rcases absI_cases (f - g) with ⟨_, e⟩ | ⟨_, e⟩ <;> omega
    go_enter Try.func45, Try.ntmps45
    go_wp2
    go_ret
    exact ⟨ret_int H.out, rfl⟩
theorem beat_spec (f g : Int) (w : World) (hf : inB f 10000 20000000 = true) (hg : inB g 10000 20000000 = true) :
    Calls Try.prog 17 #[.int .i64 f, .int .i64 g] w fun e w' => e = .returned (.tuple #[.int .i64 (absI (f - g)), .int .i64 0]) ∧ w = w' := by
  obtain ⟨f1, f2⟩ := inB_bd hf
  obtain ⟨g1, g2⟩ := inB_bd hg
  go_enter Try.func17, Try.ntmps17
  go_wp2_with (first
    | (go_at_call 44; refine (l02Ok_is (by assumption) _).mono ?_; rintro e w' ⟨rfl, rfl⟩)
    | (go_at_call 45; refine (l02Beat_any _ _ _ (by omega) (by omega)).mono ?_; rintro e w' ⟨rfl, rfl⟩))
  go_ret2
  exact ⟨rfl, rfl⟩
theorem beat_spec_no (f g : Int) (w : World) (h : inB f 10000 20000000 = false ∨ inB g 10000 20000000 = false) :
    Calls Try.prog 17 #[.int .i64 f, .int .i64 g] w fun e w' => e = .returned (.tuple #[.int .i64 0, .int .i64 2]) ∧ w = w' := by
  cases hf : inB f 10000 20000000
  · clear h
    go_enter Try.func17, Try.ntmps17
    go_wp2_with (go_at_call 44; refine (l02Ok_is (by assumption) _).mono ?_; rintro e w' ⟨rfl, rfl⟩)
    go_ret2
    exact ⟨rfl, rfl⟩
  · have hg : inB g 10000 20000000 = false := h.resolve_left (by simp [hf])
    clear h
    go_enter Try.func17, Try.ntmps17
    go_wp2_with (go_at_call 44; refine (l02Ok_is (by assumption) _).mono ?_; rintro e w' ⟨rfl, rfl⟩)
    go_ret2
    exact ⟨rfl, rfl⟩
theorem beatTime_ok (f g : Int) (w : World) (hf : inB f 10000 20000000 = true) (hg : inB g 10000 20000000 = true) (hne : f ≠ g) :
    Calls Try.prog 30 #[.int .i64 f, .int .i64 g] w fun e w' => e = .returned (.tuple #[.int .i64 (nearI 1000000 (absI (f - g))), .int .i64 0]) ∧ Below w.heap.size w w' := by
  obtain ⟨f1, f2⟩ := inB_bd hf
  obtain ⟨g1, g2⟩ := inB_bd hg
  have a1 : 1 ≤ absI (f - g) := by rcases absI_cases (f - g) with ⟨_, e⟩ | ⟨_, e⟩ <;> omega
  have a2 : absI (f - g) ≤ 20000000 := by rcases absI_cases (f - g) with ⟨_, e⟩ | ⟨_, e⟩ <;> omega
  have a3 : (absI (f - g) == 0) = false := by rw [beq_eq_false_iff_ne]; omega
  go_enter Try.func30, Try.ntmps30
  go_wp2_with (first
    | (go_at_call 18; refine (beat_ok _ _ _ hf hg).mono ?_; rintro e w' ⟨rfl, hb⟩)
    | (go_at_call 50; refine (nearest_any _ _ (by omega) (by omega) (by omega) (by omega) (by omega) _).mono ?_; rintro e w' ⟨rfl, nq, rfl⟩))
  go_ret2
  exact ⟨rfl, below_drewN hb _⟩
theorem beatTime_same (f : Int) (w : World) (hf : inB f 10000 20000000 = true) :
    Calls Try.prog 30 #[.int .i64 f, .int .i64 f] w fun e w' => e = .returned (.tuple #[.int .i64 0, .int .i64 6]) ∧ Below w.heap.size w w' := by
  have a3 : (absI (f - f) == 0) = true := by rw [beq_iff_eq, Int.sub_self]; rfl
  go_enter Try.func30, Try.ntmps30
  go_wp2_with (go_at_call 18; refine (beat_ok _ _ _ hf hf).mono ?_; rintro e w' ⟨rfl, hb⟩)
  go_ret2
  exact ⟨rfl, hb⟩
theorem beatTime_no (f g : Int) (w : World) (h : inB f 10000 20000000 = false ∨ inB g 10000 20000000 = false) :
    Calls Try.prog 30 #[.int .i64 f, .int .i64 g] w fun e w' => e = .returned (.tuple #[.int .i64 0, .int .i64 2]) ∧ Below w.heap.size w w' := by
  have H := Lib.hid h
  clear h
  go_enter Try.func30, Try.ntmps30
  go_wp2_with (go_at_call 18; refine (beat_no _ _ _ H.out).mono ?_; rintro e w' ⟨rfl, hb⟩)
  go_ret2
  exact ⟨rfl, hb⟩
theorem isValue_is {a : Int} {r : Bool} (h : inB a (-1000000000000) 1000000000000 = r) (w : World) : Calls Try.prog 49 #[.int .i64 a] w fun e w' => e = .returned (.bool r) ∧ w = w' := by
  go_enter Try.func49, Try.ntmps49
  go_wp2_with (go_at_call 43; refine (within_is h _).mono ?_; rintro e w' ⟨rfl, rfl⟩)
  go_ret
  exact ⟨rfl, rfl⟩
theorem divRound_ok (a b : Int) (w : World) (hb : b ≠ 0) (h1 : inB a (-1000000000000) 1000000000000 = true) (h2 : inB b (-1000000000000) 1000000000000 = true) :
    Calls Try.prog 20 #[.int .i64 a, .int .i64 b] w fun e w' => e = .returned (.int .i64 (nearI a b)) ∧ Below w.heap.size w w' := by
  obtain ⟨a1, a2⟩ := inB_bd h1
  obtain ⟨b1, b2⟩ := inB_bd h2
  have hz : (b == 0) = false := by rw [beq_eq_false_iff_ne]; exact hb
  go_enter Try.func20, Try.ntmps20
  go_wp2_with (first
    | (go_at_call 49; refine (isValue_is (by assumption) _).mono ?_; rintro e w' ⟨rfl, rfl⟩)
    | (go_at_call 50; refine (nearest_any _ _ hb (by omega) (by omega) (by omega) (by omega) _).mono ?_; rintro e w' ⟨rfl, nq, rfl⟩))
  go_ret
  exact ⟨rfl, below_drewN (Below.refl _ _) _⟩
theorem divRound_no (a b : Int) (w : World) (h : b = 0 ∨ inB a (-1000000000000) 1000000000000 = false ∨ inB b (-1000000000000) 1000000000000 = false) :
    Calls Try.prog 20 #[.int .i64 a, .int .i64 b] w fun e w' => e = .returned (.int .i64 0) ∧ w = w' := by
  by_cases hb : b = 0
  · subst hb
    clear h
    go_enter Try.func20, Try.ntmps20
    go_wp2
    go_ret
    exact ⟨rfl, rfl⟩
  · have hz : (b == 0) = false := by rw [beq_eq_false_iff_ne]; exact hb
    replace h := h.resolve_left hb
    cases h1 : inB a (-1000000000000) 1000000000000
    · clear h
      go_enter Try.func20, Try.ntmps20
      go_wp2_with (go_at_call 49; refine (isValue_is (by assumption) _).mono ?_; rintro e w' ⟨rfl, rfl⟩)
      go_ret
      exact ⟨rfl, rfl⟩
    · have h2 := h.resolve_left (by simp [h1])
      clear h
      go_enter Try.func20, Try.ntmps20
      go_wp2_with (go_at_call 49; refine (isValue_is (by assumption) _).mono ?_; rintro e w' ⟨rfl, rfl⟩)
      go_ret
      exact ⟨rfl, rfl⟩

theorem beatTime_spec (f g : Int) (w : World) (hf : inB f 10000 20000000 = true) (hg : inB g 10000 20000000 = true) (hne : f ≠ g) :
    Calls Try.prog 29 #[.int .i64 f, .int .i64 g] w fun e w' => e = .returned (.tuple #[.int .i64 (nearI 1000000 (absI (f - g))), .int .i64 0]) ∧ w = w' := by
  obtain ⟨f1, f2⟩ := inB_bd hf
  obtain ⟨g1, g2⟩ := inB_bd hg
  have a1 : 1 ≤ absI (f - g) := by rcases absI_cases (f - g) with ⟨_, e⟩ | ⟨_, e⟩ <;> omega
  have a2 : absI (f - g) ≤ 20000000 := by rcases absI_cases (f - g) with ⟨_, e⟩ | ⟨_, e⟩ <;> omega
  have a3 : (f == g) = false := by rw [beq_eq_false_iff_ne]; exact hne
  go_enter Try.func29, Try.ntmps29
  go_wp2_with (first
    | (go_at_call 44; refine (l02Ok_is (by assumption) _).mono ?_; rintro e w' ⟨rfl, rfl⟩)
    | (go_at_call 45; refine (l02Beat_any _ _ _ (by omega) (by omega)).mono ?_; rintro e w' ⟨rfl, rfl⟩)
    | (go_at_call 48; refine (l01Div_any _ _ (by omega) (by omega) (by omega) (by omega) (by omega) _).mono ?_; rintro e w' ⟨rfl, rfl⟩))
  go_ret2
  exact ⟨rfl, rfl⟩
theorem beatTime_spec_same (f : Int) (w : World) (hf : inB f 10000 20000000 = true) :
    Calls Try.prog 29 #[.int .i64 f, .int .i64 f] w fun e w' => e = .returned (.tuple #[.int .i64 0, .int .i64 6]) ∧ w = w' := by
  go_enter Try.func29, Try.ntmps29
  go_wp2_with (go_at_call 44; refine (l02Ok_is (by assumption) _).mono ?_; rintro e w' ⟨rfl, rfl⟩)
  go_ret2
  exact ⟨rfl, rfl⟩
theorem beatTime_spec_no (f g : Int) (w : World) (h : inB f 10000 20000000 = false ∨ inB g 10000 20000000 = false) :
    Calls Try.prog 29 #[.int .i64 f, .int .i64 g] w fun e w' => e = .returned (.tuple #[.int .i64 0, .int .i64 2]) ∧ w = w' := by
  cases hf : inB f 10000 20000000
  · clear h
    go_enter Try.func29, Try.ntmps29
    go_wp2_with (go_at_call 44; refine (l02Ok_is (by assumption) _).mono ?_; rintro e w' ⟨rfl, rfl⟩)
    go_ret2
    exact ⟨rfl, rfl⟩
  · have hg : inB g 10000 20000000 = false := h.resolve_left (by simp [hf])
    clear h
    go_enter Try.func29, Try.ntmps29
    go_wp2_with (go_at_call 44; refine (l02Ok_is (by assumption) _).mono ?_; rintro e w' ⟨rfl, rfl⟩)
    go_ret2
    exact ⟨rfl, rfl⟩
theorem divRound_spec (a b : Int) (w : World) (hb : b ≠ 0) (h1 : inB a (-1000000000000) 1000000000000 = true) (h2 : inB b (-1000000000000) 1000000000000 = true) :
    Calls Try.prog 19 #[.int .i64 a, .int .i64 b] w fun e w' => e = .returned (.int .i64 (nearI a b)) ∧ w = w' := by
  obtain ⟨a1, a2⟩ := inB_bd h1
  obtain ⟨b1, b2⟩ := inB_bd h2
  have hz : (b == 0) = false := by rw [beq_eq_false_iff_ne]; exact hb
  go_enter Try.func19, Try.ntmps19
  go_wp2_with (first
    | (go_at_call 41; refine (l00In_is (by assumption) _).mono ?_; rintro e w' ⟨rfl, rfl⟩)
    | (go_at_call 48; refine (l01Div_any _ _ hb (by omega) (by omega) (by omega) (by omega) _).mono ?_; rintro e w' ⟨rfl, rfl⟩))
  go_ret
  exact ⟨rfl, rfl⟩
theorem divRound_spec_no (a b : Int) (w : World) (h : b = 0 ∨ inB a (-1000000000000) 1000000000000 = false ∨ inB b (-1000000000000) 1000000000000 = false) :
    Calls Try.prog 19 #[.int .i64 a, .int .i64 b] w fun e w' => e = .returned (.int .i64 0) ∧ w = w' := by
  by_cases hb : b = 0
  · subst hb
    clear h
    go_enter Try.func19, Try.ntmps19
    go_wp2
    go_ret
    exact ⟨rfl, rfl⟩
  · have hz : (b == 0) = false := by rw [beq_eq_false_iff_ne]; exact hb
    replace h := h.resolve_left hb
    cases h1 : inB a (-1000000000000) 1000000000000
    · clear h
      go_enter Try.func19, Try.ntmps19
      go_wp2_with (go_at_call 41; refine (l00In_is (by assumption) _).mono ?_; rintro e w' ⟨rfl, rfl⟩)
      go_ret
      exact ⟨rfl, rfl⟩
    · have h2 := h.resolve_left (by simp [h1])
      clear h
      go_enter Try.func19, Try.ntmps19
      go_wp2_with (go_at_call 41; refine (l00In_is (by assumption) _).mono ?_; rintro e w' ⟨rfl, rfl⟩)
      go_ret
      exact ⟨rfl, rfl⟩
end Go.Proofs.Ytapogcdihapjjaa
