/- Contracts of the raising of frequencies, in the program and in the reference: the least frequency that is high enough, or none. -/
import Derived.Test.YtkbfmjnekeipcaaGreatDoorLog
import Derived.Test.YtkbfmjnekeipcaaGreatDoorRaiseM
namespace Go.Proofs.YtkbfmjnekeipcaaGreatDoor
open Go.ChangeShapes Go.WideShapes Go.ChangeAt Go.RowKit
set_option maxRecDepth 100000

theorem floorDiv_any (a b : Int) (w : World) (hb : 0 < b) (ha0 : -4611686018427387904 ≤ a) (ha1 : a ≤ 4611686018427387904) (hb1 : b ≤ 4611686018427387904) : Calls Tryz.prog 95 #[.int .i64 a, .int .i64 b] w fun e w' => e = .returned (.int .i64 (a / b)) ∧ w = w' := by
  have hq := tdiv_bound a b
  have hq0 : -4611686018427387904 ≤ a.tdiv b := by rcases absI_cases (a.tdiv b) with ⟨_, e⟩ | ⟨_, e⟩ <;> rcases absI_cases a with ⟨_, e'⟩ | ⟨_, e'⟩ <;> omega
  have hq1 : a.tdiv b ≤ 4611686018427387904 := by rcases absI_cases (a.tdiv b) with ⟨_, e⟩ | ⟨_, e⟩ <;> rcases absI_cases a with ⟨_, e'⟩ | ⟨_, e'⟩ <;> omega
  clear hq
  have hz : (b == 0) = false := by rw [beq_eq_false_iff_ne]; omega
  by_cases h : a.tmod b < 0
  · have H := Lib.hid (floor_no hb h)
    have ha : a < 0 := by
      apply Int.not_le.1
      intro hle
      have := Int.tmod_nonneg b hle
      omega
    go_enter Tryz.func95, Tryz.ntmps95
    go_wp2
    go_ret
    exact ⟨ret_int H.out, rfl⟩
  · have H := Lib.hid (floor_yes hb h)
    go_enter Tryz.func95, Tryz.ntmps95
    go_wp2
    go_ret
    exact ⟨ret_int H.out, rfl⟩

theorem fineLog_lo (w : World) : Calls Tryz.prog 94 #[.int .i64 10000] w fun e w' => e = .returned (.int .i64 fineLo) ∧ w = w' := fineLog_any 10000 w (by decide) (by decide)
theorem fineLog_hi (w : World) : Calls Tryz.prog 94 #[.int .i64 20000000] w fun e w' => e = .returned (.int .i64 fineHi) ∧ w = w' := fineLog_any 20000000 w (by decide) (by decide)
theorem l02Fine_lo (w : World) : Calls Tryz.prog 139 #[.int .i64 10000] w fun e w' => e = .returned (.int .i64 fineLo) ∧ w = w' := l02Fine_any 10000 w (by decide) (by decide)
theorem l02Fine_hi (w : World) : Calls Tryz.prog 139 #[.int .i64 20000000] w fun e w' => e = .returned (.int .i64 fineHi) ∧ w = w' := l02Fine_any 20000000 w (by decide) (by decide)
theorem raiseOk_low {G : Int} (h : ¬ fineLo ≤ G) : raiseOk G = false := by unfold raiseOk; simp [h]
theorem raiseOk_bd {G : Int} (h : raiseOk G = true) : fineLo ≤ G ∧ G ≤ fineHi := by simpa [raiseOk] using h
theorem raiseOk_no {G : Int} (h : raiseOk G = false) : G < fineLo ∨ (fineLo ≤ G ∧ fineHi < G) := by
  simp only [raiseOk, Bool.and_eq_false_iff, decide_eq_false_iff_not] at h
  omega

set_option maxRecDepth 100000 in
set_option maxHeartbeats 1000000 in
theorem raise_ok (f t G : Int) (w : World) (hf : inB f 10000 20000000 = true) (ht : inB t (-120000) 120000 = true) (hG : fineV f - -t * 16777216 / 12000 = G) (hok : raiseOk G = true) :
    Calls Tryz.prog 76 #[.int .i64 f, .int .i64 t] w fun e w' => e = .returned (.tuple #[.int .i64 (raiseV G), .bool true]) ∧ w = w' := by
  obtain ⟨f1, f2⟩ := inB_bd hf
  obtain ⟨t1, t2⟩ := inB_bd ht
  obtain ⟨v1, v2⟩ := fineV_bd (n := f) (by omega) (by omega)
  obtain ⟨g1, g2⟩ := raiseOk_bd hok
  clear hf ht
  go_enter Tryz.func76, Tryz.ntmps76
  go_wp2_with (first
    | (go_at_call_of 94 (10000 : Int); refine (fineLog_lo _).mono ?_; rintro e w' ⟨rfl, rfl⟩)
    | (go_at_call_of 94 (20000000 : Int); refine (fineLog_hi _).mono ?_; rintro e w' ⟨rfl, rfl⟩)
    | (go_at_call_of 94 f; refine (fineLog_any f _ (by omega) (by omega)).mono ?_; rintro e w' ⟨rfl, rfl⟩)
    | (go_at_call 95; refine (floorDiv_any _ _ _ (by omega) (by omega) (by omega) (by omega)).mono ?_; rintro e w' ⟨rfl, rfl⟩))
  go_loop [7, 8, 9] (fun l h _ => ∃ l' h' : Int, l = .int .i64 l' ∧ h = .int .i64 h' ∧ seekRel G l' h') (fun l h _ => (intOf h - intOf l).toNat)
  case atStart => exact ⟨10000, 20000000, rfl, rfl, seekRel_start hok⟩
  case round =>
    clear hok g1 g2
    obtain ⟨l, h, rfl, rfl, hr⟩ := hrel
    have b0 := hr.1
    have b1 := hr.2.1
    have b2 := hr.2.2.1
    by_cases hlt : l < h
    · have m1 : l ≤ (l + h) / 2 := by omega
      have m2 : (l + h) / 2 < h := by omega
      by_cases hy : G ≤ fineV ((l + h) / 2)
      · have H := Lib.hid (seekRel_yes hr m1 m2 hy)
        clear hr
        go_wp2_with (go_at_call 94; refine (fineLog_any _ _ (by omega) (by omega)).mono ?_; rintro e w' ⟨rfl, rfl⟩)
        go_round
        case rel => exact ⟨_, _, rfl, rfl, H.out⟩
        case measure => simp [intOf]; omega
      · have H := Lib.hid (seekRel_no hr m1 m2 hy)
        clear hr
        go_wp2_with (go_at_call 94; refine (fineLog_any _ _ (by omega) (by omega)).mono ?_; rintro e w' ⟨rfl, rfl⟩)
        go_round
        case rel => exact ⟨_, _, rfl, rfl, H.out⟩
        case measure => simp [intOf]; omega
    · have H := Lib.hid (raiseV_eq (seekRel_end hr hlt))
      clear hr
      go_wp2
      go_ret2
      exact ⟨ret_ib H.out rfl, rfl⟩
theorem raise_no (f t G : Int) (w : World) (hf : inB f 10000 20000000 = true) (ht : inB t (-120000) 120000 = true) (hG : fineV f - -t * 16777216 / 12000 = G) (hno : raiseOk G = false) :
    Calls Tryz.prog 76 #[.int .i64 f, .int .i64 t] w fun e w' => e = .returned (.tuple #[.int .i64 0, .bool false]) ∧ w = w' := by
  obtain ⟨f1, f2⟩ := inB_bd hf
  obtain ⟨t1, t2⟩ := inB_bd ht
  obtain ⟨v1, v2⟩ := fineV_bd (n := f) (by omega) (by omega)
  rcases raiseOk_no hno with h | ⟨h1, h⟩
  all_goals
    clear hf ht hno
    go_enter Tryz.func76, Tryz.ntmps76
    go_wp2_with (first
      | (go_at_call_of 94 (10000 : Int); refine (fineLog_lo _).mono ?_; rintro e w' ⟨rfl, rfl⟩)
      | (go_at_call_of 94 (20000000 : Int); refine (fineLog_hi _).mono ?_; rintro e w' ⟨rfl, rfl⟩)
      | (go_at_call_of 94 f; refine (fineLog_any f _ (by omega) (by omega)).mono ?_; rintro e w' ⟨rfl, rfl⟩)
      | (go_at_call 95; refine (floorDiv_any _ _ _ (by omega) (by omega) (by omega) (by omega)).mono ?_; rintro e w' ⟨rfl, rfl⟩))
    go_ret2
    exact ⟨rfl, rfl⟩

theorem up_cases (t : Int) : (0 < t ∧ t * 16777216 / 12000 * 12000 < t * 16777216 ∧ t * 16777216 / 12000 + 1 = upV t) ∨ (0 < t ∧ ¬ t * 16777216 / 12000 * 12000 < t * 16777216 ∧ t * 16777216 / 12000 = upV t) ∨ (¬ 0 < t ∧ (t * 16777216).tdiv 12000 = upV t) := by
  by_cases h : 0 < t
  · by_cases h2 : t * 16777216 / 12000 * 12000 < t * 16777216
    · exact .inl ⟨h, h2, by unfold upV; omega⟩
    · exact .inr (.inl ⟨h, h2, by unfold upV; omega⟩)
  · right; right
    refine ⟨h, ?_⟩
    obtain ⟨s, rfl⟩ : ∃ s, t = -s := ⟨-t, by omega⟩
    rw [Int.neg_mul, Int.neg_tdiv, Int.tdiv_eq_ediv_of_nonneg (by omega)]
    unfold upV
    rw [Int.neg_neg]

set_option maxRecDepth 100000 in
set_option maxHeartbeats 2000000 in
theorem l02Raise_core (f t U G : Int) (w : World) (hf : inB f 10000 20000000 = true) (ht : inB t (-120000) 120000 = true) (u1 : -167772160 ≤ U) (u2 : U ≤ 167772160) (hG : fineV f + U = G) (hok : raiseOk G = true)
    (hc : (0 < t ∧ t * 16777216 / 12000 * 12000 < t * 16777216 ∧ t * 16777216 / 12000 + 1 = U) ∨ (0 < t ∧ ¬ t * 16777216 / 12000 * 12000 < t * 16777216 ∧ t * 16777216 / 12000 = U) ∨ (¬ 0 < t ∧ (t * 16777216).tdiv 12000 = U)) :
    Calls Tryz.prog 123 #[.int .i64 f, .int .i64 t] w fun e w' => e = .returned (.tuple #[.int .i64 (raiseV G), .bool true]) ∧ w = w' := by
  obtain ⟨f1, f2⟩ := inB_bd hf
  obtain ⟨t1, t2⟩ := inB_bd ht
  obtain ⟨v1, v2⟩ := fineV_bd (n := f) (by omega) (by omega)
  obtain ⟨g1, g2⟩ := raiseOk_bd hok
  clear hf ht
  rcases hc with ⟨c1, c2, c3⟩ | ⟨c1, c2, c3⟩ | ⟨c1, c3⟩
  case' inr.inl => rw [c3] at c2
  all_goals
    go_enter Tryz.func123, Tryz.ntmps123
    go_wp2_with (first
      | (go_at_call_of 139 (10000 : Int); refine (l02Fine_lo _).mono ?_; rintro e w' ⟨rfl, rfl⟩)
      | (go_at_call_of 139 (20000000 : Int); refine (l02Fine_hi _).mono ?_; rintro e w' ⟨rfl, rfl⟩)
      | (go_at_call_of 139 f; refine (l02Fine_any f _ (by omega) (by omega)).mono ?_; rintro e w' ⟨rfl, rfl⟩))
    go_loop [8, 9, 10] (fun l h _ => ∃ l' h' : Int, l = .int .i64 l' ∧ h = .int .i64 h' ∧ seekRel G l' h') (fun l h _ => (intOf h - intOf l).toNat)
    case atStart => exact ⟨10000, 20000000, rfl, rfl, seekRel_start hok⟩
    case round =>
      clear hok g1 g2 c1 c3
      obtain ⟨l, h, rfl, rfl, hr⟩ := hrel
      have b0 := hr.1
      have b1 := hr.2.1
      have b2 := hr.2.2.1
      by_cases hlt : l < h
      · have m1 : l ≤ (l + h) / 2 := by omega
        have m2 : (l + h) / 2 < h := by omega
        by_cases hy : G ≤ fineV ((l + h) / 2)
        · have H := Lib.hid (seekRel_yes hr m1 m2 hy)
          clear hr
          go_wp2_with (go_at_call 139; refine (l02Fine_any _ _ (by omega) (by omega)).mono ?_; rintro e w' ⟨rfl, rfl⟩)
          go_round
          case rel => exact ⟨_, _, rfl, rfl, H.out⟩
          case measure => simp [intOf]; omega
        · have H := Lib.hid (seekRel_no hr m1 m2 hy)
          clear hr
          go_wp2_with (go_at_call 139; refine (l02Fine_any _ _ (by omega) (by omega)).mono ?_; rintro e w' ⟨rfl, rfl⟩)
          go_round
          case rel => exact ⟨_, _, rfl, rfl, H.out⟩
          case measure => simp [intOf]; omega
      · have H := Lib.hid (raiseV_eq (seekRel_end hr hlt))
        clear hr
        go_wp2
        go_ret2
        exact ⟨ret_ib H.out rfl, rfl⟩
set_option maxRecDepth 100000 in
set_option maxHeartbeats 2000000 in
theorem l02Raise_core_no (f t U G : Int) (w : World) (hf : inB f 10000 20000000 = true) (ht : inB t (-120000) 120000 = true) (u1 : -167772160 ≤ U) (u2 : U ≤ 167772160) (hG : fineV f + U = G) (hno : raiseOk G = false)
    (hc : (0 < t ∧ t * 16777216 / 12000 * 12000 < t * 16777216 ∧ t * 16777216 / 12000 + 1 = U) ∨ (0 < t ∧ ¬ t * 16777216 / 12000 * 12000 < t * 16777216 ∧ t * 16777216 / 12000 = U) ∨ (¬ 0 < t ∧ (t * 16777216).tdiv 12000 = U)) :
    Calls Tryz.prog 123 #[.int .i64 f, .int .i64 t] w fun e w' => e = .returned (.tuple #[.int .i64 0, .bool false]) ∧ w = w' := by
  obtain ⟨f1, f2⟩ := inB_bd hf
  obtain ⟨t1, t2⟩ := inB_bd ht
  obtain ⟨v1, v2⟩ := fineV_bd (n := f) (by omega) (by omega)
  have hn := raiseOk_no hno
  clear hf ht hno
  rcases hc with ⟨c1, c2, c3⟩ | ⟨c1, c2, c3⟩ | ⟨c1, c3⟩
  case' inr.inl => rw [c3] at c2
  all_goals rcases hn with h | ⟨h1, h⟩
  all_goals
    go_enter Tryz.func123, Tryz.ntmps123
    go_wp2_with (first
      | (go_at_call_of 139 (10000 : Int); refine (l02Fine_lo _).mono ?_; rintro e w' ⟨rfl, rfl⟩)
      | (go_at_call_of 139 (20000000 : Int); refine (l02Fine_hi _).mono ?_; rintro e w' ⟨rfl, rfl⟩)
      | (go_at_call_of 139 f; refine (l02Fine_any f _ (by omega) (by omega)).mono ?_; rintro e w' ⟨rfl, rfl⟩))
    go_ret2
    exact ⟨rfl, rfl⟩
theorem l02Raise_ok (f t : Int) (w : World) (hf : inB f 10000 20000000 = true) (ht : inB t (-120000) 120000 = true) (hok : raiseOk (goalV f t) = true) :
    Calls Tryz.prog 123 #[.int .i64 f, .int .i64 t] w fun e w' => e = .returned (.tuple #[.int .i64 (raiseV (goalV f t)), .bool true]) ∧ w = w' := by
  obtain ⟨t1, t2⟩ := inB_bd ht
  obtain ⟨u1, u2, _, _⟩ := upV_bd t1 t2
  exact l02Raise_core f t (upV t) (goalV f t) w hf ht u1 u2 rfl hok (up_cases t)
theorem l02Raise_no (f t : Int) (w : World) (hf : inB f 10000 20000000 = true) (ht : inB t (-120000) 120000 = true) (hno : raiseOk (goalV f t) = false) :
    Calls Tryz.prog 123 #[.int .i64 f, .int .i64 t] w fun e w' => e = .returned (.tuple #[.int .i64 0, .bool false]) ∧ w = w' := by
  obtain ⟨t1, t2⟩ := inB_bd ht
  obtain ⟨u1, u2, _, _⟩ := upV_bd t1 t2
  exact l02Raise_core_no f t (upV t) (goalV f t) w hf ht u1 u2 rfl hno (up_cases t)

theorem goal_sub (f t : Int) : fineV f - -t * 16777216 / 12000 = goalV f t := by unfold goalV upV; omega
theorem isInterval_is {t : Int} {r : Bool} (h : inB t (-120000) 120000 = r) (w : World) : Calls Tryz.prog 75 #[.int .i64 t] w fun e w' => e = .returned (.bool r) ∧ w = w' := by
  go_enter Tryz.func75, Tryz.ntmps75
  go_wp2_with (go_at_call 71; refine (within_is h _).mono ?_; rintro e w' ⟨rfl, rfl⟩)
  go_ret
  exact ⟨rfl, rfl⟩
/-- Raising is possible. -/
def raiseB (f t : Int) : Bool := inB f 10000 20000000 && (inB t (-120000) 120000 && raiseOk (goalV f t))
theorem raiseB_yes {f t : Int} (h : raiseB f t = true) : inB f 10000 20000000 = true ∧ inB t (-120000) 120000 = true ∧ raiseOk (goalV f t) = true := by simpa [raiseB] using h
theorem raiseB_no {f t : Int} (h : raiseB f t = false) : inB f 10000 20000000 = false ∨ (inB f 10000 20000000 = true ∧ inB t (-120000) 120000 = false) ∨ (inB f 10000 20000000 = true ∧ inB t (-120000) 120000 = true ∧ raiseOk (goalV f t) = false) := by
  unfold raiseB at h
  revert h
  cases inB f 10000 20000000 <;> cases inB t (-120000) 120000 <;> simp
theorem Raise_ok (f t : Int) (w : World) (h : raiseB f t = true) : Calls Tryz.prog 36 #[.int .i64 f, .int .i64 t] w fun e w' => e = .returned (.tuple #[.int .i64 (raiseV (goalV f t)), .int .i64 0]) ∧ w = w' := by
  obtain ⟨h1, h2, h3⟩ := raiseB_yes h
  clear h
  go_enter Tryz.func36, Tryz.ntmps36
  go_wp2_with (first
    | (go_at_call 41; refine (isFreq_is h1 _).mono ?_; rintro e w' ⟨rfl, rfl⟩)
    | (go_at_call 75; refine (isInterval_is h2 _).mono ?_; rintro e w' ⟨rfl, rfl⟩)
    | (go_at_call 76; refine (raise_ok _ _ _ _ h1 h2 (goal_sub _ _) h3).mono ?_; rintro e w' ⟨rfl, rfl⟩))
  go_ret2
  exact ⟨rfl, rfl⟩
theorem Raise_no (f t : Int) (w : World) (h : raiseB f t = false) : Calls Tryz.prog 36 #[.int .i64 f, .int .i64 t] w fun e w' => e = .returned (.tuple #[.int .i64 0, .int .i64 2]) ∧ w = w' := by
  rcases raiseB_no h with h1 | ⟨h1, h2⟩ | ⟨h1, h2, h3⟩
  · clear h
    go_enter Tryz.func36, Tryz.ntmps36
    go_wp2_with (go_at_call 41; refine (isFreq_is h1 _).mono ?_; rintro e w' ⟨rfl, rfl⟩)
    go_ret2
    exact ⟨rfl, rfl⟩
  · clear h
    go_enter Tryz.func36, Tryz.ntmps36
    go_wp2_with (first
      | (go_at_call 41; refine (isFreq_is h1 _).mono ?_; rintro e w' ⟨rfl, rfl⟩)
      | (go_at_call 75; refine (isInterval_is h2 _).mono ?_; rintro e w' ⟨rfl, rfl⟩))
    go_ret2
    exact ⟨rfl, rfl⟩
  · clear h
    go_enter Tryz.func36, Tryz.ntmps36
    go_wp2_with (first
      | (go_at_call 41; refine (isFreq_is h1 _).mono ?_; rintro e w' ⟨rfl, rfl⟩)
      | (go_at_call 75; refine (isInterval_is h2 _).mono ?_; rintro e w' ⟨rfl, rfl⟩)
      | (go_at_call 76; refine (raise_no _ _ _ _ h1 h2 (goal_sub _ _) h3).mono ?_; rintro e w' ⟨rfl, rfl⟩))
    go_ret2
    exact ⟨rfl, rfl⟩
end Go.Proofs.YtkbfmjnekeipcaaGreatDoor
