/- Contracts of the worst deviation: the first number of the greatest absolute value, in the program and in the reference. -/
import Derived.Test.YtajlgclodjgiiaaFreq
namespace Go.Proofs.Ytajlgclodjgiiaa
open Go.ChangeShapes Go.WideShapes Go.ChangeAt Go.RowKit

/-- Of the first k numbers the first one of the greatest absolute value: its index. -/
def worstN (zs : List Int) : Nat → Nat
  | 0 => 0
  | k + 1 => if absI (zs.getD (worstN zs k) 0) < absI (zs.getD k 0) then k else worstN zs k
theorem worstN_le (zs : List Int) : ∀ k, worstN zs k ≤ k
  | 0 => Nat.le_refl _
  | k + 1 => by
    have := worstN_le zs k
    unfold worstN
    split <;> omega
theorem worstN_lt (zs : List Int) {n : Nat} : ∀ k, k ≤ n → 0 < n → worstN zs k < n
  | 0, _, h => h
  | k + 1, hk, h => by
    have := worstN_lt zs k (by omega) h
    unfold worstN
    split <;> omega
theorem worstN_yes {zs : List Int} {k : Nat} {x y : Int} (hx : zs[k]? = some x) (hy : zs[worstN zs k]? = some y) (h : absI y < absI x) : k = worstN zs (k + 1) := by
  rw [show worstN zs (k + 1) = if absI (zs.getD (worstN zs k) 0) < absI (zs.getD k 0) then k else worstN zs k from rfl, List.getD_eq_getElem?_getD, List.getD_eq_getElem?_getD, hx, hy]
  exact (if_pos h).symm
theorem worstN_no {zs : List Int} {k : Nat} {x y : Int} (hx : zs[k]? = some x) (hy : zs[worstN zs k]? = some y) (h : ¬ absI y < absI x) : worstN zs k = worstN zs (k + 1) := by
  rw [show worstN zs (k + 1) = if absI (zs.getD (worstN zs k) 0) < absI (zs.getD k 0) then k else worstN zs k from rfl, List.getD_eq_getElem?_getD, List.getD_eq_getElem?_getD, hx, hy]
  exact (if_neg h).symm
theorem worstN_one (zs : List Int) : worstN zs 1 = 0 := by
  unfold worstN
  unfold worstN
  simp
/-- All numbers are small. -/
def smallL (zs : List Int) : Prop := ∀ (k : Nat) (z : Int), zs[k]? = some z → -1000000000 ≤ z ∧ z ≤ 1000000000
theorem absI_small {z : Int} (h : -1000000000 ≤ z ∧ z ≤ 1000000000) : 0 ≤ absI z ∧ absI z ≤ 1000000000 := by
  rcases absI_cases z with ⟨_, e⟩ | ⟨_, e⟩ <;> omega

set_option maxHeartbeats 1000000 in
theorem worst_any (A : Option Addr) (n c : Nat) (zs : List Int) (w : World) (h : IntsAt w A n zs) (h0 : 0 < n) (hn : n ≤ 1000000) (hs : smallL zs) :
    Calls Try.prog 65 #[.slice A n c] w fun e w' => e = .returned (.int .i64 (worstN zs n : Nat)) ∧ ∃ q, w' = w.drewN q := by
  go_enter Try.func65, Try.ntmps65
  go_wp2
  go_loopw [3, 4, 5, 8] (fun a _ _ i wr => ∃ (k m q : Nat), k ≤ n ∧ i = .int .i64 k ∧ a = .int .i64 m ∧ wr = w.drewN q ∧ m = worstN zs k) (fun _ _ _ i _ => n - (intOf i).toNat)
  case atStart => exact ⟨0, 0, 0, Nat.zero_le _, rfl, rfl, rfl, rfl⟩
  case round =>
    obtain ⟨k, m, q, hk, rfl, rfl, rfl, hm⟩ := hrel
    have hmn : m < n := by rw [hm]; exact worstN_lt zs k hk h0
    by_cases hlt : k < n
    · obtain ⟨b, off, x, rfl, _, hx, hcx⟩ := h.at_ hlt
      obtain ⟨b', off', y, he, _, hy, hcy⟩ := h.at_ hmn
      simp only [Option.some.injEq, Addr.mk.injEq, and_true] at he
      obtain ⟨rfl, rfl⟩ := he
      have hltI : (k : Int) < (n : Int) := by omega
      have hmnI : (m : Int) < (n : Int) := by omega
      have sx := hs k x hx
      have sy := hs m y hy
      by_cases hxy : absI y < absI x
      · have H := Lib.hid (worstN_yes hx (by rw [← hm]; exact hy) hxy)
        have d1 : decide (absI y < absI x) = true := decide_eq_true hxy
        clear hx hy hm hs
        go_wp2
        go_quiet ((go_at_call 78; first | exact quietB (abs_any _ _ (by omega) (by omega)) | exact quietA (abs_any _ _ (by omega) (by omega))))
        go_wp2
        go_roundw
        case rel => exact ⟨k + 1, k, q + nq, by omega, by go_num, rfl, by first | rfl | rw [World.drewN_drewN], H.out⟩
        case measure => simp [intOf]; omega
      · have H := Lib.hid (hm.trans (worstN_no hx (by rw [← hm]; exact hy) hxy))
        have d1 : decide (absI y < absI x) = false := decide_eq_false hxy
        clear hx hy hm hs
        go_wp2
        go_quiet ((go_at_call 78; first | exact quietB (abs_any _ _ (by omega) (by omega)) | exact quietA (abs_any _ _ (by omega) (by omega))))
        go_wp2
        go_roundw
        case rel => exact ⟨k + 1, m, q + nq, by omega, by go_num, rfl, by first | rfl | rw [World.drewN_drewN], H.out⟩
        case measure => simp [intOf]; omega
    · obtain rfl : k = n := by omega
      have H := Lib.hid hm
      clear hm hs
      go_wp2
      go_ret
      exact ⟨ret_int (by rw [H.out]), q, rfl⟩
theorem l00Max_abs (n : Int) (w : World) (h : -9223372036854775807 ≤ n) (h' : n ≤ 9223372036854775807) : Calls Try.prog 77 #[.int .i64 n, .int .i64 (-n)] w fun e w' => e = .returned (.int .i64 (absI n)) ∧ w = w' := by
  by_cases h0 : -n < n
  · have H : Hid (absI n = n) := absI_pos (by omega)
    go_enter Try.func77, Try.ntmps77
    go_wp2
    go_ret
    exact ⟨ret_int H.out.symm, rfl⟩
  · have H : Hid (absI n = -n) := by
      show _ = _
      rcases absI_cases n with ⟨_, e⟩ | ⟨_, e⟩ <;> omega
    go_enter Try.func77, Try.ntmps77
    go_wp2
    go_ret
    exact ⟨ret_int H.out.symm, rfl⟩
set_option maxRecDepth 100000 in
set_option maxHeartbeats 2000000 in
theorem l04Worst_any (A : Option Addr) (n c : Nat) (zs : List Int) (w : World) (h : IntsAt w A n zs) (h0 : 0 < n) (hn : n ≤ 1000000) (hs : smallL zs) :
    Calls Try.prog 63 #[.slice A n c] w fun e w' => e = .returned (.int .i64 (worstN zs n : Nat)) ∧ ∃ q, w' = w.drewN q := by
  go_enter Try.func63, Try.ntmps63
  go_wp2
  go_loopw [3, 4] (fun a i wr => ∃ (k m q : Nat), 1 ≤ k ∧ k ≤ n ∧ i = .int .i64 k ∧ a = .int .i64 m ∧ wr = w.drewN q ∧ m = worstN zs k) (fun _ i _ => n - (intOf i).toNat)
  case atStart => exact ⟨1, 0, 0, by omega, by omega, rfl, rfl, rfl, (worstN_one zs).symm⟩
  case round =>
    obtain ⟨k, m, q, hk1, hk, rfl, rfl, rfl, hm⟩ := hrel
    have hmn : m < n := by rw [hm]; exact worstN_lt zs k hk h0
    by_cases hlt : k < n
    · obtain ⟨b, off, x, rfl, _, hx, hcx⟩ := h.at_ hlt
      obtain ⟨b', off', y, he, _, hy, hcy⟩ := h.at_ hmn
      simp only [Option.some.injEq, Addr.mk.injEq, and_true] at he
      obtain ⟨rfl, rfl⟩ := he
      have hltI : (k : Int) < (n : Int) := by omega
      have hmnI : (m : Int) < (n : Int) := by omega
      have sx := hs k x hx
      have sy := hs m y hy
      have wx : IntKind.i64.wrap (-x) = -x := IntWalk.i64_in _ (by omega)
      have wy : IntKind.i64.wrap (-y) = -y := IntWalk.i64_in _ (by omega)
      by_cases hxy : absI y < absI x
      · have H := Lib.hid (worstN_yes hx (by rw [← hm]; exact hy) hxy)
        have d1 : decide (absI y < absI x) = true := decide_eq_true hxy
        clear hx hy hm hs
        go_wp2
        go_quiet ((go_at_call 77; first | exact quietB (l00Max_abs _ _ (by omega) (by omega)) | exact quietA (l00Max_abs _ _ (by omega) (by omega))))
        go_wp2
        go_roundw
        case rel => exact ⟨k + 1, k, q + nq, by omega, by omega, by go_num, rfl, by first | rfl | rw [World.drewN_drewN], H.out⟩
        case measure => simp [intOf]; omega
      · have H := Lib.hid (hm.trans (worstN_no hx (by rw [← hm]; exact hy) hxy))
        have d1 : decide (absI y < absI x) = false := decide_eq_false hxy
        clear hx hy hm hs
        go_wp2
        go_quiet ((go_at_call 77; first | exact quietB (l00Max_abs _ _ (by omega) (by omega)) | exact quietA (l00Max_abs _ _ (by omega) (by omega))))
        go_wp2
        go_roundw
        case rel => exact ⟨k + 1, m, q + nq, by omega, by omega, by go_num, rfl, by first | rfl | rw [World.drewN_drewN], H.out⟩
        case measure => simp [intOf]; omega
    · obtain rfl : k = n := by omega
      have H := Lib.hid hm
      clear hm hs
      go_wp2
      go_ret
      exact ⟨ret_int (by rw [H.out]), q, rfl⟩

/-- All are intervals. -/
def allI (zs : List Int) : Bool := zs.all fun z => inB z (-120000) 120000
theorem allI_false {zs : List Int} {k : Nat} {z : Int} (h : zs[k]? = some z) (hz : inB z (-120000) 120000 = false) : allI zs = false := by
  unfold allI
  rw [List.all_eq_false]
  exact ⟨z, List.mem_of_getElem? h, by simp [hz]⟩
theorem allI_true {zs : List Int} {n : Nat} (hl : zs.length = n) (h : ∀ j z, j < n → zs[j]? = some z → inB z (-120000) 120000 = true) : allI zs = true := by
  unfold allI
  rw [List.all_eq_true]
  intro z hz
  obtain ⟨j, hj, rfl⟩ := List.getElem_of_mem hz
  exact h j _ (by omega) (List.getElem?_eq_getElem hj)
theorem allI_succ {zs : List Int} {k : Nat} {z : Int} (h : ∀ j z, j < k → zs[j]? = some z → inB z (-120000) 120000 = true) (hz : zs[k]? = some z) (hB : inB z (-120000) 120000 = true) :
    ∀ j z, j < k + 1 → zs[j]? = some z → inB z (-120000) 120000 = true := by
  intro j y hj hy
  rcases Nat.lt_or_eq_of_le (Nat.le_of_lt_succ hj) with h1 | rfl
  · exact h j y h1 hy
  · rw [hz] at hy; cases hy; exact hB
theorem allI_small {zs : List Int} (h : allI zs = true) : smallL zs := by
  intro k z hz
  unfold allI at h
  rw [List.all_eq_true] at h
  have := inB_iff.1 (h z (List.mem_of_getElem? hz))
  omega
/-- What the worst deviation is: the partial, the number, a code. -/
def worstP (zs : List Int) : Int := if zs.length = 5 ∧ allI zs = true then (worstN zs 5 : Nat) + 1 else 0
def worstV (zs : List Int) : Int := if zs.length = 5 ∧ allI zs = true then zs.getD (worstN zs 5) 0 else 0
def worstC (zs : List Int) : Int := if zs.length = 5 ∧ allI zs = true then 0 else 2
theorem worst_neg {zs : List Int} (h : ¬ (zs.length = 5 ∧ allI zs = true)) : worstP zs = 0 ∧ worstV zs = 0 ∧ worstC zs = 2 := by
  unfold worstP worstV worstC
  rw [if_neg h, if_neg h, if_neg h]
  exact ⟨rfl, rfl, rfl⟩
theorem worst_pos {zs : List Int} {z : Int} (h : zs.length = 5) (hA : allI zs = true) (hz : zs[worstN zs 5]? = some z) : worstP zs = (worstN zs 5 : Nat) + 1 ∧ worstV zs = z ∧ worstC zs = 0 := by
  unfold worstP worstV worstC
  rw [if_pos ⟨h, hA⟩, if_pos ⟨h, hA⟩, if_pos ⟨h, hA⟩, List.getD_eq_getElem?_getD, hz]
  exact ⟨rfl, rfl, rfl⟩
theorem ret_three {k : IntKind} {a b c a' b' c' : Int} (h : a = a' ∧ b = b' ∧ c = c') : Ending.returned (.tuple #[.int k a, .int k b, .int k c]) = .returned (.tuple #[.int k a', .int k b', .int k c']) := by
  obtain ⟨rfl, rfl, rfl⟩ := h
  rfl

theorem isInterval_is' {t : Int} {r : Bool} (h : inB t (-120000) 120000 = r) (w : World) : Calls Try.prog 64 #[.int .i64 t] w fun e w' => e = .returned (.bool r) ∧ w = w' := by
  go_enter Try.func64, Try.ntmps64
  go_wp2_with (go_at_call 90; refine (within_is h _).mono ?_; rintro e w' ⟨rfl, rfl⟩)
  go_ret
  exact ⟨rfl, rfl⟩
set_option maxRecDepth 100000 in
set_option maxHeartbeats 2000000 in
theorem worstDev_impl (A : Option Addr) (n c : Nat) (zs : List Int) (w : World) (h : IntsAt w A n zs) (hn : n ≤ 4611686018427387904) :
    Calls Try.prog 27 #[.slice A n c] w fun e w' => e = .returned (.tuple #[.int .i64 (worstP zs), .int .i64 (worstV zs), .int .i64 (worstC zs)]) ∧ ∃ q, w' = w.drewN q := by
  have hl := h.len
  by_cases h5 : n = 5
  · subst h5
    go_enter Try.func27, Try.ntmps27
    go_wp2
    go_loop [6, 13] (fun _ i => ∃ k : Nat, k ≤ 5 ∧ i = .int .i64 k ∧ ∀ j z, j < k → zs[j]? = some z → inB z (-120000) 120000 = true) (fun _ i => 5 - (intOf i).toNat)
    case atStart => exact ⟨0, Nat.zero_le _, rfl, fun j z hj => by omega⟩
    case round =>
      obtain ⟨k, hk, rfl, hall⟩ := hrel
      by_cases hlt : k < 5
      · obtain ⟨b, off, z, rfl, hb, hz, hc⟩ := h.at_ hlt
        cases hB : inB z (-120000) 120000
        · have H := Lib.hid (worst_neg (fun hh => by rw [allI_false hz hB] at hh; cases hh.2))
          clear hall hz
          go_wp2_with (go_at_call 64; refine (isInterval_is' hB _).mono ?_; rintro e w' ⟨rfl, rfl⟩)
          go_ret3
          exact ⟨ret_three ⟨H.out.1.symm, H.out.2.1.symm, H.out.2.2.symm⟩, 0, rfl⟩
        · have H := Lib.hid (allI_succ hall hz hB)
          clear hall hz
          go_wp2_with (go_at_call 64; refine (isInterval_is' hB _).mono ?_; rintro e w' ⟨rfl, rfl⟩)
          go_round
          case rel => exact ⟨k + 1, by omega, by go_num, H.out⟩
          case measure => simp [intOf]; omega
      · obtain rfl : k = 5 := by omega
        have hA := allI_true hl (fun j z hj => hall j z (by omega))
        have hS := allI_small hA
        have hm := worstN_lt zs 5 (n := 5) (by omega) (by omega)
        obtain ⟨b, off, z, rfl, hb, hz, hc⟩ := h.at_ hm
        have H := Lib.hid (worst_pos hl hA hz)
        have HW := Lib.hid (fun w1 (h1 : IntsAt w1 (some ⟨b, off, none⟩) 5 zs) => worst_any _ 5 c zs w1 h1 (by omega) (by omega) hS)
        have hh := Lib.hid h
        clear hall hz hA hS h
        generalize worstN zs 5 = m at hm hc H HW
        have hmI : (m : Int) < 5 := by omega
        go_wp2_with fail
        refine (HW.out _ hh.out).mono ?_
        rintro e w' ⟨rfl, q, rfl⟩
        go_wp2
        go_quiet (fail)
        go_wp2
        go_ret3
        exact ⟨ret_three ⟨H.out.1.symm, H.out.2.1.symm, H.out.2.2.symm⟩, q + nq, by first | rfl | rw [World.drewN_drewN]⟩
  · have H := Lib.hid (worst_neg (fun hh => h5 (hl ▸ hh.1)))
    have hd : ((n : Int) == 5) = false := by rw [beq_eq_false_iff_ne]; omega
    go_enter Try.func27, Try.ntmps27
    go_wp2
    go_ret3
    exact ⟨ret_three ⟨H.out.1.symm, H.out.2.1.symm, H.out.2.2.symm⟩, 0, rfl⟩
theorem l02Interval_is {t : Int} {r : Bool} (h : inB t (-120000) 120000 = r) (w : World) : Calls Try.prog 62 #[.int .i64 t] w fun e w' => e = .returned (.bool r) ∧ w = w' := by
  go_enter Try.func62, Try.ntmps62
  go_wp2_with (go_at_call 91; refine (l00In_is h _).mono ?_; rintro e w' ⟨rfl, rfl⟩)
  go_ret
  exact ⟨rfl, rfl⟩
set_option maxRecDepth 100000 in
set_option maxHeartbeats 2000000 in
theorem worstDev_spec (A : Option Addr) (n c : Nat) (zs : List Int) (w : World) (h : IntsAt w A n zs) (hn : n ≤ 4611686018427387904) :
    Calls Try.prog 25 #[.slice A n c] w fun e w' => e = .returned (.tuple #[.int .i64 (worstP zs), .int .i64 (worstV zs), .int .i64 (worstC zs)]) ∧ ∃ q, w' = w.drewN q := by
  have hl := h.len
  by_cases h5 : n = 5
  · subst h5
    go_enter Try.func25, Try.ntmps25
    go_wp2
    go_loop [5] (fun i => ∃ k : Nat, k ≤ 5 ∧ i = .int .i64 k ∧ ∀ j z, j < k → zs[j]? = some z → inB z (-120000) 120000 = true) (fun i => 5 - (intOf i).toNat)
    case atStart => exact ⟨0, Nat.zero_le _, rfl, fun j z hj => by omega⟩
    case round =>
      obtain ⟨k, hk, rfl, hall⟩ := hrel
      by_cases hlt : k < 5
      · obtain ⟨b, off, z, rfl, hb, hz, hc⟩ := h.at_ hlt
        cases hB : inB z (-120000) 120000
        · have H := Lib.hid (worst_neg (fun hh => by rw [allI_false hz hB] at hh; cases hh.2))
          clear hall hz
          go_wp2_with (go_at_call 62; refine (l02Interval_is hB _).mono ?_; rintro e w' ⟨rfl, rfl⟩)
          go_ret3
          exact ⟨ret_three ⟨H.out.1.symm, H.out.2.1.symm, H.out.2.2.symm⟩, 0, rfl⟩
        · have H := Lib.hid (allI_succ hall hz hB)
          clear hall hz
          go_wp2_with (go_at_call 62; refine (l02Interval_is hB _).mono ?_; rintro e w' ⟨rfl, rfl⟩)
          go_round
          case rel => exact ⟨k + 1, by omega, by go_num, H.out⟩
          case measure => simp [intOf]; omega
      · obtain rfl : k = 5 := by omega
        have hA := allI_true hl (fun j z hj => hall j z (by omega))
        have hS := allI_small hA
        have hm := worstN_lt zs 5 (n := 5) (by omega) (by omega)
        obtain ⟨b, off, z, rfl, hb, hz, hc⟩ := h.at_ hm
        have H := Lib.hid (worst_pos hl hA hz)
        have HW := Lib.hid (fun w1 (h1 : IntsAt w1 (some ⟨b, off, none⟩) 5 zs) => l04Worst_any _ 5 c zs w1 h1 (by omega) (by omega) hS)
        have hh := Lib.hid h
        clear hall hz hA hS h
        generalize worstN zs 5 = m at hm hc H HW
        have hmI : (m : Int) < 5 := by omega
        go_wp2_with fail
        refine (HW.out _ hh.out).mono ?_
        rintro e w' ⟨rfl, q, rfl⟩
        go_wp2
        go_quiet (fail)
        go_wp2
        go_ret3
        exact ⟨ret_three ⟨H.out.1.symm, H.out.2.1.symm, H.out.2.2.symm⟩, q + nq, by first | rfl | rw [World.drewN_drewN]⟩
  · have H := Lib.hid (worst_neg (fun hh => h5 (hl ▸ hh.1)))
    have hd : ((n : Int) == 5) = false := by rw [beq_eq_false_iff_ne]; omega
    go_enter Try.func25, Try.ntmps25
    go_wp2
    go_ret3
    exact ⟨ret_three ⟨H.out.1.symm, H.out.2.1.symm, H.out.2.2.symm⟩, 0, rfl⟩
end Go.Proofs.Ytajlgclodjgiiaa
