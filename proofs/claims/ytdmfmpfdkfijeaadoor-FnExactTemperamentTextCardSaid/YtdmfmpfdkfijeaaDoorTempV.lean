/- Contracts: whether a temperament is valid, in the program and in the reference. -/
import Derived.Test.YtdmfmpfdkfijeaaDoorTemp
namespace Go.Proofs.YtdmfmpfdkfijeaaDoor
open Go.ChangeShapes Go.WideShapes Go.ChangeAt Go.RowKit
set_option maxRecDepth 100000

/-- A valid temperament. -/
noncomputable def tempB (s : ByteArray) (zs : List Int) : Bool := nameB s && (decide (zs.length = 12) && zs.all fun z => inB z (-500) 500)
theorem name_size {s : ByteArray} (h : nameB s = true) : s.size ≤ 10 := by
  have h1 : nameP s := by
    apply Classical.byContradiction
    intro h2
    rw [nameB_false h2] at h
    cases h
  exact h1.2.1
theorem temp_name {s : ByteArray} {zs : List Int} (h : tempB s zs = true) : s.size ≤ 10 := by
  simp only [tempB, Bool.and_eq_true] at h
  exact name_size h.1
theorem offs_any {zs : List Int} {k : Nat} {z : Int} (h : zs[k]? = some z) (hz : inB z (-500) 500 = false) : (zs.all fun z => inB z (-500) 500) = false := by
  rw [List.all_eq_false]
  exact ⟨z, List.mem_of_getElem? h, by simp [hz]⟩
theorem offs_all {zs : List Int} {n : Nat} (hl : zs.length = n) (h : ∀ j z, j < n → zs[j]? = some z → inB z (-500) 500 = true) : (zs.all fun z => inB z (-500) 500) = true := by
  rw [List.all_eq_true]
  intro z hz
  obtain ⟨j, hj, rfl⟩ := List.getElem_of_mem hz
  exact h j _ (by omega) (List.getElem?_eq_getElem hj)
theorem offs_succ {p : Int → Bool} {zs : List Int} {k : Nat} {z : Int} (h : ∀ j z, j < k → zs[j]? = some z → p z = true) (hz : zs[k]? = some z) (hB : p z = true) : ∀ j z, j < k + 1 → zs[j]? = some z → p z = true := by
  intro j y hj hy
  rcases Nat.lt_or_eq_of_le (Nat.le_of_lt_succ hj) with h1 | rfl
  · exact h j y h1 hy
  · rw [hz] at hy; cases hy; exact hB

theorem closV_is {z : Int} {r : Bool} (h : inB z (-500) 500 = r) (w : World) : Calls Tryd.prog 101 #[.int .i64 z] w fun e w' => e = .returned (.bool (!r)) ∧ w = w' := by
  go_enter Tryd.func101, Tryd.ntmps101
  go_wp2_with (go_at_call 62; refine (within_is h _).mono ?_; rintro e w' ⟨rfl, rfl⟩)
  go_ret
  exact ⟨rfl, rfl⟩
theorem indexV_any (A : Option Addr) (n c : Nat) (zs : List Int) (w : World) (h : IntsAt w A n zs) (hn : n ≤ 4611686018427387904) :
    Calls Tryd.prog 94 #[.slice A n c, .func (.func 101) #[] #[]] w fun e w' => ∃ r : Int, e = .returned (.int .i64 r) ∧ w = w' ∧ decide (0 ≤ r) = !(zs.all fun z => inB z (-500) 500) := by
  have hl := h.len
  go_enter Tryd.func94, Tryd.ntmps94
  go_wp2
  go_loop [5, 8] (fun _ i => ∃ k : Nat, k ≤ n ∧ i = .int .i64 k ∧ ∀ j z, j < k → zs[j]? = some z → inB z (-500) 500 = true) (fun _ i => n - (intOf i).toNat)
  case atStart => exact ⟨0, Nat.zero_le _, rfl, fun j z hj => by omega⟩
  case round =>
    obtain ⟨k, hk, rfl, hall⟩ := hrel
    by_cases hlt : k < n
    · obtain ⟨b, off, z, rfl, hb, hz, hc⟩ := h.at_ hlt
      cases hB : inB z (-500) 500
      · have H := Lib.hid (offs_any hz hB)
        clear hall hz
        go_wp2_with (go_at_call 101; refine (closV_is hB _).mono ?_; rintro e w' ⟨rfl, rfl⟩)
        go_ret
        exact ⟨k, rfl, rfl, by rw [H.out]; simp⟩
      · have H := Lib.hid (offs_succ hall hz hB)
        clear hall hz
        go_wp2_with (go_at_call 101; refine (closV_is hB _).mono ?_; rintro e w' ⟨rfl, rfl⟩)
        go_round
        case rel => exact ⟨k + 1, by omega, by go_num, H.out⟩
        case measure => simp [intOf]; omega
    · have H := Lib.hid (offs_all hl (fun j z hj => hall j z (by omega)))
      clear hall
      go_wp2
      go_ret
      exact ⟨-1, rfl, rfl, by rw [H.out]; rfl⟩
theorem containsV_any (A : Option Addr) (n c : Nat) (zs : List Int) (w : World) (h : IntsAt w A n zs) (hn : n ≤ 4611686018427387904) :
    Calls Tryd.prog 67 #[.slice A n c, .func (.func 101) #[] #[]] w fun e w' => e = .returned (.bool (!(zs.all fun z => inB z (-500) 500))) ∧ w = w' := by
  have H := Lib.hid (indexV_any A n c zs w h hn)
  go_enter Tryd.func67, Tryd.ntmps67
  go_wp2_with fail
  refine H.out.mono ?_
  rintro e w' ⟨r, rfl, rfl, hr⟩
  have HR := Lib.hid hr
  clear hr
  go_wp2
  go_ret
  exact ⟨ret_bool HR.out, rfl⟩
set_option maxHeartbeats 1000000 in
theorem validT_impl (s : ByteArray) (A : Option Addr) (n c : Nat) (zs : List Int) (w : World) (h : IntsAt w A n zs) (hn : n ≤ 1048576) (hs : s.size ≤ maxLen) :
    Calls Tryd.prog 78 #[.agg #[.string s, .slice A n c]] w fun e w' => e = .returned (.bool (tempB s zs)) ∧ Below w.heap.size w w' := by
  have hl := h.len
  have h0 := h.alloc (.cells #[.string s, .slice A n c] 35)
  have HN := Lib.hid (fun w1 => isName_impl s w1 hs)
  cases hN : nameB s
  · have H : Hid (tempB s zs = false) := by show _ = _; simp [tempB, hN]
    rw [hN] at HN
    clear hN
    go_enter Tryd.func78, Tryd.ntmps78
    go_wp2_with (go_at_call 100; refine (HN.out _).mono ?_; rintro e w1 ⟨rfl, hb1⟩)
    go_ret
    exact ⟨ret_bool H.out.symm, ((Below.refl _ _).alloc (Nat.le_refl _) _).trans (hb1.mono (by simp))⟩
  · by_cases h12 : n = 12
    · have H : Hid (tempB s zs = zs.all fun z => inB z (-500) 500) := by show _ = _; simp [tempB, hN, hl, h12]
      rw [hN] at HN
      clear hN
      subst h12
      go_enter Tryd.func78, Tryd.ntmps78
      go_wp2_with fail
      refine (HN.out _).mono ?_
      rintro e w1 ⟨rfl, hb1⟩
      obtain ⟨hcc, hff⟩ := bcell hb1
      go_wp2_with fail
      refine (containsV_any _ _ _ zs _ (h0.below hb1) (by omega)).mono ?_
      rintro e w' ⟨rfl, rfl⟩
      go_wp2
      go_ret
      exact ⟨ret_bool (by rw [H.out]), ((Below.refl _ _).alloc (Nat.le_refl _) _).trans (hb1.mono (by simp))⟩
    · have H : Hid (tempB s zs = false) := by show _ = _; simp [tempB, hl, h12]
      have hd : ((n : Int) == 12) = false := by rw [beq_eq_false_iff_ne]; omega
      rw [hN] at HN
      clear hN
      go_enter Tryd.func78, Tryd.ntmps78
      go_wp2_with fail
      refine (HN.out _).mono ?_
      rintro e w1 ⟨rfl, hb1⟩
      obtain ⟨hcc, hff⟩ := bcell hb1
      go_wp2
      go_ret
      exact ⟨ret_bool H.out.symm, ((Below.refl _ _).alloc (Nat.le_refl _) _).trans (hb1.mono (by simp))⟩
set_option maxHeartbeats 2000000 in
theorem l03Ok_any (s : ByteArray) (A : Option Addr) (n c : Nat) (zs : List Int) (g : Nat) (w : World) (h : IntsAt w A n zs) (hn : n ≤ 1048576) (hs : s.size ≤ maxLen)
    (c0 : w.cell? ⟨g, 0, none⟩ = some (.string s)) (c1 : w.cell? ⟨g, 1, none⟩ = some (.slice A n c)) :
    Calls Tryd.prog 76 #[.pointer (some ⟨g, 0, none⟩)] w fun e w' => e = .returned (.bool (tempB s zs)) ∧ w = w' := by
  have hl := h.len
  have HN := Lib.hid (fun w1 => l01Name_any s w1 hs)
  go_enter Tryd.func76, Tryd.ntmps76
  go_wp2
  go_loop [3] (fun i => ∃ k : Nat, k ≤ n ∧ i = .int .i64 k ∧ ∀ j z, j < k → zs[j]? = some z → inB z (-500) 500 = true) (fun i => n - (intOf i).toNat)
  case atStart => exact ⟨0, Nat.zero_le _, rfl, fun j z hj => by omega⟩
  case round =>
    obtain ⟨k, hk, rfl, hall⟩ := hrel
    by_cases hlt : k < n
    · obtain ⟨b, off, z, rfl, hb, hz, hc⟩ := h.at_ hlt
      cases hB : inB z (-500) 500
      · have H : Hid (tempB s zs = false) := by show _ = _; simp [tempB, offs_any hz hB]
        clear hall hz
        go_wp2_with (go_at_call 87; refine (l00In_is hB _).mono ?_; rintro e w' ⟨rfl, rfl⟩)
        go_ret
        exact ⟨ret_bool H.out.symm, rfl⟩
      · have H := Lib.hid (offs_succ hall hz hB)
        clear hall hz
        go_wp2_with (go_at_call 87; refine (l00In_is hB _).mono ?_; rintro e w' ⟨rfl, rfl⟩)
        go_round
        case rel => exact ⟨k + 1, by omega, by go_num, H.out⟩
        case measure => simp [intOf]; omega
    · obtain rfl : k = n := by omega
      have hA := offs_all hl hall
      cases hN : nameB s
      · have H : Hid (tempB s zs = false) := by show _ = _; simp [tempB, hN]
        rw [hN] at HN
        clear hN hall hA
        go_wp2_with (go_at_call 99; refine (HN.out _).mono ?_; rintro e w' ⟨rfl, rfl⟩)
        go_ret
        exact ⟨ret_bool H.out.symm, rfl⟩
      · by_cases h12 : k = 12
        · have H : Hid (tempB s zs = true) := by show _ = _; simp [tempB, hN, hl, h12]; simpa using hA
          rw [hN] at HN
          clear hN hall hA
          subst h12
          go_wp2_with (go_at_call 99; refine (HN.out _).mono ?_; rintro e w' ⟨rfl, rfl⟩)
          go_ret
          exact ⟨ret_bool H.out.symm, rfl⟩
        · have H : Hid (tempB s zs = false) := by show _ = _; simp [tempB, hl, h12]
          have hd : ((k : Int) == 12) = false := by rw [beq_eq_false_iff_ne]; omega
          rw [hN] at HN
          clear hN hall hA
          go_wp2_with (go_at_call 99; refine (HN.out _).mono ?_; rintro e w' ⟨rfl, rfl⟩)
          go_ret
          exact ⟨ret_bool H.out.symm, rfl⟩
end Go.Proofs.YtdmfmpfdkfijeaaDoor
