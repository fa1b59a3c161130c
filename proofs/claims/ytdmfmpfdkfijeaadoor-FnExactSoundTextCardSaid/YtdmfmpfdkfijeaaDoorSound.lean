/- Contracts on sounds: the law's copy, the list of the partials, whether a sound is valid, in the program and in the reference. -/
import Derived.Test.YtdmfmpfdkfijeaaDoorFreq
import Derived.StillTailTactics
namespace Go.Proofs.YtdmfmpfdkfijeaaDoor
open Go.ChangeShapes Go.WideShapes Go.ChangeAt Go.RowKit
set_option maxRecDepth 100000

/-- A valid sound. -/
def sB (a b c d e : Int) : Bool := allF [a, b, c, d, e] && (decide (a < b) && (decide (b < c) && (decide (c < d) && decide (d < e))))

theorem toSound_any (a b c d e : Int) (w : World) : Calls Tryd.prog 44 #[.agg #[.int .i64 a, .int .i64 b, .int .i64 c, .int .i64 d, .int .i64 e]] w fun x w' => x = .returned (.agg #[.int .i64 a, .int .i64 b, .int .i64 c, .int .i64 d, .int .i64 e]) ∧ Below w.heap.size w w' := by
  go_enter Tryd.func44, Tryd.ntmps44
  go_wp2
  refine bodyPost_ret (v := .agg #[.int .i64 a, .int .i64 b, .int .i64 c, .int .i64 d, .int .i64 e]) (by simp [results, Tryd.results44, go_sem]) rfl ⟨rfl, ?_⟩
  repeat (first | exact Below.refl _ _ | refine Below.alloc ?_ (by simp; try omega) _)
theorem newInts_of (w w0 : World) (zs : List Int) (n g : Nat) (hn : zs.length = n) (h5 : n ≤ 64) (hg : g = w0.heap.size) (hb : Below w.heap.size w w0) :
    NewInts w n zs (.returned (.slice (some ⟨g, 0, none⟩) n n)) (w0.alloc (.cells (zs.map (Value.int .i64)).toArray 2)) := by
  subst hn hg
  refine ⟨w0.heap.size, _, rfl, hb.size, ⟨by simp, .inr ⟨w0.heap.size, zs.length, _, rfl, hb.size, heap_alloc_new w0 _, Nat.le_refl _, by unfold maxLen; omega, by simp, by rw [List.take_of_length_le (by simp)]⟩⟩, hb.alloc hb.size _⟩

theorem listOf_any (a b c d e : Int) (w : World) : Calls Tryd.prog 82 #[.agg #[.int .i64 a, .int .i64 b, .int .i64 c, .int .i64 d, .int .i64 e]] w fun x w' => NewInts w 5 [a, b, c, d, e] x w' := by
  go_enter Tryd.func82, Tryd.ntmps82
  go_wp2
  go_ret
  exact newInts_of w (w.alloc _) [a, b, c, d, e] 5 _ rfl (by omega) (by simp) ((Below.refl _ _).alloc (Nat.le_refl _) _)

theorem l04List_any (a b c d e : Int) (g off : Nat) (w : World) (c0 : w.cell? ⟨g, off, none⟩ = some (.int .i64 a)) (c1 : w.cell? ⟨g, off + 1, none⟩ = some (.int .i64 b)) (c2 : w.cell? ⟨g, off + 2, none⟩ = some (.int .i64 c)) (c3 : w.cell? ⟨g, off + 3, none⟩ = some (.int .i64 d)) (c4 : w.cell? ⟨g, off + 4, none⟩ = some (.int .i64 e)) :
    Calls Tryd.prog 103 #[.pointer (some ⟨g, off, none⟩)] w fun x w' => NewInts w 5 [a, b, c, d, e] x w' := by
  go_enter Tryd.func103, Tryd.ntmps103
  go_wp2
  go_still_tail 20, (by kernel_rfl)
  change wpList _ _ _ _ _ w.drew
  go_wp2
  go_ret
  exact newInts_of w w.drew [a, b, c, d, e] 5 _ rfl (by omega) rfl ((Below.refl _ _).drew)

/-- The numbers rise, within bounds. -/
def risesP (zs : List Int) (lo hi : Int) : Prop := ∀ k z, zs[k]? = some z → inB z lo hi = true ∧ ∀ y, 0 < k → zs[k - 1]? = some y → y < z
noncomputable def risesB (zs : List Int) (lo hi : Int) : Bool := @decide (risesP zs lo hi) (Classical.propDecidable _)
theorem rises_no {zs : List Int} {lo hi : Int} (h : ¬ risesP zs lo hi) : risesB zs lo hi = false := @decide_eq_false _ (Classical.propDecidable _) h
theorem rises_yes {zs : List Int} {lo hi : Int} (h : risesP zs lo hi) : risesB zs lo hi = true := @decide_eq_true _ (Classical.propDecidable _) h
def risesTo (zs : List Int) (lo hi : Int) (n : Nat) : Prop := ∀ k z, k < n → zs[k]? = some z → inB z lo hi = true ∧ ∀ y, 0 < k → zs[k - 1]? = some y → y < z
theorem risesTo_succ {zs : List Int} {lo hi z : Int} {k : Nat} (h : risesTo zs lo hi k) (hz : zs[k]? = some z) (hB : inB z lo hi = true) (hy : ∀ y, 0 < k → zs[k - 1]? = some y → y < z) : risesTo zs lo hi (k + 1) := by
  intro j x hj hx
  rcases Nat.lt_or_eq_of_le (Nat.le_of_lt_succ hj) with h1 | rfl
  · exact h j x h1 hx
  · rw [hz] at hx; cases hx; exact ⟨hB, hy⟩
theorem risesTo_end {zs : List Int} {lo hi : Int} {n : Nat} (hl : zs.length = n) (h : risesTo zs lo hi n) : risesB zs lo hi = true :=
  rises_yes fun k z hz => h k z (by rw [← hl]; exact (List.getElem?_eq_some_iff.1 hz).1) hz
theorem rises_low {zs : List Int} {lo hi z : Int} {k : Nat} (hz : zs[k]? = some z) (hB : inB z lo hi = false) : risesB zs lo hi = false := rises_no fun h => by
  have := (h k z hz).1
  rw [hB] at this
  cases this
theorem rises_down {zs : List Int} {lo hi z y : Int} {k : Nat} (hk : 0 < k) (hz : zs[k]? = some z) (hy : zs[k - 1]? = some y) (h1 : ¬ y < z) : risesB zs lo hi = false := rises_no fun h => h1 ((h k z hz).2 y hk hy)

set_option maxRecDepth 100000 in
set_option maxHeartbeats 2000000 in
theorem l00Rises_any (A : Option Addr) (n c : Nat) (zs : List Int) (lo hi : Int) (w : World) (h : IntsAt w A n zs) (hn : n ≤ 4611686018427387904) :
    Calls Tryd.prog 102 #[.slice A n c, .int .i64 lo, .int .i64 hi] w fun e w' => e = .returned (.bool (risesB zs lo hi)) ∧ ∃ q, w' = w.drewN q := by
  have hl := h.len
  go_enter Tryd.func102, Tryd.ntmps102
  go_wp2
  go_loopw [7] (fun i wr => ∃ (k q : Nat), k ≤ n ∧ i = .int .i64 k ∧ wr = w.drewN q ∧ risesTo zs lo hi k) (fun i _ => n - (intOf i).toNat)
  case atStart => exact ⟨0, 0, Nat.zero_le _, rfl, rfl, fun k z hk => by omega⟩
  case round =>
    obtain ⟨k, q, hk, rfl, rfl, hr⟩ := hrel
    by_cases hlt : k < n
    · obtain ⟨b, off, z, rfl, _, hz, hcz⟩ := h.at_ hlt
      have hltI : (k : Int) < (n : Int) := by omega
      cases hB : inB z lo hi
      · have H := Lib.hid (rises_low hz hB)
        clear hr hz
        go_wp2
        go_quiet ((go_at_call 87; first | exact quietB (l00In_is hB _) | exact quietA (l00In_is hB _)))
        go_wp2
        go_ret
        exact ⟨ret_bool H.out.symm, q + nq, by first | rfl | rw [World.drewN_drewN]⟩
      · by_cases h0 : k = 0
        · have H := Lib.hid (risesTo_succ hr hz hB (fun y hy => by omega))
          have d0 : decide (0 < k) = false := decide_eq_false (by omega)
          have h0' : k ≤ 0 := by omega
          clear hr hz h0
          go_wp2
          go_quiet ((go_at_call 87; first | exact quietB (l00In_is hB _) | exact quietA (l00In_is hB _)))
          go_wp2
          go_roundw
          case rel => exact ⟨k + 1, q + nq, by omega, by go_num, by first | rfl | rw [World.drewN_drewN], H.out⟩
          case measure => simp [intOf]; omega
        · obtain ⟨b', off', y, he, _, hy, hcy⟩ := h.at_ (show k - 1 < n by omega)
          simp only [Option.some.injEq, Addr.mk.injEq, and_true] at he
          obtain ⟨rfl, rfl⟩ := he
          have d0 : decide (0 < k) = true := decide_eq_true (by omega)
          have w1 : IntKind.i64.wrap ((k : Int) - 1) = (k : Int) - 1 := IntWalk.i64_in _ (by omega)
          have w2 : ((k : Int) - 1).toNat = k - 1 := by omega
          have w3 : (0 : Int) ≤ (k : Int) - 1 := by omega
          have w4 : (k : Int) - 1 < (n : Int) := by omega
          by_cases hyz : y < z
          · have H := Lib.hid (risesTo_succ hr hz hB (fun y' _ hy' => by rw [hy] at hy'; cases hy'; exact hyz))
            have d1 : decide (z ≤ y) = false := decide_eq_false (by omega)
            clear hr hz hy
            go_wp2
            go_quiet ((go_at_call 87; first | exact quietB (l00In_is hB _) | exact quietA (l00In_is hB _)))
            clear w1 w2
            go_wp2
            go_roundw
            case rel => exact ⟨k + 1, q + nq, by omega, by go_num, by first | rfl | rw [World.drewN_drewN], H.out⟩
            case measure => simp [intOf]; omega
          · have H := Lib.hid (rises_down (lo := lo) (hi := hi) (by omega) hz hy hyz)
            have d1 : decide (z ≤ y) = true := decide_eq_true (by omega)
            clear hr hz hy
            go_wp2
            go_quiet ((go_at_call 87; first | exact quietB (l00In_is hB _) | exact quietA (l00In_is hB _)))
            clear w1 w2
            go_wp2
            go_ret
            exact ⟨ret_bool H.out.symm, q + nq, by first | rfl | rw [World.drewN_drewN]⟩
    · obtain rfl : k = n := by omega
      have H := Lib.hid (risesTo_end hl hr)
      clear hr
      go_wp2
      go_ret
      exact ⟨ret_bool H.out.symm, q, rfl⟩
theorem rises_five (a b c d e : Int) : risesB [a, b, c, d, e] 10000 20000000 = sB a b c d e := by
  by_cases h : sB a b c d e = true
  · rw [h]
    simp only [sB, allF, List.all_cons, List.all_nil, Bool.and_true, Bool.and_eq_true, decide_eq_true_eq] at h
    obtain ⟨⟨h1, h2, h3, h4, h5⟩, h6, h7, h8, h9⟩ := h
    apply rises_yes
    intro k z hz
    match k, hz with
    | 0, hz => cases hz; exact ⟨h1, fun y hy => by omega⟩
    | 1, hz => cases hz; exact ⟨h2, fun y _ hy => by cases hy; exact h6⟩
    | 2, hz => cases hz; exact ⟨h3, fun y _ hy => by cases hy; exact h7⟩
    | 3, hz => cases hz; exact ⟨h4, fun y _ hy => by cases hy; exact h8⟩
    | 4, hz => cases hz; exact ⟨h5, fun y _ hy => by cases hy; exact h9⟩
  · rw [Bool.not_eq_true] at h
    rw [h]
    apply rises_no
    intro hr
    rw [← Bool.not_eq_true] at h
    apply h
    simp only [sB, allF, List.all_cons, List.all_nil, Bool.and_true, Bool.and_eq_true, decide_eq_true_eq]
    exact ⟨⟨(hr 0 _ rfl).1, (hr 1 _ rfl).1, (hr 2 _ rfl).1, (hr 3 _ rfl).1, (hr 4 _ rfl).1⟩, (hr 1 _ rfl).2 _ (by omega) rfl, (hr 2 _ rfl).2 _ (by omega) rfl, (hr 3 _ rfl).2 _ (by omega) rfl, (hr 4 _ rfl).2 _ (by omega) rfl⟩
end Go.Proofs.YtdmfmpfdkfijeaaDoor
