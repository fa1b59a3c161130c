/- Contracts of the notes of a scale, in the program and in the reference. -/
import Derived.Test.YtlcppfoedijccaaDoorOwn
namespace Go.Proofs.YtlcppfoedijccaaDoor
open Go.ChangeShapes Go.WideShapes Go.ChangeAt Go.RowKit
set_option maxRecDepth 100000

/-- The semitones of a kind of scales. -/
def stepsL (kind : Int) : List Int := if kind = 1 then [0, 2, 4, 5, 7, 9, 11, 12] else if kind = 2 then [0, 2, 3, 5, 7, 8, 10, 12] else if kind = 4 then [0, 2, 4, 7, 9, 12] else [0, 1, 2, 3, 4, 5, 6, 7, 8, 9, 10, 11, 12]
/-- The first k notes. -/
def scaleU (root : Int) (L : List Int) (k : Nat) : List Int := (L.take k).map (root + ·)
theorem scaleU_succ {root z : Int} {L : List Int} {k : Nat} (hz : L[k]? = some z) : (scaleU root L k).map (Value.int .i64) ++ [.int .i64 (root + z)] = (scaleU root L (k + 1)).map (Value.int .i64) := by
  obtain ⟨hlt, rfl⟩ := List.getElem?_eq_some_iff.1 hz
  unfold scaleU
  rw [List.take_succ_eq_append_getElem hlt, List.map_append, List.map_append]
  rfl
theorem scaleU_all {root : Int} {L : List Int} {n : Nat} (h : L.length = n) : scaleU root L n = L.map (root + ·) := by
  unfold scaleU
  rw [List.take_of_length_le (by omega)]
theorem scaleU_zero (root : Int) (L : List Int) : scaleU root L 0 = [] := by simp [scaleU]
theorem four_cases {k : Int} (h : inB k 1 4 = true) : k = 1 ∨ k = 2 ∨ k = 3 ∨ k = 4 := by
  have := inB_iff.1 h
  omega
theorem steps_bd {kind : Int} {k : Nat} {z : Int} (hz : (stepsL kind)[k]? = some z) : 0 ≤ z ∧ z ≤ 12 := by
  have hall : ∀ x ∈ stepsL kind, 0 ≤ x ∧ x ≤ 12 := by
    unfold stepsL
    split
    · decide
    · split
      · decide
      · split <;> decide
  exact hall z (List.mem_of_getElem? hz)

theorem isNote_is {k : Int} {r : Bool} (h : inB k 0 127 = r) (w : World) : Calls Tryd.prog 13 #[.int .i64 k] w fun x w' => x = .returned (.bool r) ∧ w = w' := by
  go_enter Tryd.func13, Tryd.ntmps13
  go_wp2_with (go_at_call 15; refine (within_is h _).mono ?_; rintro e w' ⟨rfl, rfl⟩)
  go_ret
  exact ⟨rfl, rfl⟩
theorem Scale_no (r k : Int) (w : World) (h : inB r 0 127 = false ∨ (inB r 0 127 = true ∧ inB k 1 4 = false)) : Calls Tryd.prog 9 #[.int .i64 r, .int .i64 k] w fun x w' => IntsRet w [] 2 x w' := by
  rcases h with h1 | ⟨h1, h2⟩
  · go_enter Tryd.func9, Tryd.ntmps9
    go_wp2_with (go_at_call 13; refine (isNote_is h1 _).mono ?_; rintro e w' ⟨rfl, rfl⟩)
    go_ret2
    exact IntsRet.none_ w 2 (Below.refl _ _)
  · go_enter Tryd.func9, Tryd.ntmps9
    go_wp2_with (first
      | (go_at_call 13; refine (isNote_is h1 _).mono ?_; rintro e w' ⟨rfl, rfl⟩)
      | (go_at_call 15; refine (within_is h2 _).mono ?_; rintro e w' ⟨rfl, rfl⟩))
    go_ret2
    exact IntsRet.none_ w 2 (Below.refl _ _)
theorem Scale_state (r k : Int) (w : World) (h1 : inB r 0 127 = true) (h2 : inB k 1 4 = true) (h3 : inB (r + 12) 0 127 = false) : Calls Tryd.prog 9 #[.int .i64 r, .int .i64 k] w fun x w' => IntsRet w [] 6 x w' := by
  have hr := inB_iff.1 h1
  go_enter Tryd.func9, Tryd.ntmps9
  go_wp2_with fail
  refine (isNote_is h1 _).mono ?_
  rintro e w' ⟨rfl, rfl⟩
  go_wp2_with (go_at_call 15; refine (within_is h2 _).mono ?_; rintro e w' ⟨rfl, rfl⟩)
  refine (isNote_is h3 _).mono ?_
  rintro e w' ⟨rfl, rfl⟩
  go_wp2
  go_ret2
  exact IntsRet.none_ w 6 (Below.refl _ _)
set_option maxRecDepth 100000 in
set_option maxHeartbeats 4000000 in
theorem Scale_ok (r k : Int) (w : World) (h1 : inB r 0 127 = true) (h2 : inB k 1 4 = true) (h3 : inB (r + 12) 0 127 = true) : Calls Tryd.prog 9 #[.int .i64 r, .int .i64 k] w fun x w' => IntsRet w ((stepsL k).map (r + ·)) 0 x w' := by
  have hr := inB_iff.1 h1
  obtain ⟨i0, hi, hz0, hz1, hz2⟩ := info_parts infoInt
  obtain ⟨L, hL⟩ : ∃ L, stepsL k = L := ⟨_, rfl⟩
  have hbd : ∀ (j : Nat) (z : Int), L[j]? = some z → 0 ≤ z ∧ z ≤ 12 := fun j z hz => steps_bd (kind := k) (by rw [hL]; exact hz)
  rw [hL]
  rcases four_cases h2 with rfl | rfl | rfl | rfl
  · have HL : Hid (L = [0, 2, 4, 5, 7, 9, 11, 12]) := hL.symm
    have hLn : L.length = 8 := by rw [HL.out]; rfl
    clear hL
    go_enter Tryd.func9, Tryd.ntmps9
    go_wp2_with fail
    refine (isNote_is h1 _).mono ?_
    rintro e w' ⟨rfl, rfl⟩
    go_wp2_with (go_at_call 15; refine (within_is h2 _).mono ?_; rintro e w' ⟨rfl, rfl⟩)
    refine (isNote_is h3 _).mono ?_
    rintro e w' ⟨rfl, rfl⟩
    go_wp2
    go_loopw [7, 9, 33] (fun v _ i wr => ∃ (k : Nat), k ≤ 8 ∧ i = .int .i64 k ∧ IntsAt wr (some ⟨w.heap.size, 0, none⟩) 8 L ∧ wr.ownsRow (w.heap.size + 5) 2 1 v k ((scaleU r L k).map (Value.int .i64)) ∧ Below w.heap.size w wr ∧ w.heap.size + 5 ≤ wr.heap.size) (fun _ _ i _ => 8 - (intOf i).toNat)
    case atStart =>
      refine ⟨0, Nat.zero_le _, rfl, ?_, World.ownsRow_nil _ _ _ _, ?_, by simp⟩
      · rw [HL.out]
        exact (IntsAt.alloc (IntsAt.alloc (IntsAt.alloc (IntsAt.alloc (IntsAt.new_at _ [0, 2, 4, 5, 7, 9, 11, 12] 2 (w.heap.size) 8 (by simp) rfl) _) _) _) _)
      · repeat (first | exact Below.refl _ _ | refine Below.alloc ?_ (by first | omega | (simp; omega) | simp) _)
    case round =>
      obtain ⟨k, hk, rfl, hI, hown, hbr, hsz⟩ := hrel
      by_cases hlt : k < 8
      · obtain ⟨_, _, z, e1, _, hz, hcz⟩ := hI.at_ hlt
        simp only [Option.some.injEq, Addr.mk.injEq, and_true] at e1
        obtain ⟨rfl, rfl⟩ := e1
        rw [Nat.zero_add] at hcz
        have zb := hbd k z hz
        have H := Lib.hid (scaleU_succ (root := r) hz)
        have HB := Lib.hid hbr
        have HI := Lib.hid hI
        have hbs := hbr.size
        have hi1 : (k : Int) < 8 := by omega
        clear hz hI hbr hbd
        go_wp2_with ((at_builtin; refine wpList_append_lies _ rfl _ _ _ rfl (w.heap.size + 5) 2 i0 _ 1 8 Tryd.underlying24 hi hz0 hz1 hz2 rfl (by omega) _ (k) _ rfl (hown.alloc _) ⟨wr.heap.size, 0, none⟩ 1 1 [.int .i64 (r + z)] rfl rfl (World.news_of_block (cs := #[.int .i64 (r + z)]) (t := 2) (fr := (0, 0)) (heap_alloc_new wr _)) (by simp [Value.oneCell']) (by omega) (by unfold maxLen; omega) (by omega) (by simp; omega) (wr.heap.size + 1) (by simp) ?_; intro gg cap w3 hown1 hgrow hat hlt'))
        go_roundw
        case rel =>
          refine ⟨k + 1, by omega, by go_num, IntsAt.grown_far (HI.out.alloc _) hgrow (own_row_lt hown (by omega)), ?_, ?_, ?_⟩
          · rw [← H.out]; exact hown1
          · exact (HB.out.alloc hbs _).grown hgrow (by simp; omega) (by intro g hg; have := (hown.lt g hg).1; omega)
          · have := hgrow.size; simp at this; omega
        case measure => simp [intOf]; omega
      · obtain rfl : k = 8 := by omega
        obtain ⟨A', cc, rfl⟩ := own_shape hown
        have HO := Lib.hid hown
        have HB := Lib.hid hbr
        clear hown hbr hI hbd
        go_wp2
        go_ret2
        exact ⟨A', _, cc, rfl, by rw [← scaleU_all hLn]; exact row_weaken HO.out (by omega), HB.out⟩
  · have HL : Hid (L = [0, 2, 3, 5, 7, 8, 10, 12]) := hL.symm
    have hLn : L.length = 8 := by rw [HL.out]; rfl
    clear hL
    go_enter Tryd.func9, Tryd.ntmps9
    go_wp2_with fail
    refine (isNote_is h1 _).mono ?_
    rintro e w' ⟨rfl, rfl⟩
    go_wp2_with (go_at_call 15; refine (within_is h2 _).mono ?_; rintro e w' ⟨rfl, rfl⟩)
    refine (isNote_is h3 _).mono ?_
    rintro e w' ⟨rfl, rfl⟩
    go_wp2
    go_loopw [7, 9, 33] (fun v _ i wr => ∃ (k : Nat), k ≤ 8 ∧ i = .int .i64 k ∧ IntsAt wr (some ⟨w.heap.size + 1, 0, none⟩) 8 L ∧ wr.ownsRow (w.heap.size + 5) 2 1 v k ((scaleU r L k).map (Value.int .i64)) ∧ Below w.heap.size w wr ∧ w.heap.size + 5 ≤ wr.heap.size) (fun _ _ i _ => 8 - (intOf i).toNat)
    case atStart =>
      refine ⟨0, Nat.zero_le _, rfl, ?_, World.ownsRow_nil _ _ _ _, ?_, by simp⟩
      · rw [HL.out]
        exact (IntsAt.alloc (IntsAt.alloc (IntsAt.alloc (IntsAt.new_at _ [0, 2, 3, 5, 7, 8, 10, 12] 2 (w.heap.size + 1) 8 (by simp) rfl) _) _) _)
      · repeat (first | exact Below.refl _ _ | refine Below.alloc ?_ (by first | omega | (simp; omega) | simp) _)
    case round =>
      obtain ⟨k, hk, rfl, hI, hown, hbr, hsz⟩ := hrel
      by_cases hlt : k < 8
      · obtain ⟨_, _, z, e1, _, hz, hcz⟩ := hI.at_ hlt
        simp only [Option.some.injEq, Addr.mk.injEq, and_true] at e1
        obtain ⟨rfl, rfl⟩ := e1
        rw [Nat.zero_add] at hcz
        have zb := hbd k z hz
        have H := Lib.hid (scaleU_succ (root := r) hz)
        have HB := Lib.hid hbr
        have HI := Lib.hid hI
        have hbs := hbr.size
        have hi1 : (k : Int) < 8 := by omega
        clear hz hI hbr hbd
        go_wp2_with ((at_builtin; refine wpList_append_lies _ rfl _ _ _ rfl (w.heap.size + 5) 2 i0 _ 1 8 Tryd.underlying24 hi hz0 hz1 hz2 rfl (by omega) _ (k) _ rfl (hown.alloc _) ⟨wr.heap.size, 0, none⟩ 1 1 [.int .i64 (r + z)] rfl rfl (World.news_of_block (cs := #[.int .i64 (r + z)]) (t := 2) (fr := (0, 0)) (heap_alloc_new wr _)) (by simp [Value.oneCell']) (by omega) (by unfold maxLen; omega) (by omega) (by simp; omega) (wr.heap.size + 1) (by simp) ?_; intro gg cap w3 hown1 hgrow hat hlt'))
        go_roundw
        case rel =>
          refine ⟨k + 1, by omega, by go_num, IntsAt.grown_far (HI.out.alloc _) hgrow (own_row_lt hown (by omega)), ?_, ?_, ?_⟩
          · rw [← H.out]; exact hown1
          · exact (HB.out.alloc hbs _).grown hgrow (by simp; omega) (by intro g hg; have := (hown.lt g hg).1; omega)
          · have := hgrow.size; simp at this; omega
        case measure => simp [intOf]; omega
      · obtain rfl : k = 8 := by omega
        obtain ⟨A', cc, rfl⟩ := own_shape hown
        have HO := Lib.hid hown
        have HB := Lib.hid hbr
        clear hown hbr hI hbd
        go_wp2
        go_ret2
        exact ⟨A', _, cc, rfl, by rw [← scaleU_all hLn]; exact row_weaken HO.out (by omega), HB.out⟩
  · have HL : Hid (L = [0, 1, 2, 3, 4, 5, 6, 7, 8, 9, 10, 11, 12]) := hL.symm
    have hLn : L.length = 13 := by rw [HL.out]; rfl
    clear hL
    go_enter Tryd.func9, Tryd.ntmps9
    go_wp2_with fail
    refine (isNote_is h1 _).mono ?_
    rintro e w' ⟨rfl, rfl⟩
    go_wp2_with (go_at_call 15; refine (within_is h2 _).mono ?_; rintro e w' ⟨rfl, rfl⟩)
    refine (isNote_is h3 _).mono ?_
    rintro e w' ⟨rfl, rfl⟩
    go_wp2
    go_loopw [7, 9, 33] (fun v _ i wr => ∃ (k : Nat), k ≤ 13 ∧ i = .int .i64 k ∧ IntsAt wr (some ⟨w.heap.size + 2, 0, none⟩) 13 L ∧ wr.ownsRow (w.heap.size + 5) 2 1 v k ((scaleU r L k).map (Value.int .i64)) ∧ Below w.heap.size w wr ∧ w.heap.size + 5 ≤ wr.heap.size) (fun _ _ i _ => 13 - (intOf i).toNat)
    case atStart =>
      refine ⟨0, Nat.zero_le _, rfl, ?_, World.ownsRow_nil _ _ _ _, ?_, by simp⟩
      · rw [HL.out]
        exact (IntsAt.alloc (IntsAt.alloc (IntsAt.new_at _ [0, 1, 2, 3, 4, 5, 6, 7, 8, 9, 10, 11, 12] 2 (w.heap.size + 2) 13 (by simp) rfl) _) _)
      · repeat (first | exact Below.refl _ _ | refine Below.alloc ?_ (by first | omega | (simp; omega) | simp) _)
    case round =>
      obtain ⟨k, hk, rfl, hI, hown, hbr, hsz⟩ := hrel
      by_cases hlt : k < 13
      · obtain ⟨_, _, z, e1, _, hz, hcz⟩ := hI.at_ hlt
        simp only [Option.some.injEq, Addr.mk.injEq, and_true] at e1
        obtain ⟨rfl, rfl⟩ := e1
        rw [Nat.zero_add] at hcz
        have zb := hbd k z hz
        have H := Lib.hid (scaleU_succ (root := r) hz)
        have HB := Lib.hid hbr
        have HI := Lib.hid hI
        have hbs := hbr.size
        have hi1 : (k : Int) < 13 := by omega
        clear hz hI hbr hbd
        go_wp2_with ((at_builtin; refine wpList_append_lies _ rfl _ _ _ rfl (w.heap.size + 5) 2 i0 _ 1 8 Tryd.underlying24 hi hz0 hz1 hz2 rfl (by omega) _ (k) _ rfl (hown.alloc _) ⟨wr.heap.size, 0, none⟩ 1 1 [.int .i64 (r + z)] rfl rfl (World.news_of_block (cs := #[.int .i64 (r + z)]) (t := 2) (fr := (0, 0)) (heap_alloc_new wr _)) (by simp [Value.oneCell']) (by omega) (by unfold maxLen; omega) (by omega) (by simp; omega) (wr.heap.size + 1) (by simp) ?_; intro gg cap w3 hown1 hgrow hat hlt'))
        go_roundw
        case rel =>
          refine ⟨k + 1, by omega, by go_num, IntsAt.grown_far (HI.out.alloc _) hgrow (own_row_lt hown (by omega)), ?_, ?_, ?_⟩
          · rw [← H.out]; exact hown1
          · exact (HB.out.alloc hbs _).grown hgrow (by simp; omega) (by intro g hg; have := (hown.lt g hg).1; omega)
          · have := hgrow.size; simp at this; omega
        case measure => simp [intOf]; omega
      · obtain rfl : k = 13 := by omega
        obtain ⟨A', cc, rfl⟩ := own_shape hown
        have HO := Lib.hid hown
        have HB := Lib.hid hbr
        clear hown hbr hI hbd
        go_wp2
        go_ret2
        exact ⟨A', _, cc, rfl, by rw [← scaleU_all hLn]; exact row_weaken HO.out (by omega), HB.out⟩
  · have HL : Hid (L = [0, 2, 4, 7, 9, 12]) := hL.symm
    have hLn : L.length = 6 := by rw [HL.out]; rfl
    clear hL
    go_enter Tryd.func9, Tryd.ntmps9
    go_wp2_with fail
    refine (isNote_is h1 _).mono ?_
    rintro e w' ⟨rfl, rfl⟩
    go_wp2_with (go_at_call 15; refine (within_is h2 _).mono ?_; rintro e w' ⟨rfl, rfl⟩)
    refine (isNote_is h3 _).mono ?_
    rintro e w' ⟨rfl, rfl⟩
    go_wp2
    go_loopw [7, 9, 33] (fun v _ i wr => ∃ (k : Nat), k ≤ 6 ∧ i = .int .i64 k ∧ IntsAt wr (some ⟨w.heap.size + 3, 0, none⟩) 6 L ∧ wr.ownsRow (w.heap.size + 5) 2 1 v k ((scaleU r L k).map (Value.int .i64)) ∧ Below w.heap.size w wr ∧ w.heap.size + 5 ≤ wr.heap.size) (fun _ _ i _ => 6 - (intOf i).toNat)
    case atStart =>
      refine ⟨0, Nat.zero_le _, rfl, ?_, World.ownsRow_nil _ _ _ _, ?_, by simp⟩
      · rw [HL.out]
        exact (IntsAt.alloc (IntsAt.new_at _ [0, 2, 4, 7, 9, 12] 2 (w.heap.size + 3) 6 (by simp) rfl) _)
      · repeat (first | exact Below.refl _ _ | refine Below.alloc ?_ (by first | omega | (simp; omega) | simp) _)
    case round =>
      obtain ⟨k, hk, rfl, hI, hown, hbr, hsz⟩ := hrel
      by_cases hlt : k < 6
      · obtain ⟨_, _, z, e1, _, hz, hcz⟩ := hI.at_ hlt
        simp only [Option.some.injEq, Addr.mk.injEq, and_true] at e1
        obtain ⟨rfl, rfl⟩ := e1
        rw [Nat.zero_add] at hcz
        have zb := hbd k z hz
        have H := Lib.hid (scaleU_succ (root := r) hz)
        have HB := Lib.hid hbr
        have HI := Lib.hid hI
        have hbs := hbr.size
        have hi1 : (k : Int) < 6 := by omega
        clear hz hI hbr hbd
        go_wp2_with ((at_builtin; refine wpList_append_lies _ rfl _ _ _ rfl (w.heap.size + 5) 2 i0 _ 1 8 Tryd.underlying24 hi hz0 hz1 hz2 rfl (by omega) _ (k) _ rfl (hown.alloc _) ⟨wr.heap.size, 0, none⟩ 1 1 [.int .i64 (r + z)] rfl rfl (World.news_of_block (cs := #[.int .i64 (r + z)]) (t := 2) (fr := (0, 0)) (heap_alloc_new wr _)) (by simp [Value.oneCell']) (by omega) (by unfold maxLen; omega) (by omega) (by simp; omega) (wr.heap.size + 1) (by simp) ?_; intro gg cap w3 hown1 hgrow hat hlt'))
        go_roundw
        case rel =>
          refine ⟨k + 1, by omega, by go_num, IntsAt.grown_far (HI.out.alloc _) hgrow (own_row_lt hown (by omega)), ?_, ?_, ?_⟩
          · rw [← H.out]; exact hown1
          · exact (HB.out.alloc hbs _).grown hgrow (by simp; omega) (by intro g hg; have := (hown.lt g hg).1; omega)
          · have := hgrow.size; simp at this; omega
        case measure => simp [intOf]; omega
      · obtain rfl : k = 6 := by omega
        obtain ⟨A', cc, rfl⟩ := own_shape hown
        have HO := Lib.hid hown
        have HB := Lib.hid hbr
        clear hown hbr hI hbd
        go_wp2
        go_ret2
        exact ⟨A', _, cc, rfl, by rw [← scaleU_all hLn]; exact row_weaken HO.out (by omega), HB.out⟩
end Go.Proofs.YtlcppfoedijccaaDoor
