/- Contracts of the text of a temperament. -/
import Derived.Test.YtdmfmpfdkfijeaaDoorListT
import Derived.Test.YtdmfmpfdkfijeaaDoorTempV
namespace Go.Proofs.YtdmfmpfdkfijeaaDoor
open Go.ChangeShapes Go.WideShapes Go.ChangeAt Go.RowKit
set_option maxRecDepth 100000

noncomputable def tempT (s : ByteArray) (zs : List Int) : ByteArray := s ++ ⟨#[32]⟩ ++ listT zs
noncomputable def tempS (s : ByteArray) (zs : List Int) : ByteArray := if tempB s zs then tempT s zs else ⟨#[]⟩
theorem Tab.alloc {w : World} (h : Tab w) (o : Obj) : Tab (w.alloc o) := h.below ((Below.refl _ _).alloc (Nat.le_refl _) o)
theorem temp_vals {s : ByteArray} {zs : List Int} (h : tempB s zs = true) : zs.length = 12 ∧ zs.all valB = true ∧ zs ≠ [] := by
  simp only [tempB, Bool.and_eq_true, decide_eq_true_eq] at h
  refine ⟨h.2.1, ?_, fun h0 => ?_⟩
  · rw [List.all_eq_true]
    intro z hz
    have := inB_iff.1 (List.all_eq_true.1 h.2.2 z hz)
    exact inB_iff.2 (by omega)
  · rw [h0] at h; exact absurd h.2.1 (by simp)
theorem listT_size {zs : List Int} (h : zs.length = 12) (hv : zs.all valB = true) : (listT zs).size ≤ 1400 := by
  have hne : zs ≠ [] := fun h0 => by rw [h0] at h; exact absurd h (by simp)
  unfold listT
  rw [if_neg hne]
  have := listL_size (zs := zs) (k := 12) (fun j z _ hz => val_get hv j z hz) (by omega)
  rw [List.take_of_length_le (by omega)] at this
  exact this
theorem listS_of {zs : List Int} (h : zs.length = 12) (hv : zs.all valB = true) : listS zs = listT zs := by
  unfold listS fitsB
  rw [hv, if_pos (by simp [h])]
set_option maxHeartbeats 1000000 in
theorem l03Line_is (s : ByteArray) (A : Option Addr) (n c : Nat) (zs : List Int) (g : Nat) (w : World) (h : IntsAt w A n zs) (hT : tempB s zs = true) (hg : g < w.heap.size)
    (c0 : w.cell? ⟨g, 0, none⟩ = some (.string s)) (c1 : w.cell? ⟨g, 1, none⟩ = some (.slice A n c)) :
    Calls Tryd.prog 77 #[.pointer (some ⟨g, 0, none⟩)] w fun e w' => e = .returned (.string (tempT s zs)) ∧ Below w.heap.size w w' := by
  obtain ⟨v1, v2, v3⟩ := temp_vals hT
  have hl := h.len
  have HL := Lib.hid (fun w1 (h1 : IntsAt w1 A n zs) => l01List_is A n c zs w1 h1 (by omega) v2)
  have HV := Lib.hid (show tempT s zs = s ++ ⟨#[32]⟩ ++ listT zs from rfl)
  have hz := listT_size v1 v2
  have hs' := temp_name hT
  clear v2 v3 hT
  generalize listT zs = t at *
  have hc1 : ¬ (9223372036854775807 < s.size + 1) := by omega
  have hc2 : ¬ (9223372036854775807 < s.size + 1 + t.size) := by omega
  have h1 : IntsAt w.drew A n zs := h
  go_enter Tryd.func77, Tryd.ntmps77
  go_wp2
  go_region_held3 (fun w' => w'.cell? ⟨g, 0, none⟩ = some (.string s) ∧ w'.cell? ⟨g, 1, none⟩ = some (.slice A n c))
    (first
      | (exact ⟨(hb3.cell (p := ⟨g, 0, none⟩) hg).trans c0, (hb3.cell (p := ⟨g, 1, none⟩) hg).trans c1⟩)
      | (exact ⟨c0, c1⟩)
      | go_keep)
    ((go_at_call 66; refine (HL.out _ h1).mono ?_; rintro e w3 ⟨rfl, hb3⟩))
  have hb4 := hb3
  clear hb3
  go_wp2
  go_ret
  refine ⟨?_, ?_⟩
  · rw [HV.out]; rfl
  · exact ((Below.refl _ w).drew).trans hb4
set_option maxHeartbeats 1000000 in
theorem temp_spec (s : ByteArray) (A : Option Addr) (n c : Nat) (zs : List Int) (w : World) (h : IntsAt w A n zs) (hn : n ≤ 1048576) (hs : s.size ≤ maxLen) :
    Calls Tryd.prog 39 #[.agg #[.string s, .slice A n c]] w fun e w' => e = .returned (.string (tempS s zs)) ∧ Below w.heap.size w w' := by
  have H0 := Lib.hid (h.alloc (.cells #[.string s, .slice A n c] 35))
  have HO := Lib.hid (fun w1 => l03Ok_any s A n c zs w.heap.size w1)
  have HB0 := Lib.hid ((Below.refl w.heap.size w).alloc (Nat.le_refl _) (.cells #[.string s, .slice A n c] 35))
  have HLN := Lib.hid (fun w1 => l03Line_is s A n c zs w.heap.size w1)
  clear h
  cases hT : tempB s zs with
  | false =>
    have HC := Lib.hid (show (⟨#[]⟩ : ByteArray) = tempS s zs by unfold tempS; rw [hT]; rfl)
    rw [hT] at HO
    clear hT
    go_enter Tryd.func39, Tryd.ntmps39
    go_wp2_with fail
    refine (HO.out _ H0.out hn hs (by go_simp) (by go_simp)).mono ?_
    rintro e w' ⟨rfl, rfl⟩
    go_wp2
    go_ret
    exact ⟨by rw [← HC.out]; rfl, HB0.out⟩
  | true =>
    have HC := Lib.hid (show tempT s zs = tempS s zs by unfold tempS; rw [hT]; rfl)
    have HTT := Lib.hid hT
    rw [hT] at HO
    clear hT
    go_enter Tryd.func39, Tryd.ntmps39
    go_wp2_with fail
    refine (HO.out _ H0.out hn hs (by go_simp) (by go_simp)).mono ?_
    rintro e w' ⟨rfl, rfl⟩
    go_wp2_with fail
    refine (HLN.out _ H0.out HTT.out (by simp) (by go_simp) (by go_simp)).mono ?_
    rintro e w1 ⟨rfl, hb1⟩
    have HB1 := Lib.hid (HB0.out.trans (hb1.mono HB0.out.size))
    clear hb1
    go_wp2
    go_ret
    exact ⟨by rw [← HC.out]; rfl, HB1.out⟩
set_option maxHeartbeats 1000000 in
theorem temp_impl (s : ByteArray) (A : Option Addr) (n c : Nat) (zs : List Int) (w : World) (ht : Tab w) (h : IntsAt w A n zs) (hn : n ≤ 1048576) (hs : s.size ≤ maxLen) :
    Calls Tryd.prog 41 #[.agg #[.string s, .slice A n c]] w fun e w' => e = .returned (.string (tempS s zs)) ∧ Below w.heap.size w w' := by
  have HTab := Lib.hid ht
  have H0 := Lib.hid (h.alloc (.cells #[.string s, .slice A n c] 35))
  have HO := Lib.hid (fun w1 (h1 : IntsAt w1 A n zs) => validT_impl s A n c zs w1 h1 hn hs)
  have HB0 := Lib.hid ((Below.refl w.heap.size w).alloc (Nat.le_refl _) (.cells #[.string s, .slice A n c] 35))
  have hl := h.len
  clear h ht
  cases hT : tempB s zs with
  | false =>
    have HC := Lib.hid (show (⟨#[]⟩ : ByteArray) = tempS s zs by unfold tempS; rw [hT]; rfl)
    rw [hT] at HO
    clear hT
    go_enter Tryd.func41, Tryd.ntmps41
    go_wp2_with fail
    refine (HO.out _ H0.out).mono ?_
    rintro e w1 ⟨rfl, hb1⟩
    have HB1 := Lib.hid (HB0.out.trans (hb1.mono HB0.out.size))
    clear hb1
    go_wp2
    go_ret
    exact ⟨by rw [← HC.out]; rfl, HB1.out⟩
  | true =>
    obtain ⟨v1, v2, v3⟩ := temp_vals hT
    have HC := Lib.hid (show s ++ ⟨#[32]⟩ ++ listS zs = tempS s zs by unfold tempS; rw [hT, listS_of v1 v2]; rfl)
    have HL := Lib.hid (fun w1 ht1 (h1 : IntsAt w1 A n zs) => list_impl A n c zs w1 ht1 h1 (by omega))
    have hz := listT_size v1 v2
    rw [← listS_of v1 v2] at hz
    have hs' := temp_name hT
    rw [hT] at HO
    clear hT v2 v3
    generalize listS zs = t at *
    have hc1 : ¬ (9223372036854775807 < s.size + 1) := by omega
    have hc2 : ¬ (9223372036854775807 < s.size + 1 + t.size) := by omega
    go_enter Tryd.func41, Tryd.ntmps41
    go_wp2_with fail
    refine (HO.out _ H0.out).mono ?_
    rintro e w1 ⟨rfl, hb1⟩
    obtain ⟨q0, q1⟩ := cells2 (g := w.heap.size) (a := .string s) (b := .slice A n c) hb1 (by simp) (by go_simp) (by go_simp)
    have h1 : IntsAt w1.drew A n zs := (H0.out.below hb1).drewN 1
    have hg : w.heap.size < w1.heap.size := by have := hb1.size; simp only [World.size_alloc] at this; omega
    have HB1 := Lib.hid ((HB0.out.trans (hb1.mono HB0.out.size)).drew)
    have HT1 := Lib.hid (HTab.out.below HB1.out)
    clear hb1
    go_wp2
    go_region_held3 (fun w' => w'.cell? ⟨w.heap.size, 0, none⟩ = some (.string s) ∧ w'.cell? ⟨w.heap.size, 1, none⟩ = some (.slice A n c))
      (first
        | (exact ⟨(hb3.cell (p := ⟨w.heap.size, 0, none⟩) hg).trans q0, (hb3.cell (p := ⟨w.heap.size, 1, none⟩) hg).trans q1⟩)
        | (exact ⟨q0, q1⟩)
        | go_keep)
      ((go_at_call 34; refine (HL.out _ HT1.out h1).mono ?_; rintro e w3 ⟨rfl, hb3⟩))
    have hb4 := HB1.out.trans (hb3.mono HB1.out.size)
    clear hb3
    go_wp2
    go_ret
    exact ⟨by rw [← HC.out]; rfl, hb4⟩
end Go.Proofs.YtdmfmpfdkfijeaaDoor
