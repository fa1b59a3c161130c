/- Contracts of the name of a note. -/
import Derived.Test.YtlcppfoedijccaaDoorCents
namespace Go.Proofs.YtlcppfoedijccaaDoor
open Go.ChangeShapes Go.WideShapes Go.ChangeAt Go.RowKit
set_option maxRecDepth 100000

def noteL : Array ByteArray := #[⟨#[99]⟩, ⟨#[99, 115]⟩, ⟨#[100]⟩, ⟨#[100, 115]⟩, ⟨#[101]⟩, ⟨#[102]⟩, ⟨#[102, 115]⟩, ⟨#[103]⟩, ⟨#[103, 115]⟩, ⟨#[97]⟩, ⟨#[97, 115]⟩, ⟨#[98]⟩]
def noteNm (k : Nat) : ByteArray := noteL.getD k ⟨#[]⟩
def noteT (n : Int) : ByteArray := noteNm (n % 12).toNat ++ decS (n.tdiv 12 - 1)
def noteS (n : Int) : ByteArray := if inB n 0 127 then noteT n else ⟨#[]⟩
theorem noteNm_size {k : Nat} (h : k < 12) : (noteNm k).size ≤ 2 := by
  rcases (show k = 0 ∨ k = 1 ∨ k = 2 ∨ k = 3 ∨ k = 4 ∨ k = 5 ∨ k = 6 ∨ k = 7 ∨ k = 8 ∨ k = 9 ∨ k = 10 ∨ k = 11 from by omega) with rfl | rfl | rfl | rfl | rfl | rfl | rfl | rfl | rfl | rfl | rfl | rfl <;> decide
theorem note_cell (w : World) {k : Nat} (h : k < 12) (ty : TypeId) :
    (w.alloc (.cells #[.string ⟨#[99]⟩, .string ⟨#[99, 115]⟩, .string ⟨#[100]⟩, .string ⟨#[100, 115]⟩, .string ⟨#[101]⟩, .string ⟨#[102]⟩, .string ⟨#[102, 115]⟩, .string ⟨#[103]⟩, .string ⟨#[103, 115]⟩, .string ⟨#[97]⟩, .string ⟨#[97, 115]⟩, .string ⟨#[98]⟩] ty)).cell? ⟨w.heap.size, k, none⟩ = some (.string (noteNm k)) := by
  rcases (show k = 0 ∨ k = 1 ∨ k = 2 ∨ k = 3 ∨ k = 4 ∨ k = 5 ∨ k = 6 ∨ k = 7 ∨ k = 8 ∨ k = 9 ∨ k = 10 ∨ k = 11 from by omega) with rfl | rfl | rfl | rfl | rfl | rfl | rfl | rfl | rfl | rfl | rfl | rfl <;> go_simp <;> rfl
theorem parts12 {n : Int} (h : inB n 0 127 = true) : ∃ k : Nat, k < 12 ∧ n % 12 = k ∧ (0 ≤ n.tdiv 12 ∧ n.tdiv 12 ≤ 10) ∧ (Lit.int .i64 (n.tdiv 12 - 1)).wf = true ∧ noteT n = noteNm k ++ decS (n.tdiv 12 - 1) := by
  have hb := inB_iff.1 h
  have h2 : n.tdiv 12 = n / 12 := Int.tdiv_eq_ediv_of_nonneg hb.1
  refine ⟨(n % 12).toNat, by omega, by omega, by omega, wf_of (by omega), rfl⟩
theorem isNote_is {n : Int} {r : Bool} (h : inB n 0 127 = r) (w : World) : Calls Tryd.prog 13 #[.int .i64 n] w fun e w' => e = .returned (.bool r) ∧ w = w' := by
  go_enter Tryd.func13, Tryd.ntmps13
  go_wp2_with (go_at_call 15; refine (within_is h _).mono ?_; rintro e w' ⟨rfl, rfl⟩)
  go_ret
  exact ⟨rfl, rfl⟩
theorem noteN_no (n : Int) (h : inB n 0 127 = false) (w : World) : Calls Tryd.prog 8 #[.int .i64 n] w fun e w' => e = .returned (.string (noteS n)) ∧ w' = w := by
  have HC := Lib.hid (show (⟨#[]⟩ : ByteArray) = noteS n by unfold noteS; rw [h]; rfl)
  go_enter Tryd.func8, Tryd.ntmps8
  go_wp2_with (go_at_call 13; refine (isNote_is h _).mono ?_; rintro e w' ⟨rfl, rfl⟩)
  go_ret
  refine ⟨?_, rfl⟩
  rw [← HC.out]
  rfl
set_option maxHeartbeats 1000000 in
theorem noteN_impl (n : Int) (h : inB n 0 127 = true) (w : World) (ht : Tab w) : Calls Tryd.prog 8 #[.int .i64 n] w fun e w' => e = .returned (.string (noteS n)) ∧ Below w.heap.size w w' := by
  have HTab := Lib.hid ht
  clear ht
  obtain ⟨k, hk12, hk, b1, p1, hT⟩ := parts12 h
  have hb := inB_iff.1 h
  have HT := Lib.hid (show noteS n = noteNm k ++ decS (n.tdiv 12 - 1) by unfold noteS; rw [if_pos h]; exact hT)
  have z1 := decS_size (wf_lo p1)
  have z2 := noteNm_size hk12
  have hd := note_cell w hk12 9
  have HB0 := Lib.hid ((Below.refl w.heap.size w).alloc (Nat.le_refl _) (.cells #[.string ⟨#[99]⟩, .string ⟨#[99, 115]⟩, .string ⟨#[100]⟩, .string ⟨#[100, 115]⟩, .string ⟨#[101]⟩, .string ⟨#[102]⟩, .string ⟨#[102, 115]⟩, .string ⟨#[103]⟩, .string ⟨#[103, 115]⟩, .string ⟨#[97]⟩, .string ⟨#[97, 115]⟩, .string ⟨#[98]⟩] 9))
  generalize noteNm k = t at *
  clear hT
  have hc3 : ¬ (9223372036854775807 < t.size + (decS (n.tdiv 12 - 1)).size) := by omega
  have hk0 : (0 : Int) ≤ (k : Int) := Int.natCast_nonneg _
  have hki : (k : Int) < 12 := by omega
  have hn0 := hb.1
  have hw1 : IntKind.i64.wrap (n.tdiv 12) = n.tdiv 12 := IntWalk.i64_in _ (by omega)
  have hw2 : IntKind.i64.wrap (n.tdiv 12 - 1) = n.tdiv 12 - 1 := IntWalk.i64_in _ (by omega)
  have hk2 : n.tmod 12 = (k : Int) := by rw [Int.tmod_eq_emod_of_nonneg hn0, hk]
  go_enter Tryd.func8, Tryd.ntmps8
  go_wp2_with (go_at_call 13; refine (isNote_is h _).mono ?_; rintro e w' ⟨rfl, rfl⟩)
  go_region_held3 (fun w' => w'.cell? ⟨w.heap.size, k, none⟩ = some (.string t))
    (first
      | exact (hb3.cell (p := ⟨w.heap.size, k, none⟩) (by simp)).trans hd
      | exact hd
      | go_keep)
    ((go_at_call 14; refine (decimal_impl _ p1 _ (HTab.out.below HB0.out.drew)).mono ?_; rintro e w3 ⟨rfl, hb3⟩))
  have hz3 := (HB0.out.drew).trans (hb3.mono HB0.out.drew.size)
  clear hd hb3
  go_wp2
  go_ret
  refine ⟨?_, hz3⟩
  rw [HT.out]
  rfl
theorem noteN_any (n : Int) (w : World) (ht : Tab w) : Calls Tryd.prog 8 #[.int .i64 n] w fun e w' => e = .returned (.string (noteS n)) ∧ Below w.heap.size w w' := by
  cases h : inB n 0 127 with
  | false => exact (noteN_no n h w).mono fun e w' ⟨a, b⟩ => ⟨a, b ▸ Below.refl _ _⟩
  | true => exact noteN_impl n h w ht
end Go.Proofs.YtlcppfoedijccaaDoor
