/- Contracts of the strike note, in the program and in the reference. -/
import Derived.Test.YtajlgclodjgiiaaPart
namespace Go.Proofs.Ytajlgclodjgiiaa
open Go.Joins Go.ChangeShapes Go.WideShapes Go.ChangeAt Go.RowKit

theorem strike_inv {a b c d e : Int} (w : World) (h : sB a b c d e = false) : Calls Try.prog 29 #[.agg #[.int .i64 a, .int .i64 b, .int .i64 c, .int .i64 d, .int .i64 e]] w fun x w' => x = .returned (.tuple #[.int .i64 0, .int .i64 1]) ∧ Below w.heap.size w w' := by
  have H := Lib.hid h
  clear h
  go_enter Try.func29, Try.ntmps29
  go_wp2_with (go_at_call 17; refine (valid_is H.out _).mono ?_; rintro x w1 ⟨rfl, hb1⟩)
  go_ret2
  exact ⟨rfl, box_below hb1⟩
theorem strike_no {a b c d e : Int} (w : World) (h : sB a b c d e = true) (hk : inB (nearI e 2) 10000 20000000 = false) : Calls Try.prog 29 #[.agg #[.int .i64 a, .int .i64 b, .int .i64 c, .int .i64 d, .int .i64 e]] w fun x w' => x = .returned (.tuple #[.int .i64 0, .int .i64 6]) ∧ Below w.heap.size w w' := by
  have hbd := sB_bd h
  have H := Lib.hid h
  clear h
  go_enter Try.func29, Try.ntmps29
  go_wp2_with (first
    | (go_at_call 17; refine (valid_is H.out _).mono ?_; rintro x w1 ⟨rfl, hb1⟩; obtain ⟨hcc, hff⟩ := bcell hb1)
    | (go_at_call 68; refine (nearest_any _ _ (by omega) (by omega) (by omega) (by omega) (by omega) _).mono ?_; rintro x w' ⟨rfl, nq, rfl⟩)
    | (go_at_call 69; refine (isFreq_is hk _).mono ?_; rintro x w' ⟨rfl, rfl⟩))
  go_ret2
  exact ⟨rfl, below_drewN (box_below hb1) nq⟩
theorem strike_ok {a b c d e : Int} (w : World) (h : sB a b c d e = true) (hk : inB (nearI e 2) 10000 20000000 = true) : Calls Try.prog 29 #[.agg #[.int .i64 a, .int .i64 b, .int .i64 c, .int .i64 d, .int .i64 e]] w fun x w' => x = .returned (.tuple #[.int .i64 (nearI e 2), .int .i64 0]) ∧ Below w.heap.size w w' := by
  have hbd := sB_bd h
  have H := Lib.hid h
  clear h
  go_enter Try.func29, Try.ntmps29
  go_wp2_with (first
    | (go_at_call 17; refine (valid_is H.out _).mono ?_; rintro x w1 ⟨rfl, hb1⟩; obtain ⟨hcc, hff⟩ := bcell hb1)
    | (go_at_call 68; refine (nearest_any _ _ (by omega) (by omega) (by omega) (by omega) (by omega) _).mono ?_; rintro x w' ⟨rfl, nq, rfl⟩)
    | (go_at_call 69; refine (isFreq_is hk _).mono ?_; rintro x w' ⟨rfl, rfl⟩))
  go_ret2
  exact ⟨rfl, below_drewN (box_below hb1) nq⟩
theorem strike_spec_inv {a b c d e : Int} (w : World) (h : sB a b c d e = false) : Calls Try.prog 28 #[.agg #[.int .i64 a, .int .i64 b, .int .i64 c, .int .i64 d, .int .i64 e]] w fun x w' => x = .returned (.tuple #[.int .i64 0, .int .i64 1]) ∧ Below w.heap.size w w' := by
  have H := Lib.hid h
  clear h
  go_enter Try.func28, Try.ntmps28
  go_wp2_with (go_at_call 52; refine (l04Ok_is H.out _ _ _ (by go_simp) (by go_simp) (by go_simp) (by go_simp) (by go_simp)).mono ?_; rintro x w1 ⟨rfl, hb1⟩)
  go_ret2
  exact ⟨rfl, box_below hb1⟩
theorem strike_spec_no {a b c d e : Int} (w : World) (h : sB a b c d e = true) (hk : inB (nearI e 2) 10000 20000000 = false) : Calls Try.prog 28 #[.agg #[.int .i64 a, .int .i64 b, .int .i64 c, .int .i64 d, .int .i64 e]] w fun x w' => x = .returned (.tuple #[.int .i64 0, .int .i64 6]) ∧ Below w.heap.size w w' := by
  have hbd := sB_bd h
  have H := Lib.hid h
  clear h
  go_enter Try.func28, Try.ntmps28
  go_wp2_with (first
    | (go_at_call 52; refine (l04Ok_is H.out _ _ _ (by go_simp) (by go_simp) (by go_simp) (by go_simp) (by go_simp)).mono ?_; rintro x w1 ⟨rfl, hb1⟩; obtain ⟨hcc, hff⟩ := bcell hb1)
    | (go_at_call 66; refine (l01Div_any _ _ (by omega) (by omega) (by omega) (by omega) (by omega) _).mono ?_; rintro x w' ⟨rfl, rfl⟩)
    | (go_at_call 67; refine (l02Ok_is hk _).mono ?_; rintro x w' ⟨rfl, rfl⟩))
  go_ret2
  exact ⟨rfl, box_below hb1⟩
theorem strike_spec_ok {a b c d e : Int} (w : World) (h : sB a b c d e = true) (hk : inB (nearI e 2) 10000 20000000 = true) : Calls Try.prog 28 #[.agg #[.int .i64 a, .int .i64 b, .int .i64 c, .int .i64 d, .int .i64 e]] w fun x w' => x = .returned (.tuple #[.int .i64 (nearI e 2), .int .i64 0]) ∧ Below w.heap.size w w' := by
  have hbd := sB_bd h
  have H := Lib.hid h
  clear h
  go_enter Try.func28, Try.ntmps28
  go_wp2_with (first
    | (go_at_call 52; refine (l04Ok_is H.out _ _ _ (by go_simp) (by go_simp) (by go_simp) (by go_simp) (by go_simp)).mono ?_; rintro x w1 ⟨rfl, hb1⟩; obtain ⟨hcc, hff⟩ := bcell hb1)
    | (go_at_call 66; refine (l01Div_any _ _ (by omega) (by omega) (by omega) (by omega) (by omega) _).mono ?_; rintro x w' ⟨rfl, rfl⟩)
    | (go_at_call 67; refine (l02Ok_is hk _).mono ?_; rintro x w' ⟨rfl, rfl⟩))
  go_ret2
  exact ⟨rfl, box_below hb1⟩
end Go.Proofs.Ytajlgclodjgiiaa
