/- The law FnExactNoteFrequency of the given program holds: for every input it returns true, and its arguments read afterwards as before. No condition. -/
import Derived.Test.YtdmfmpfdkfijeaaBase
import Derived.Test.YtdmfmpfdkfijeaaNoteF
import Derived.Test.YtdmfmpfdkfijeaaOpenT
namespace Go.Proofs.Ytdmfmpfdkfijeaa.fnExactNoteFrequency
open Go.ChangeShapes Go.WideShapes Go.ChangeAt Go.RowKit
set_option maxRecDepth 100000
set_option linter.unusedVariables false

theorem t2lit (s : ByteArray) (A : Option Addr) (n c : Nat) (w : World) (t : TypeId) : Below w.heap.size w (w.alloc (.cells #[.string s, .slice A n c] t)) := (Below.refl _ _).alloc (Nat.le_refl _) _
set_option maxRecDepth 100000 in
set_option maxHeartbeats 4000000 in
theorem walk_of (s : ByteArray) {A : Option Addr} {n c : Nat} {zs : List Int} (p : Int) (k : Int) (u v : Int) (w : World) (h : IntsAt w A n zs) (hsz : s.size + n ≤ 1048576) 
    (hS : ∀ (w1 : World) (A1 : Option Addr) (c1 : Nat), IntsAt w1 A1 n zs → Calls Try.prog 5 #[.agg #[.string s, .slice A1 n c1], .int .i64 p, .int .i64 k] w1 fun x w' => x = .returned (.tuple #[.int .i64 u, .int .i64 v]) ∧ Below w1.heap.size w1 w')
    (hI : ∀ (w1 : World) (A1 : Option Addr) (c1 : Nat), IntsAt w1 A1 n zs → Calls Try.prog 7 #[.agg #[.string s, .slice A1 n c1], .int .i64 p, .int .i64 k] w1 fun x w' => x = .returned (.tuple #[.int .i64 u, .int .i64 v]) ∧ Below w1.heap.size w1 w') :
    Calls Try.prog 3 #[.agg #[.string s, .slice A n c], .int .i64 p, .int .i64 k] w fun e w' => e = .returned (.bool true) ∧ Below w.heap.size w w' := by
  have h0 := h.alloc (.cells #[.string s, .slice A n c] 24)
  have HS := Lib.hid hS
  have HI := Lib.hid hI
  have hn : n ≤ 1048576 := by omega
  clear h hS hI
  go_enter Try.func3, Try.ntmps3
  go_wp2_with fail
  refine (szT_ok s A n c 1048576 _ _ rfl hsz (by omega)).mono ?_
  rintro x w1 ⟨r, _, rfl, hb1⟩
  have i1 := h0.below hb1
  obtain ⟨hc, hf⟩ := bcell hb1
  go_wp2_with fail
  refine (toTemp_any _ _ _ _ zs _ i1 hn).mono ?_
  rintro x w2 ⟨g2, c2, rfl, hg2, ho2, hb2⟩
  go_wp2_with fail
  refine (HS.out _ _ _ (IntsAt.of_own ho2)).mono ?_
  rintro x w3 ⟨rfl, hb3⟩
  have hb4 := below_two (below_two hb1 hb2 (Nat.le_refl _)) hb3 (Nat.le_refl _)
  have i4 := h0.below hb4
  clear hc hf i1 ho2 hb1 hb2 hb3
  obtain ⟨hc, hf⟩ := bcell hb4
  go_wp2_with fail
  refine (toTemp_any _ _ _ _ zs _ i4 hn).mono ?_
  rintro x w5 ⟨g5, c5, rfl, hg5, ho5, hb5⟩
  have i5 := IntsAt.of_own ho5
  have hl5 := hb4.size
  go_wp2_with fail
  refine (HI.out _ _ _ (by repeat (first | exact i5 | refine IntsAt.alloc ?_ _))).mono ?_
  rintro x w6 ⟨rfl, hb6⟩
  have hb7 := (hb5.alloc hb5.size (.cells #[.string s, .slice (some ⟨g5, 0, none⟩) n c5] 28)).trans (hb6.mono (by simp; exact Nat.le_succ_of_le hb5.size))
  have hb8 := below_two hb4 hb7 (Nat.le_refl _)
  have i8 := h0.below hb8
  have x8 := (i5.alloc (.cells #[.string s, .slice (some ⟨g5, 0, none⟩) n c5] 28)).below hb6
  have hz6 : w5.heap.size < w6.heap.size := by have := hb6.size; simp only [World.size_alloc] at this; omega
  have hz5 : w.heap.size < w5.heap.size := by have h1 := hb5.size; have h2 := hb4.size; simp only [World.size_alloc] at h2; omega
  have hz56 : w.heap.size < w6.heap.size := Nat.lt_trans hz5 hz6
  obtain ⟨q0, q1⟩ := cells2 (g := w5.heap.size) (a := .string s) (b := .slice (some ⟨g5, 0, none⟩) n c5) hb6 (by simp) (by go_simp) (by go_simp)
  obtain ⟨p0, p1⟩ := cells2 (g := w.heap.size) (a := .string s) (b := .slice A n c) hb8 (by simp) (by go_simp) (by go_simp)
  have i8d : IntsAt w6.drew A n zs := i8
  have x8d : IntsAt w6.drew (some ⟨g5, 0, none⟩) n zs := x8
  clear hc hf i4 ho5 hb4 hb5 hb6 hb7 i8 x8
  go_wp2_with fail
  go_region_with (first
    | (go_at_call 6; refine (toTemp_any _ _ _ _ zs _ i8d hn).mono ?_; rintro x w9 ⟨g9, c9, rfl, hg9, ho9, hb9⟩; obtain ⟨q2, q3⟩ := cells2 (w := w6.drew) hb9 hz6 q0 q1; obtain ⟨p2, p3⟩ := cells2 (w := w6.drew) hb9 hz56 p0 p1)
    | (go_at_call 8; refine (eqTemp_same _ _ _ _ _ _ _ zs _ (x8d.below hb9) (IntsAt.of_own ho9) hn hn).mono ?_; rintro x w10 ⟨rfl, hb10⟩))
  all_goals
    have hB := below_two (below_two (hb8.drew) hb9 (Nat.le_refl _)) hb10 (Nat.le_refl _)
    go_wp2
    go_ret
    exact ⟨rfl, (t2lit s A n c w 24).trans (hB.mono (t2lit s A n c w 24).size)⟩
set_option maxRecDepth 100000 in
theorem walk_out (s : ByteArray) (A : Option Addr) (n c : Nat) (p : Int) (k : Int) (w : World) (ws : s.size ≤ maxLen) (hn : n ≤ maxLen) (hsz : ¬ s.size + n ≤ 1048576) :
    Calls Try.prog 3 #[.agg #[.string s, .slice A n c], .int .i64 p, .int .i64 k] w fun e w' => e = .returned (.bool true) ∧ Below w.heap.size w w' := by
  go_enter Try.func3, Try.ntmps3
  go_wp2_with fail
  refine (szT_no s A n c 1048576 _ _ rfl hsz (by omega) ws hn).mono ?_
  rintro x w1 ⟨rfl, hb1⟩
  go_wp2
  go_ret
  exact ⟨rfl, (t2lit s A n c w 24).trans (hb1.mono (t2lit s A n c w 24).size)⟩
theorem walk {w : World} (s : ByteArray) (ws : s.size ≤ maxLen) {A : Option Addr} {n c : Nat} {zs : List Int} (hx : IntsAt w A n zs ∧ n ≤ maxLen) (p : Int) (wp : (Lit.int .i64 p).wf = true) (k : Int) (wk : (Lit.int .i64 k).wf = true) :
    Calls Try.prog 3 #[.agg #[.string s, .slice A n c], .int .i64 p, .int .i64 k] w fun e w' => e = .returned (.bool true) ∧ Below w.heap.size w w' := by
  by_cases hsz : s.size + n ≤ 1048576
  case neg => exact walk_out s A n c p k w ws hx.2 hsz
  exact walk_of s p k (nfV s zs p k) (nfC s zs p k) w hx.1 hsz (fun w1 A1 c1 h1 => noteF_spec s A1 n c1 zs p k w1 h1 (by omega) ws) (fun w1 A1 c1 h1 => noteF_impl s A1 n c1 zs p k w1 h1 (by omega) ws)

set_option maxRecDepth 100000 in
theorem lifted (os : Os) (started : os.Started) (H : Type) (enc : TypeId × Value → H) :
    ReturnsInHanded {} Try.checked os 3 .any (Rows.fnExactNoteFrequencySpec.pre6 enc Try.prog Try.f3 Rows.fnExactNoteFrequencyRow.domain false) (Rows.fnExactNoteFrequencySpec.post enc Try.prog Try.f3 false true false false) := by
  refine returnsInHanded_of_change_shaped (C := Try.checked) own started (by kernel_rfl) Try.func3
    (ChangeSpec.witness6 (enc := enc) (C := Try.checked) false ⟨#[], #[.agg #[.string ⟨#[]⟩, .slice none 0 0], .int .i64 0, .int .i64 0], []⟩ 8 (by kernel_rfl) (by kernel_rfl) (by kernel_rfl) (by kernel_rfl)) ?_
  intro W base args ds gs before hval0 hW hcnd0 hsz0 hsh hholds
  have hval : ∀ (j : Nat) t v, Try.f3.params[j]? = some t → args[j]? = some v → Value.okWide Try.prog W .any base t v := hval0
  have hsz : (DataW.weightsEach Try.prog (Try.f3.params.toList ++ Rows.fnExactNoteFrequencySpec.plain.varTypes Try.prog) (ds ++ gs)).all (· ≤ reachBytes) = true := hsz0
  clear hsz0 hcnd0 hholds hval0
  have hWW := hW
  obtain ⟨p, q, hA0, hV, rfl, hfz, hnd⟩ := hW
  have hA : DataW.TrodAll enc Try.prog W 0 (fun _ => true) true Try.f3.params.toList args.toList ds p := hA0
  clear hA0
  have hlt : ∀ x ∈ p ++ q, x.block < W.heap.size := fun x hx => hWW.lt x hx
  rw [Try.params3] at hA hval hsz
  obtain ⟨v0, vs0, d0, ds0, p0, q0, hargs, rfl, rfl, h0, r0⟩ := trodAll_cons hA
  obtain ⟨v1, vs1, d1, ds1, p1, q1, rfl, rfl, rfl, h1, r1⟩ := trodAll_cons r0
  obtain ⟨v2, vs2, d2, ds2, p2, q2, rfl, rfl, rfl, h2, r2⟩ := trodAll_cons r1
  obtain ⟨rfl, rfl, rfl⟩ := trodAll_nil r2
  obtain rfl : args = #[v0, v1, v2] := by cases args; simp_all
  obtain ⟨rfl, rfl⟩ := trodVars_none hV
  clear hargs hV hfz hnd
  have fin : ∀ W', Below W.heap.size W W' → Rows.fnExactNoteFrequencySpec.post enc Try.prog Try.f3 false true false false W #[v0, v1, v2] (.bool true) W' := fun W' hb =>
    post_true (tb := 4) (by kernel_rfl) hWW rfl Try.underlying4 rfl rfl rfl rfl hb
  clear hWW
  obtain ⟨s0, A0, n0, c0, xs0, rfl, w0, hx0⟩ := open_temperament (hval 0 24 v0 rfl rfl) h0 (fun x hx => hlt x (by simp [hx]))
  obtain ⟨a1, rfl, rfl, rfl, w1⟩ := open_int Try.underlying2 (hval 1 2 v1 rfl rfl) h1
  obtain ⟨a2, rfl, rfl, rfl, w2⟩ := open_int Try.underlying2 (hval 2 2 v2 rfl rfl) h2
  refine (walk s0 w0 hx0 a1 w1 a2 w2  (w := W)).mono fun e W' ⟨he, hb⟩ => ?_
  subst he
  exact ⟨_, rfl, fin _ hb⟩

/-- The statement. -/
theorem proved : Rows.FnExactNoteFrequencySaid :=
  OpenClaim.holds_of_wide 3 Try.f3 rfl rfl rfl rfl rfl rfl rfl ⟨rfl, rfl, rfl, rfl, rfl⟩ rfl rfl rfl rfl rfl (by kernel_rfl) Try.func3 (by kernel_rfl)
    (of_decide_eq_true (by kernel_rfl)) (by unfold Func.isWrapper; first | (rw [if_pos (by decide +kernel)]; kernel_rfl) | (rw [if_neg (by decide +kernel)]; exact ⟨rfl, rfl⟩))
    (fun os started H enc _ => lifted os started H enc)
#print axioms proved
end Go.Proofs.Ytdmfmpfdkfijeaa.fnExactNoteFrequency
