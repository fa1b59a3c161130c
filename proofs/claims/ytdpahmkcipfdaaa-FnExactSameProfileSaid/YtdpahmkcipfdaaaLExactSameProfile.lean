/- The law FnExactSameProfile of the given program holds: for every input it returns true, and its arguments read afterwards as before. No condition. -/
import Derived.Test.YtdpahmkcipfdaaaBase
import Derived.Test.YtdpahmkcipfdaaaProfS
import Derived.Test.YtdpahmkcipfdaaaProf
import Derived.Test.YtdpahmkcipfdaaaOpenP
namespace Go.Proofs.Ytdpahmkcipfdaaa.fnExactSameProfile
open Go.ChangeShapes Go.WideShapes Go.ChangeAt Go.RowKit
set_option maxRecDepth 100000
set_option linter.unusedVariables false

theorem keep4 {w w' : World} {g : Nat} {a b c d : Value} (hb : Below w.heap.size w w') (hg : g + 1 < w.heap.size)
    (h : w.cell? ⟨g, 0, none⟩ = some a ∧ w.cell? ⟨g, 1, none⟩ = some b ∧ w.cell? ⟨g + 1, 0, none⟩ = some c ∧ w.cell? ⟨g + 1, 1, none⟩ = some d) :
    w'.cell? ⟨g, 0, none⟩ = some a ∧ w'.cell? ⟨g, 1, none⟩ = some b ∧ w'.cell? ⟨g + 1, 0, none⟩ = some c ∧ w'.cell? ⟨g + 1, 1, none⟩ = some d :=
  ⟨(hb.cell (p := ⟨g, 0, none⟩) (Nat.lt_of_succ_lt hg)).trans h.1, (hb.cell (p := ⟨g, 1, none⟩) (Nat.lt_of_succ_lt hg)).trans h.2.1, (hb.cell (p := ⟨g + 1, 0, none⟩) hg).trans h.2.2.1, (hb.cell (p := ⟨g + 1, 1, none⟩) hg).trans h.2.2.2⟩
theorem two_below (s t : ByteArray) (A B : Option Addr) (n c m d : Nat) (w : World) (u : TypeId) : Below w.heap.size w ((w.alloc (.cells #[.string s, .slice A n c] u)).alloc (.cells #[.string t, .slice B m d] u)) :=
  ((Below.refl _ _).alloc (Nat.le_refl _) _).alloc (by simp) _
attribute [local go_sem ↓] Go.wp_at_zero Go.wp_at_succ
set_option maxHeartbeats 8000000 in
theorem walk_of (s t : ByteArray) {A B : Option Addr} {n c m d : Nat} {xs ys : List R3} (w : World) (hA : RingsAt w A n xs) (hB : RingsAt w B m ys) (h1 : s.size + n ≤ 1048576) (h2 : t.size + m ≤ 1048576 - s.size - n) :
    Calls Try.prog 7 #[.agg #[.string s, .slice A n c], .agg #[.string t, .slice B m d]] w fun e w' => e = .returned (.bool true) ∧ Below w.heap.size w w' := by
  have a0 := (hA.alloc (.cells #[.string s, .slice A n c] 46)).alloc (.cells #[.string t, .slice B m d] 46)
  have b0 := (hB.alloc (.cells #[.string s, .slice A n c] 46)).alloc (.cells #[.string t, .slice B m d] 46)
  have hn : n ≤ 1048576 := by omega
  have hm : m ≤ 1048576 := by omega
  have hBk := Lib.hid (fun w1 (hb : Below w.heap.size w w1) => hB.below hb)
  clear hA hB
  go_enter Try.func7, Try.ntmps7
  go_wp2_with fail
  refine (szP_ok s A n c 1048576 _ _ rfl h1 (by omega)).mono ?_
  rintro x w1 ⟨r, hr, rfl, hb1⟩
  subst hr
  obtain ⟨hc, hf⟩ := bcell hb1
  have hz1 : w.heap.size + 1 < w1.heap.size := by have := hb1.size; simp only [World.size_alloc] at this; omega
  go_wp2_with fail
  refine (szP_ok t B m d (1048576 - s.size - n) _ _ rfl h2 (by omega)).mono ?_
  rintro x w2 ⟨r, _, rfl, hb2⟩
  have hb := below_two hb1 hb2 (Nat.le_refl _)
  have a2 := a0.below hb
  have b2 := b0.below hb
  clear hc hf
  have q1 := keep4 (g := w.heap.size) (w := (w.alloc (.cells #[.string s, .slice A n c] 46)).alloc (.cells #[.string t, .slice B m d] 46)) (a := .string s) (b := .slice A n c) (c := .string t) (d := .slice B m d) hb (by simp) ⟨by go_simp, by go_simp, by go_simp, by go_simp⟩
  have hz2 : w.heap.size + 1 < w2.heap.size := Nat.lt_of_lt_of_le hz1 hb2.size
  clear hb1 hb2
  have HB := Lib.hid ((two_below s t A B n c m d w 46).trans (hb.mono (two_below s t A B n c m d w 46).size))
  clear hb
  have a2d : RingsAt w2.drew A n xs := a2
  have b2d : RingsAt w2.drew B m ys := b2
  go_wp2_with fail
  go_region_held3 (fun w' => w'.cell? ⟨w.heap.size, 0, none⟩ = some (.string s) ∧ w'.cell? ⟨w.heap.size, 1, none⟩ = some (.slice A n c) ∧ w'.cell? ⟨w.heap.size + 1, 0, none⟩ = some (.string t) ∧ w'.cell? ⟨w.heap.size + 1, 1, none⟩ = some (.slice B m d))
    (first
      | exact q1
      | exact q5
      | exact q4
      | exact q3
      | go_keep)
    (first
      | (go_at_call_of 36 s; refine (toProf_any s A n c xs _ a2d hn).mono ?_; rintro x w3 ⟨g3, c3, rfl, hg3, ho3, hb3⟩; have q3 := keep4 (w := w2.drew) hb3 hz2 q1; have hz3 : w.heap.size + 1 < w3.heap.size := Nat.lt_of_lt_of_le hz2 hb3.size)
      | (go_at_call 36; refine (toProf_any t B m d ys _ (b2d.below hb3) hm).mono ?_; rintro x w4 ⟨g4, c4, rfl, hg4, ho4, hb4⟩; have q4 := keep4 hb4 hz3 q3; have hz4 : w.heap.size + 1 < w4.heap.size := Nat.lt_of_lt_of_le hz3 hb4.size)
      | (go_at_call 35; refine (sameP_spec s t _ _ n m c3 c4 xs ys _ ((RingsAt.of_own ho3).below hb4) (RingsAt.of_own ho4) hn hm).mono ?_; rintro x w5 ⟨rfl, hb5⟩; have q5 := keep4 hb5 hz4 q4; have hz5 : w.heap.size + 1 < w5.heap.size := Nat.lt_of_lt_of_le hz4 hb5.size))
  have HB5 := Lib.hid (below_two (below_two (below_two (HB.out.drew) hb3 (Nat.le_refl _)) hb4 (Nat.le_refl _)) hb5 (Nat.le_refl _))
  have a5 : RingsAt w5 A n xs := ((a2d.below hb3).below hb4).below hb5
  have b5 : RingsAt w5 B m ys := ((b2d.below hb3).below hb4).below hb5
  have e5 := q5
  obtain ⟨r0, r1, r2, r3⟩ := e5
  have hzA : w.heap.size < w5.heap.size := Nat.lt_of_succ_lt hz5
  clear a0 b0 a2 b2 a2d b2d q1 q3 q4 hb3 hb4 hb5 ho3 ho4 hg3 hg4 hz1 hz2 hz3 hz4
  go_wp2_with fail
  refine (toProf_any s A n c xs _ a5 hn).mono ?_
  rintro x w6 ⟨g6, c6, rfl, hg6, ho6, hb6⟩
  have q6 := keep4 hb6 hz5 q5
  have hz6 : w.heap.size + 1 < w6.heap.size := Nat.lt_of_lt_of_le hz5 hb6.size
  have hzB : w.heap.size < w6.heap.size := Nat.lt_of_succ_lt hz6
  have e6 := q6
  clear r0 r1 r2 r3 q5
  obtain ⟨r0, r1, r2, r3⟩ := e6
  have i6 := RingsAt.of_own ho6
  have a6 := a5.below hb6
  have b6 := (b5.below hb6).alloc (.cells #[.string s, .slice (some ⟨g6, 0, none⟩) n c6] 51)
  have HB6 := Lib.hid (below_two HB5.out hb6 (Nat.le_refl _))
  clear a5 b5 ho6 hb6 hz5 hzA
  go_wp2_with fail
  refine (toProf_any t B m d ys _ b6 hm).mono ?_
  rintro x w7 ⟨g7, c7, rfl, hg7, ho7, hb7⟩
  have i7 := (RingsAt.of_own ho7).alloc (.cells #[.string t, .slice (some ⟨g7, 0, none⟩) m c7] 51)
  have j6 := ((i6.alloc (.cells #[.string s, .slice (some ⟨g6, 0, none⟩) n c6] 51)).below hb7).alloc (.cells #[.string t, .slice (some ⟨g7, 0, none⟩) m c7] 51)
  obtain ⟨x0, x1⟩ := cells2 (g := w6.heap.size) (a := .string s) (b := .slice (some ⟨g6, 0, none⟩) n c6) hb7 (by simp) (by go_simp) (by go_simp)
  have hz7 : w6.heap.size < w7.heap.size := by have := hb7.size; simp only [World.size_alloc] at this; omega
  have k67 : Below w6.heap.size w6 w7 := ((Below.refl _ _).alloc (Nat.le_refl _) _).trans (hb7.mono (by simp))
  have q7 := keep4 k67 hz6 q6
  have HK67 := Lib.hid k67
  clear k67 ho7 hb7 b6 r0 r1 r2 r3 q6
  go_wp2_with fail
  refine (sameP_impl s t _ _ n m c6 c7 xs ys _ j6 i7 hn hm).mono ?_
  rintro x w8 ⟨rfl, hb8⟩
  have k78 : Below w7.heap.size w7 w8 := ((Below.refl _ _).alloc (Nat.le_refl _) _).trans (hb8.mono (by simp))
  have q8 := keep4 k78 (Nat.lt_trans hz6 hz7) q7
  obtain ⟨y0, y1⟩ := cells2 (g := w7.heap.size) (a := .string t) (b := .slice (some ⟨g7, 0, none⟩) m c7) hb8 (by simp) (by go_simp) (by go_simp)
  obtain ⟨z0, z1⟩ := cells2 k78 hz7 x0 x1
  have hz8 : w7.heap.size < w8.heap.size := by have := hb8.size; simp only [World.size_alloc] at this; omega
  have a8 : RingsAt w8.drew A n xs := (show RingsAt w8 A n xs from (a6.below HK67.out).below k78)
  have i8 : RingsAt w8.drew (some ⟨g6, 0, none⟩) n xs := (show RingsAt w8 _ n xs from j6.below hb8)
  have l8 : RingsAt w8.drew (some ⟨g7, 0, none⟩) m ys := (show RingsAt w8 _ m ys from i7.below hb8)
  have HB8 := Lib.hid (below_two (below_two HB6.out HK67.out (Nat.le_refl _)) k78 (Nat.le_refl _))
  have u68 : w6.heap.size < w8.heap.size := Nat.lt_trans hz7 hz8
  have uA8 : w.heap.size < w8.heap.size := Nat.lt_trans hzB u68
  have uB8 : w.heap.size + 1 < w8.heap.size := Nat.lt_trans hz6 u68
  obtain ⟨r0, r1, r2, r3⟩ := q8
  clear k78 hb8 a6 i6 i7 j6 x0 x1 q7
  go_wp2_with fail
  go_region_held3 (fun w' => w'.cell? ⟨w6.heap.size, 0, none⟩ = some (.string s) ∧ w'.cell? ⟨w6.heap.size, 1, none⟩ = some (.slice (some ⟨g6, 0, none⟩) n c6) ∧ w'.cell? ⟨w.heap.size, 0, none⟩ = some (.string s) ∧ w'.cell? ⟨w.heap.size, 1, none⟩ = some (.slice A n c))
    (first
      | exact ⟨s0, s1, s2, s3⟩
      | exact ⟨v0, v1, v2, v3⟩
      | exact ⟨z0, z1, r0, r1⟩
      | go_keep)
    (first
      | (go_at_call 36; refine (toProf_any s A n c xs _ a8 hn).mono ?_; rintro x w9 ⟨g9, c9, rfl, hg9, ho9, hb9⟩; obtain ⟨v0, v1⟩ := cells2 (w := w8.drew) hb9 u68 z0 z1; obtain ⟨v2, v3⟩ := cells2 (w := w8.drew) hb9 uA8 r0 r1; have u9 := hb9.size)
      | (go_at_call 38; refine (eqProf_same s _ _ n n c6 c9 xs _ (i8.below hb9) (RingsAt.of_own ho9) hn).mono ?_; rintro x w10 ⟨rfl, hb10⟩; obtain ⟨s0, s1⟩ := cells2 hb10 (Nat.lt_of_lt_of_le u68 u9) v0 v1; obtain ⟨s2, s3⟩ := cells2 hb10 (Nat.lt_of_lt_of_le uA8 u9) v2 v3))
  have k8 : Below w8.drew.heap.size w8.drew w10 := below_two hb9 hb10 (Nat.le_refl _)
  obtain ⟨t0, t1⟩ := cells2 (w := w8.drew) k8 hz8 y0 y1
  obtain ⟨t2, t3⟩ := cells2 (w := w8.drew) k8 uB8 r2 r3
  have l10 : RingsAt w10.drew (some ⟨g7, 0, none⟩) m ys := (show RingsAt w10 _ m ys from l8.below k8)
  have b10 : RingsAt w10.drew B m ys := (show RingsAt w10 B m ys from (show RingsAt w8.drew B m ys from hBk.out w8 HB8.out).below k8)
  have HB10 := Lib.hid (below_two (HB8.out.drew) k8 (Nat.le_refl _))
  have u710 : w7.heap.size < w10.heap.size := Nat.lt_of_lt_of_le hz8 k8.size
  have uB10 : w.heap.size + 1 < w10.heap.size := Nat.lt_of_lt_of_le uB8 k8.size
  clear hb9 hb10 k8 a8 i8 l8 s0 s1 s2 s3 v0 v1 v2 v3 z0 z1 r0 r1 r2 r3 y0 y1 ho9 hg9 u9
  go_wp2_with fail
  go_region_held3 (fun w' => w'.cell? ⟨w7.heap.size, 0, none⟩ = some (.string t) ∧ w'.cell? ⟨w7.heap.size, 1, none⟩ = some (.slice (some ⟨g7, 0, none⟩) m c7) ∧ w'.cell? ⟨w.heap.size + 1, 0, none⟩ = some (.string t) ∧ w'.cell? ⟨w.heap.size + 1, 1, none⟩ = some (.slice B m d))
    (first
      | exact ⟨s0, s1, s2, s3⟩
      | exact ⟨v0, v1, v2, v3⟩
      | exact ⟨t0, t1, t2, t3⟩
      | go_keep)
    (first
      | (go_at_call 36; refine (toProf_any t B m d ys _ b10 hm).mono ?_; rintro x w11 ⟨g11, c11, rfl, hg11, ho11, hb11⟩; obtain ⟨v0, v1⟩ := cells2 (w := w10.drew) hb11 u710 t0 t1; obtain ⟨v2, v3⟩ := cells2 (w := w10.drew) hb11 uB10 t2 t3; have u11 := hb11.size)
      | (go_at_call 38; refine (eqProf_same t _ _ m m c7 c11 ys _ (l10.below hb11) (RingsAt.of_own ho11) hm).mono ?_; rintro x w12 ⟨rfl, hb12⟩; obtain ⟨s0, s1⟩ := cells2 hb12 (Nat.lt_of_lt_of_le u710 u11) v0 v1; obtain ⟨s2, s3⟩ := cells2 hb12 (Nat.lt_of_lt_of_le uB10 u11) v2 v3))
  have HB12 := Lib.hid (below_two (below_two (HB10.out.drew) hb11 (Nat.le_refl _)) hb12 (Nat.le_refl _))
  clear hb11 hb12 s0 s1 s2 s3 v0 v1 v2 v3 t0 t1 t2 t3
  go_wp2
  go_ret
  exact ⟨rfl, HB12.out⟩
theorem out1 (s t : ByteArray) (A B : Option Addr) (n c m d : Nat) (w : World) (ws : s.size ≤ maxLen) (hn : n ≤ maxLen) (h1 : ¬ s.size + n ≤ 1048576) :
    Calls Try.prog 7 #[.agg #[.string s, .slice A n c], .agg #[.string t, .slice B m d]] w fun e w' => e = .returned (.bool true) ∧ Below w.heap.size w w' := by
  go_enter Try.func7, Try.ntmps7
  go_wp2_with fail
  refine (szP_no s A n c 1048576 _ _ rfl h1 (by omega) ws hn).mono ?_
  rintro x w1 ⟨rfl, hb1⟩
  go_wp2
  go_ret
  exact ⟨rfl, (two_below s t A B n c m d w 46).trans (hb1.mono (two_below s t A B n c m d w 46).size)⟩
theorem out2 (s t : ByteArray) (A B : Option Addr) (n c m d : Nat) (w : World) (wt : t.size ≤ maxLen) (hm : m ≤ maxLen) (h1 : s.size + n ≤ 1048576) (h2 : ¬ t.size + m ≤ 1048576 - s.size - n) :
    Calls Try.prog 7 #[.agg #[.string s, .slice A n c], .agg #[.string t, .slice B m d]] w fun e w' => e = .returned (.bool true) ∧ Below w.heap.size w w' := by
  go_enter Try.func7, Try.ntmps7
  go_wp2_with fail
  refine (szP_ok s A n c 1048576 _ _ rfl h1 (by omega)).mono ?_
  rintro x w1 ⟨r, hr, rfl, hb1⟩
  subst hr
  obtain ⟨hc, hf⟩ := bcell hb1
  have hz1 : w.heap.size + 1 < w1.heap.size := by have := hb1.size; simp only [World.size_alloc] at this; omega
  go_wp2_with fail
  refine (szP_no t B m d (1048576 - s.size - n) _ _ rfl h2 (by omega) wt hm).mono ?_
  rintro x w2 ⟨rfl, hb2⟩
  have hb := below_two hb1 hb2 (Nat.le_refl _)
  go_wp2
  go_ret
  exact ⟨rfl, (two_below s t A B n c m d w 46).trans (hb.mono (two_below s t A B n c m d w 46).size)⟩
theorem walk {w : World} (s : ByteArray) (ws : s.size ≤ maxLen) {A : Option Addr} {n c : Nat} {xs : List R3} (hx : RingsAt w A n xs ∧ n ≤ maxLen) (t : ByteArray) (wt : t.size ≤ maxLen) {B : Option Addr} {m d : Nat} {ys : List R3} (hy : RingsAt w B m ys ∧ m ≤ maxLen) :
    Calls Try.prog 7 #[.agg #[.string s, .slice A n c], .agg #[.string t, .slice B m d]] w fun e w' => e = .returned (.bool true) ∧ Below w.heap.size w w' := by
  by_cases h1 : s.size + n ≤ 1048576
  · by_cases h2 : t.size + m ≤ 1048576 - s.size - n
    · exact walk_of s t w hx.1 hy.1 h1 h2
    · exact out2 s t A B n c m d w wt hy.2 h1 h2
  · exact out1 s t A B n c m d w ws hx.2 h1

set_option maxRecDepth 100000 in
theorem lifted (os : Os) (started : os.Started) (H : Type) (enc : TypeId × Value → H) :
    ReturnsInHanded {} Try.checked os 7 .any (Rows.fnExactSameProfileSpec.pre6 enc Try.prog Try.f7 Rows.fnExactSameProfileRow.domain false) (Rows.fnExactSameProfileSpec.post enc Try.prog Try.f7 false true false false) := by
  refine returnsInHanded_of_change_shaped (C := Try.checked) own started (by kernel_rfl) Try.func7
    (ChangeSpec.witness6 (enc := enc) (C := Try.checked) false ⟨#[], #[.agg #[.string ⟨#[]⟩, .slice none 0 0], .agg #[.string ⟨#[]⟩, .slice none 0 0]], []⟩ 8 (by kernel_rfl) (by kernel_rfl) (by kernel_rfl) (by kernel_rfl)) ?_
  intro W base args ds gs before hval0 hW hcnd0 hsz0 hsh hholds
  have hval : ∀ (j : Nat) t v, Try.f7.params[j]? = some t → args[j]? = some v → Value.okWide Try.prog W .any base t v := hval0
  have hsz : (DataW.weightsEach Try.prog (Try.f7.params.toList ++ Rows.fnExactSameProfileSpec.plain.varTypes Try.prog) (ds ++ gs)).all (· ≤ reachBytes) = true := hsz0
  clear hsz0 hcnd0 hholds hval0
  have hWW := hW
  obtain ⟨p, q, hA0, hV, rfl, hfz, hnd⟩ := hW
  have hA : DataW.TrodAll enc Try.prog W 0 (fun _ => true) true Try.f7.params.toList args.toList ds p := hA0
  clear hA0
  have hlt : ∀ x ∈ p ++ q, x.block < W.heap.size := fun x hx => hWW.lt x hx
  rw [Try.params7] at hA hval hsz
  obtain ⟨v0, vs0, d0, ds0, p0, q0, hargs, rfl, rfl, h0, r0⟩ := trodAll_cons hA
  obtain ⟨v1, vs1, d1, ds1, p1, q1, rfl, rfl, rfl, h1, r1⟩ := trodAll_cons r0
  obtain ⟨rfl, rfl, rfl⟩ := trodAll_nil r1
  obtain rfl : args = #[v0, v1] := by cases args; simp_all
  obtain ⟨rfl, rfl⟩ := trodVars_none hV
  clear hargs hV hfz hnd
  have fin : ∀ W', Below W.heap.size W W' → Rows.fnExactSameProfileSpec.post enc Try.prog Try.f7 false true false false W #[v0, v1] (.bool true) W' := fun W' hb =>
    post_true (tb := 4) (by kernel_rfl) hWW rfl Try.underlying4 rfl rfl rfl rfl hb
  clear hWW
  obtain ⟨s0, A0, n0, c0, xs0, rfl, w0, hx0⟩ := open_profile (hval 0 46 v0 rfl rfl) h0 (fun x hx => hlt x (by simp [hx]))
  obtain ⟨s1, A1, n1, c1, xs1, rfl, w1, hx1⟩ := open_profile (hval 1 46 v1 rfl rfl) h1 (fun x hx => hlt x (by simp [hx]))
  refine (walk s0 w0 hx0 s1 w1 hx1  (w := W)).mono fun e W' ⟨he, hb⟩ => ?_
  subst he
  exact ⟨_, rfl, fin _ hb⟩

/-- The statement. -/
theorem proved : Rows.FnExactSameProfileSaid :=
  OpenClaim.holds_of_wide 7 Try.f7 rfl rfl rfl rfl rfl rfl rfl ⟨rfl, rfl, rfl, rfl, rfl⟩ rfl rfl rfl rfl rfl (by kernel_rfl) Try.func7 (by kernel_rfl)
    (of_decide_eq_true (by kernel_rfl)) (by unfold Func.isWrapper; first | (rw [if_pos (by decide +kernel)]; kernel_rfl) | (rw [if_neg (by decide +kernel)]; exact ⟨rfl, rfl⟩))
    (fun os started H enc _ => lifted os started H enc)
#print axioms proved
end Go.Proofs.Ytdpahmkcipfdaaa.fnExactSameProfile
