/- The law FnBeats of the given program holds: for every input it returns true, and its arguments read afterwards as before. No condition. -/
import Derived.Test.YtajlgclodjgiiaaBase
import Derived.Test.YtajlgclodjgiiaaBeatM
import Derived.Test.YtajlgclodjgiiaaOpen
namespace Go.Proofs.Ytajlgclodjgiiaa.fnBeats
open Go.ChangeShapes Go.WideShapes Go.ChangeAt Go.RowKit
set_option linter.unusedVariables false

set_option maxRecDepth 100000 in
set_option maxHeartbeats 8000000 in
theorem walk {A : Option Addr} {n c : Nat} {xs : List UInt8} {B : Option Addr} {m d : Nat} {ys : List UInt8} (w : World) (hx : BytesAt w A n xs) (hy : BytesAt w B m ys) :
    Calls Try.prog 14 #[.slice A n c, .slice B m d] w fun e w' => e = .returned (.bool true) ∧ Below w.heap.size w w' := by
  have HD1 := Lib.hid (drawBeat A n c xs w hx)
  have HD2 := Lib.hid (fun w1 (hb : Below w.heap.size w w1) => drawReduce B m d ys w1 (CellsAt.below hy hb))
  clear hx hy
  by_cases hn : 1048576 < n
  · have d1 : decide (1048576 < (n : Int)) = true := decide_eq_true (by omega)
    clear hn
    go_enter Try.func14, Try.ntmps14
    go_wp2_with (go_at_call 41; refine (b10Long_is _ _ _ _).mono ?_; rintro e w' ⟨rfl, rfl⟩)
    go_ret
    exact ⟨rfl, Below.refl _ _⟩
  by_cases hm : 1048576 < m
  · have d1 : decide (1048576 < (n : Int)) = false := decide_eq_false (by omega)
    have d2 : decide (1048576 < (m : Int)) = true := decide_eq_true (by omega)
    clear hn hm
    go_enter Try.func14, Try.ntmps14
    go_wp2_with (go_at_call 41; refine (b10Long_is _ _ _ _).mono ?_; rintro e w' ⟨rfl, rfl⟩)
    go_ret
    exact ⟨rfl, Below.refl _ _⟩
  have d1 : decide (1048576 < (n : Int)) = false := decide_eq_false (by omega)
  have d2 : decide (1048576 < (m : Int)) = false := decide_eq_false (by omega)
  clear hn hm
  go_enter Try.func14, Try.ntmps14
  go_wp2_with (go_at_call 41; refine (b10Long_is _ _ _ _).mono ?_; rintro e w' ⟨rfl, rfl⟩)
  refine HD1.out.mono ?_
  rintro e w1 ⟨f, g, rfl, hf0, hg0, hb1⟩
  have HB1 := Lib.hid hb1
  clear hb1
  have part : ∃ (s1 s2 : Nat), True := ⟨0, 0, trivial⟩
  by_cases hr : inB f 10000 20000000 = true ∧ inB g 10000 20000000 = true
  · obtain ⟨hf, hg⟩ := hr
    have HF := Lib.hid hf
    have HG := Lib.hid hg
    obtain ⟨f1, f2⟩ := inB_bd hf
    obtain ⟨g1, g2⟩ := inB_bd hg
    clear hf hg hf0 hg0 part
    obtain ⟨a, ha⟩ : ∃ a, a = absI (f - g) := ⟨_, rfl⟩
    have hs : absI (g - f) = a := by rw [ha]; rcases absI_cases (f - g) with ⟨_, e⟩ | ⟨_, e⟩ <;> rcases absI_cases (g - f) with ⟨_, e'⟩ | ⟨_, e'⟩ <;> omega
    have HA1 := Lib.hid (fun w => by have h := beat_ok f g w HF.out HG.out; rw [← ha] at h; exact h)
    have HA2 := Lib.hid (fun w => by have h := beat_ok g f w HG.out HF.out; rw [hs] at h; exact h)
    have HEA := Lib.hid ha
    clear ha hs
    go_wp2_with fail
    refine (HA1.out _).mono ?_
    rintro e w2 ⟨rfl, hb2⟩
    have HB2 := Lib.hid (HB1.out.trans (hb2.mono HB1.out.size))
    clear hb2
    go_wp2_with fail
    refine (HA2.out _).mono ?_
    rintro e w3 ⟨rfl, hb3⟩
    have HB3 := Lib.hid (HB2.out.trans (hb3.mono HB2.out.size))
    clear hb3
    have hlt3 : w.heap.size ≤ w3.heap.size := HB3.out.size
    clear HA1 HA2
    by_cases hfg : f = g
    · subst hfg
      obtain rfl : a = 0 := by rw [HEA.out, Int.sub_self]; rfl
      clear HEA
      go_wp2_with fail
      refine (beatTime_same f _ HF.out).mono ?_
      rintro e w4 ⟨rfl, hb4⟩
      have HB4 := Lib.hid (HB3.out.trans (hb4.mono HB3.out.size))
      clear hb4
      have HM := Lib.hid (mean2 (some ⟨w4.heap.size, 0, none⟩) 2 f f _ (IntsAt.new2 w4 f f 2) HF.out HF.out)
      have hmid : midI f f = f := by unfold midI; omega
      rw [hmid] at HM
      clear hmid
      have HB5 := Lib.hid (HB4.out.alloc HB4.out.size (.cells #[.int .i64 f, .int .i64 f] 2))
      go_wp2_with fail
      refine HM.out.mono ?_
      rintro e w5 ⟨rfl, q, rfl⟩
      have HB6 := Lib.hid (below_drewN HB5.out q)
      go_wp2_with fail
      all_goals
        refine (HD2.out _ HB6.out).mono ?_
        rintro e w7 ⟨x, base, rfl, hx0, hy0, hb7⟩
        have HB7 := Lib.hid (HB6.out.trans (hb7.mono HB6.out.size))
        clear hb7 HD2
        by_cases hr2 : inB x 10000 20000000 = true ∧ inB base 10000 20000000 = true
        · have HX := Lib.hid hr2.1
          have HY := Lib.hid hr2.2
          clear hr2
          go_wp2_with fail
          refine (reduce_ok x base _ HX.out HY.out).mono ?_
          rintro e w8 ⟨⟨k, j, hred, hcase⟩, hb8⟩
          have HB8 := Lib.hid (HB7.out.trans (hb8.mono HB7.out.size))
          clear hb8
          rcases hcase with ⟨hi, rfl⟩ | ⟨hi, rfl⟩
          · have hlaw := reduce_law HX.out HY.out hred hi
            have HI := Lib.hid hi
            clear hred hi
            generalize dblJ (halfK x k) j = y at *
            generalize (k : Int) - j = by_ at *
            obtain ⟨l1, l2, l3, l4⟩ := hlaw
            have hyb := inB_bd HI.out
            have hxb := inB_bd HX.out
            have tb1 := tenthsV_bd (n := y) (by omega) (by omega)
            have tb2 := tenthsV_bd (n := x) (by omega) (by omega)
            have HC := Lib.hid (fun w => centsBetween_ok x y w HX.out HI.out)
            generalize hd : tenthsV y - tenthsV x = dd at *
            obtain ⟨u, hu⟩ : ∃ u, absI (dd + 12000 * by_) = u := ⟨_, rfl⟩
            have hu1 : u ≤ 40 := by rcases absI_cases (dd + 12000 * by_) with ⟨_, e⟩ | ⟨_, e⟩ <;> omega
            have hu0 : ¬ 40 < u := by omega
            have HU := Lib.hid (fun w => by have h := b10Abs_is (dd + 12000 * by_) w (by omega) (by omega); rw [hu] at h; exact h)
            have hbd1 : -1000000 ≤ dd ∧ dd ≤ 1000000 := by omega
            clear hu hd tb1 tb2 hxb hx0 hy0
            go_wp2_with fail
            refine (HC.out _).mono ?_
            rintro e w9 ⟨rfl, hb9⟩
            have HB9 := Lib.hid (HB8.out.trans (hb9.mono HB8.out.size))
            clear hb9
            go_wp2_with (go_at_call 45; refine (HU.out _).mono ?_; rintro e w' ⟨rfl, rfl⟩)
            go_ret
            exact ⟨by first | rfl | (simp; omega), HB9.out⟩
          · clear hred hi
            go_wp2
            go_ret
            exact ⟨rfl, HB8.out⟩
        · have HR2 := Lib.hid (not_both hr2)
          clear hr2
          go_wp2_with fail
          refine (reduce_no x base _ HR2.out).mono ?_
          rintro e w8 ⟨rfl, hb8⟩
          have HB8 := Lib.hid (HB7.out.trans (hb8.mono HB7.out.size))
          clear hb8
          go_wp2
          go_ret
          exact ⟨rfl, HB8.out⟩
    · have ha := HEA.out
      have a1 : 1 ≤ a := by rw [ha]; rcases absI_cases (f - g) with ⟨_, e⟩ | ⟨_, e⟩ <;> omega
      have a2 : a ≤ 20000000 := by rw [ha]; rcases absI_cases (f - g) with ⟨_, e⟩ | ⟨_, e⟩ <;> omega
      have hne : (f != g) = true := by rw [bne_iff_ne]; exact hfg
      have HT := Lib.hid (fun w => by have h := beatTime_ok f g w HF.out HG.out hfg; rw [← ha] at h; exact h)
      obtain ⟨t1, t2, t3, t4, t5⟩ := time_law a1 a2
      have mb := mid_bd f g
      have HM := Lib.hid (fun w : World => mean2 (some ⟨w.heap.size, 0, none⟩) 2 f g _ (IntsAt.new2 w f g 2) HF.out HG.out)
      generalize nearI 1000000 a = t at *
      generalize midI f g = mi at *
      generalize hu : absI (t * a - 1000000) = u at *
      have HU := Lib.hid (fun w => by have h := b10Abs_is (t * a - 1000000) w (by omega) (by omega); rw [hu] at h; exact h)
      clear hu ha HEA
      go_wp2_with fail
      refine (HT.out _).mono ?_
      rintro e w4 ⟨rfl, hb4⟩
      have HB4 := Lib.hid (HB3.out.trans (hb4.mono HB3.out.size))
      clear hb4
      have HB5 := Lib.hid (HB4.out.alloc HB4.out.size (.cells #[.int .i64 f, .int .i64 g] 2))
      go_wp2_with fail
      refine (HM.out _).mono ?_
      rintro e w5 ⟨rfl, q, rfl⟩
      have HB6 := Lib.hid (below_drewN HB5.out q)
      have ht5 : ¬ a < u := by omega
      go_wp2_with (go_at_call 45; refine (HU.out _).mono ?_; rintro e w' ⟨rfl, rfl⟩)
      all_goals
        refine (HD2.out _ HB6.out).mono ?_
        rintro e w7 ⟨x, base, rfl, hx0, hy0, hb7⟩
        have HB7 := Lib.hid (HB6.out.trans (hb7.mono HB6.out.size))
        clear hb7 HD2
        by_cases hr2 : inB x 10000 20000000 = true ∧ inB base 10000 20000000 = true
        · have HX := Lib.hid hr2.1
          have HY := Lib.hid hr2.2
          clear hr2
          go_wp2_with fail
          refine (reduce_ok x base _ HX.out HY.out).mono ?_
          rintro e w8 ⟨⟨k, j, hred, hcase⟩, hb8⟩
          have HB8 := Lib.hid (HB7.out.trans (hb8.mono HB7.out.size))
          clear hb8
          rcases hcase with ⟨hi, rfl⟩ | ⟨hi, rfl⟩
          · have hlaw := reduce_law HX.out HY.out hred hi
            have HI := Lib.hid hi
            clear hred hi
            generalize dblJ (halfK x k) j = y at *
            generalize (k : Int) - j = by_ at *
            obtain ⟨l1, l2, l3, l4⟩ := hlaw
            have hyb := inB_bd HI.out
            have hxb := inB_bd HX.out
            have tb1 := tenthsV_bd (n := y) (by omega) (by omega)
            have tb2 := tenthsV_bd (n := x) (by omega) (by omega)
            have HC := Lib.hid (fun w => centsBetween_ok x y w HX.out HI.out)
            generalize hd : tenthsV y - tenthsV x = dd at *
            obtain ⟨u, hu⟩ : ∃ u, absI (dd + 12000 * by_) = u := ⟨_, rfl⟩
            have hu1 : u ≤ 40 := by rcases absI_cases (dd + 12000 * by_) with ⟨_, e⟩ | ⟨_, e⟩ <;> omega
            have hu0 : ¬ 40 < u := by omega
            have HU := Lib.hid (fun w => by have h := b10Abs_is (dd + 12000 * by_) w (by omega) (by omega); rw [hu] at h; exact h)
            have hbd1 : -1000000 ≤ dd ∧ dd ≤ 1000000 := by omega
            clear hu hd tb1 tb2 hxb hx0 hy0
            go_wp2_with fail
            refine (HC.out _).mono ?_
            rintro e w9 ⟨rfl, hb9⟩
            have HB9 := Lib.hid (HB8.out.trans (hb9.mono HB8.out.size))
            clear hb9
            go_wp2_with (go_at_call 45; refine (HU.out _).mono ?_; rintro e w' ⟨rfl, rfl⟩)
            go_ret
            exact ⟨by first | rfl | (simp; omega), HB9.out⟩
          · clear hred hi
            go_wp2
            go_ret
            exact ⟨rfl, HB8.out⟩
        · have HR2 := Lib.hid (not_both hr2)
          clear hr2
          go_wp2_with fail
          refine (reduce_no x base _ HR2.out).mono ?_
          rintro e w8 ⟨rfl, hb8⟩
          have HB8 := Lib.hid (HB7.out.trans (hb8.mono HB7.out.size))
          clear hb8
          go_wp2
          go_ret
          exact ⟨rfl, HB8.out⟩
  · have HR := Lib.hid (not_both hr)
    clear hr part
    go_wp2_with fail
    refine (beat_no f g _ HR.out).mono ?_
    rintro e w2 ⟨rfl, hb2⟩
    have HB2 := Lib.hid (HB1.out.trans (hb2.mono HB1.out.size))
    clear hb2
    go_wp2_with fail
    refine (beat_no g f _ HR.out.symm).mono ?_
    rintro e w3 ⟨rfl, hb3⟩
    have HB6 := Lib.hid (HB2.out.trans (hb3.mono HB2.out.size))
    clear hb3
    go_wp2_with fail
    all_goals
      refine (HD2.out _ HB6.out).mono ?_
      rintro e w7 ⟨x, base, rfl, hx0, hy0, hb7⟩
      have HB7 := Lib.hid (HB6.out.trans (hb7.mono HB6.out.size))
      clear hb7 HD2
      by_cases hr2 : inB x 10000 20000000 = true ∧ inB base 10000 20000000 = true
      · have HX := Lib.hid hr2.1
        have HY := Lib.hid hr2.2
        clear hr2
        go_wp2_with fail
        refine (reduce_ok x base _ HX.out HY.out).mono ?_
        rintro e w8 ⟨⟨k, j, hred, hcase⟩, hb8⟩
        have HB8 := Lib.hid (HB7.out.trans (hb8.mono HB7.out.size))
        clear hb8
        rcases hcase with ⟨hi, rfl⟩ | ⟨hi, rfl⟩
        · have hlaw := reduce_law HX.out HY.out hred hi
          have HI := Lib.hid hi
          clear hred hi
          generalize dblJ (halfK x k) j = y at *
          generalize (k : Int) - j = by_ at *
          obtain ⟨l1, l2, l3, l4⟩ := hlaw
          have hyb := inB_bd HI.out
          have hxb := inB_bd HX.out
          have tb1 := tenthsV_bd (n := y) (by omega) (by omega)
          have tb2 := tenthsV_bd (n := x) (by omega) (by omega)
          have HC := Lib.hid (fun w => centsBetween_ok x y w HX.out HI.out)
          generalize hd : tenthsV y - tenthsV x = dd at *
          obtain ⟨u, hu⟩ : ∃ u, absI (dd + 12000 * by_) = u := ⟨_, rfl⟩
          have hu1 : u ≤ 40 := by rcases absI_cases (dd + 12000 * by_) with ⟨_, e⟩ | ⟨_, e⟩ <;> omega
          have hu0 : ¬ 40 < u := by omega
          have HU := Lib.hid (fun w => by have h := b10Abs_is (dd + 12000 * by_) w (by omega) (by omega); rw [hu] at h; exact h)
          have hbd1 : -1000000 ≤ dd ∧ dd ≤ 1000000 := by omega
          clear hu hd tb1 tb2 hxb hx0 hy0
          go_wp2_with fail
          refine (HC.out _).mono ?_
          rintro e w9 ⟨rfl, hb9⟩
          have HB9 := Lib.hid (HB8.out.trans (hb9.mono HB8.out.size))
          clear hb9
          go_wp2_with (go_at_call 45; refine (HU.out _).mono ?_; rintro e w' ⟨rfl, rfl⟩)
          go_ret
          exact ⟨by first | rfl | (simp; omega), HB9.out⟩
        · clear hred hi
          go_wp2
          go_ret
          exact ⟨rfl, HB8.out⟩
      · have HR2 := Lib.hid (not_both hr2)
        clear hr2
        go_wp2_with fail
        refine (reduce_no x base _ HR2.out).mono ?_
        rintro e w8 ⟨rfl, hb8⟩
        have HB8 := Lib.hid (HB7.out.trans (hb8.mono HB7.out.size))
        clear hb8
        go_wp2
        go_ret
        exact ⟨rfl, HB8.out⟩

set_option maxRecDepth 100000 in
theorem lifted (os : Os) (started : os.Started) (H : Type) (enc : TypeId × Value → H) :
    ReturnsInHanded {} Try.checked os 14 .any (Rows.fnBeatsSpec.pre6 enc Try.prog Try.f14 Rows.fnBeatsRow.domain false) (Rows.fnBeatsSpec.post enc Try.prog Try.f14 false true false false) := by
  refine returnsInHanded_of_change_shaped (C := Try.checked) own started (by kernel_rfl) Try.func14
    (ChangeSpec.witness6 (enc := enc) (C := Try.checked) false ⟨#[], #[.slice none 0 0, .slice none 0 0], []⟩ 8 (by kernel_rfl) (by kernel_rfl) (by kernel_rfl) (by kernel_rfl)) ?_
  intro W base args ds gs before hval0 hW hcnd0 hsz0 hsh hholds
  have hval : ∀ (j : Nat) t v, Try.f14.params[j]? = some t → args[j]? = some v → Value.okWide Try.prog W .any base t v := hval0
  have hsz : (DataW.weightsEach Try.prog (Try.f14.params.toList ++ Rows.fnBeatsSpec.plain.varTypes Try.prog) (ds ++ gs)).all (· ≤ reachBytes) = true := hsz0
  clear hsz0 hcnd0 hholds hval0
  have hWW := hW
  obtain ⟨p, q, hA0, hV, rfl, hfz, hnd⟩ := hW
  have hA : DataW.TrodAll enc Try.prog W 0 (fun _ => true) true Try.f14.params.toList args.toList ds p := hA0
  clear hA0
  have hlt : ∀ x ∈ p ++ q, x.block < W.heap.size := fun x hx => hWW.lt x hx
  rw [Try.params14] at hA hval hsz
  obtain ⟨v0, vs0, d0, ds0, p0, q0, hargs, rfl, rfl, h0, r0⟩ := trodAll_cons hA
  obtain ⟨v1, vs1, d1, ds1, p1, q1, rfl, rfl, rfl, h1, r1⟩ := trodAll_cons r0
  obtain ⟨rfl, rfl, rfl⟩ := trodAll_nil r1
  obtain rfl : args = #[v0, v1] := by cases args; simp_all
  obtain ⟨rfl, rfl⟩ := trodVars_none hV
  clear hargs hV hfz hnd
  have fin : ∀ W', Below W.heap.size W W' → Rows.fnBeatsSpec.post enc Try.prog Try.f14 false true false false W #[v0, v1] (.bool true) W' := fun W' hb =>
    post_true (tb := 4) (by kernel_rfl) hWW rfl Try.underlying4 rfl rfl rfl rfl hb
  clear hWW
  obtain ⟨A0, n0, c0, xs0, rfl, hx0⟩ := open_bytes (hval 0 50 v0 rfl rfl) h0 (fun x hx => hlt x (by simp [hx]))
  obtain ⟨A1, n1, c1, xs1, rfl, hx1⟩ := open_bytes (hval 1 50 v1 rfl rfl) h1 (fun x hx => hlt x (by simp [hx]))
  refine (walk hx0 hx1  (w := W)).mono fun e W' ⟨he, hb⟩ => ?_
  subst he
  exact ⟨_, rfl, fin _ hb⟩

/-- The statement. -/
theorem proved : Rows.FnBeatsSaid :=
  OpenClaim.holds_of_wide 14 Try.f14 rfl rfl rfl rfl rfl rfl rfl ⟨rfl, rfl, rfl, rfl, rfl⟩ rfl rfl rfl rfl rfl (by kernel_rfl) Try.func14 (by kernel_rfl)
    (of_decide_eq_true (by kernel_rfl)) (by unfold Func.isWrapper; first | (rw [if_pos (by decide +kernel)]; kernel_rfl) | (rw [if_neg (by decide +kernel)]; exact ⟨rfl, rfl⟩))
    (fun os started H enc _ => lifted os started H enc)
#print axioms proved
end Go.Proofs.Ytajlgclodjgiiaa.fnBeats
