/- Contracts of the sound with a text, in the program and in the reference. -/
import Derived.Test.YtkbfmjnekeipcaaGreatDoorSndP
namespace Go.Proofs.YtkbfmjnekeipcaaGreatDoor
open Go.ChangeShapes Go.WideShapes Go.ChangeAt Go.RowKit
set_option maxRecDepth 100000

structure Box5 (w : World) (g : Nat) (a b c d e : Int) : Prop where
  lt : g < w.heap.size
  c0 : w.cell? ⟨g, 0, none⟩ = some (.int .i64 a)
  c1 : w.cell? ⟨g, 1, none⟩ = some (.int .i64 b)
  c2 : w.cell? ⟨g, 2, none⟩ = some (.int .i64 c)
  c3 : w.cell? ⟨g, 3, none⟩ = some (.int .i64 d)
  c4 : w.cell? ⟨g, 4, none⟩ = some (.int .i64 e)
  f0 : w.frozen? ⟨g, 0, none⟩ = false
  f1 : w.frozen? ⟨g, 1, none⟩ = false
  f2 : w.frozen? ⟨g, 2, none⟩ = false
  f3 : w.frozen? ⟨g, 3, none⟩ = false
  f4 : w.frozen? ⟨g, 4, none⟩ = false
theorem Box5.new (w : World) (a b c d e : Int) (t : TypeId) : Box5 (w.alloc (.cells #[.int .i64 a, .int .i64 b, .int .i64 c, .int .i64 d, .int .i64 e] t)) w.heap.size a b c d e :=
  ⟨by simp, by go_simp, by go_simp, by go_simp, by go_simp, by go_simp, by go_simp, by go_simp, by go_simp, by go_simp, by go_simp⟩
theorem Box5.below {w w' : World} {g : Nat} {a b c d e : Int} (h : Box5 w g a b c d e) (hb : Below w.heap.size w w') : Box5 w' g a b c d e :=
  ⟨Nat.lt_of_lt_of_le h.lt hb.size, (hb.cell (p := ⟨g, 0, none⟩) h.lt).trans h.c0, (hb.cell (p := ⟨g, 1, none⟩) h.lt).trans h.c1, (hb.cell (p := ⟨g, 2, none⟩) h.lt).trans h.c2, (hb.cell (p := ⟨g, 3, none⟩) h.lt).trans h.c3, (hb.cell (p := ⟨g, 4, none⟩) h.lt).trans h.c4,
    (hb.frozen (p := ⟨g, 0, none⟩) h.lt).trans h.f0, (hb.frozen (p := ⟨g, 1, none⟩) h.lt).trans h.f1, (hb.frozen (p := ⟨g, 2, none⟩) h.lt).trans h.f2, (hb.frozen (p := ⟨g, 3, none⟩) h.lt).trans h.f3, (hb.frozen (p := ⟨g, 4, none⟩) h.lt).trans h.f4⟩
theorem Box5.alloc {w : World} {g : Nat} {a b c d e : Int} (h : Box5 w g a b c d e) (o : Obj) : Box5 (w.alloc o) g a b c d e := h.below ((Below.refl _ _).alloc (Nat.le_refl _) o)
theorem below_box {w W : World} (h : Below w.heap.size w W) (a b c d e : Value) : Below w.heap.size w (((((W.setCell ⟨w.heap.size, 0, none⟩ a).setCell ⟨w.heap.size, 1, none⟩ b).setCell ⟨w.heap.size, 2, none⟩ c).setCell ⟨w.heap.size, 3, none⟩ d).setCell ⟨w.heap.size, 4, none⟩ e) :=
  ((((h.setCell (Nat.le_refl _) _).setCell (Nat.le_refl _) _).setCell (Nat.le_refl _) _).setCell (Nat.le_refl _) _).setCell (Nat.le_refl _) _
/-- What the readers hand back. -/
def SndRet (s : ByteArray) (w : World) (x : Ending) (w' : World) : Prop :=
  x = .returned (.tuple #[.agg #[.int .i64 (sdF s 0), .int .i64 (sdF s 1), .int .i64 (sdF s 2), .int .i64 (sdF s 3), .int .i64 (sdF s 4)], .bool (sdOK s)]) ∧ Below w.heap.size w w'
theorem SndRet.of {s : ByteArray} {w w' : World} {a b c d e : Int} {ok : Bool} {x : Ending} (h : (sdF s 0 = a ∧ sdF s 1 = b ∧ sdF s 2 = c ∧ sdF s 3 = d ∧ sdF s 4 = e) ∧ sdOK s = ok)
    (hx : x = .returned (.tuple #[.agg #[.int .i64 a, .int .i64 b, .int .i64 c, .int .i64 d, .int .i64 e], .bool ok])) (hB : Below w.heap.size w w') : SndRet s w x w' := by
  obtain ⟨⟨rfl, rfl, rfl, rfl, rfl⟩, rfl⟩ := h
  exact ⟨hx, hB⟩
set_option maxHeartbeats 8000000 in
theorem rdSnd_impl (s : ByteArray) (w : World) (hs : s.size ≤ 1048576) (he : Errs w) (hm : MaxLenIs w) : Calls Tryz.prog 21 #[.string s] w fun x w' => SndRet s w x w' := by
  obtain ⟨i0, hi, hz0, hz1, hz2⟩ := info_parts infoInt
  have HB0 := Lib.hid ((Below.refl w.heap.size w).alloc (Nat.le_refl _) (.cells #[.int .i64 0, .int .i64 0, .int .i64 0, .int .i64 0, .int .i64 0] 39))
  have HX0 := Lib.hid (Box5.new w 0 0 0 0 0 39)
  have HE := Lib.hid he
  have HM := Lib.hid hm
  have HSP := Lib.hid (fun w1 (h1 : MaxLenIs w1) => split_call 32 s w1 h1 hs)
  have HMem : Hid (∀ x ∈ splitS 32 s, x.size ≤ 1048576) := fun x hx => Nat.le_trans (split_mem hx) hs
  have HLen : Hid ((splitS 32 s).length ≠ 5 → (sdF s 0 = 0 ∧ sdF s 1 = 0 ∧ sdF s 2 = 0 ∧ sdF s 3 = 0 ∧ sdF s 4 = 0) ∧ sdOK s = false) := sd_len
  have HFive : Hid (∀ x0 x1 x2 x3 x4, splitS 32 s = [x0, x1, x2, x3, x4] → sB (hzV x0) (hzV x1) (hzV x2) (hzV x3) (hzV x4) = false ∨ sndS (hzV x0) (hzV x1) (hzV x2) (hzV x3) (hzV x4) ≠ s →
      (sdF s 0 = 0 ∧ sdF s 1 = 0 ∧ sdF s 2 = 0 ∧ sdF s 3 = 0 ∧ sdF s 4 = 0) ∧ sdOK s = false) := fun _ _ _ _ _ h1 h2 => sd_five h1 h2
  clear he hm
  generalize splitS 32 s = xs at *
  go_enter Tryz.func21, Tryz.ntmps21
  go_wp2_with fail
  refine (HSP.out _ (HM.out.below HB0.out)).mono ?_
  rintro x w1 ⟨n, rfl, hn, hX, hb1⟩
  have hl := hX.len
  have HX1 := Lib.hid (HX0.out.below hb1)
  have HB1 := Lib.hid (HB0.out.trans (hb1.mono HB0.out.size))
  have hsz0 : (w.alloc (.cells #[.int .i64 0, .int .i64 0, .int .i64 0, .int .i64 0, .int .i64 0] 39)).heap.size = w.heap.size + 1 := by simp
  clear hb1
  by_cases h5 : n = 5
  · subst h5
    obtain ⟨x0, x1, x2, x3, x4, hxs⟩ := five_words hl
    go_wp2
    go_loopw [5, 7, 8, 9, 19] (fun v _ _ _ i wr => ∃ k : Nat, k ≤ 5 ∧ i = .int .i64 k ∧ wr.ownsRow w1.heap.size 2 1 v k (hzU xs k) ∧ Below w1.heap.size w1 wr) (fun _ _ _ _ i _ => 5 - (intOf i).toNat)
    case atStart => exact ⟨0, Nat.zero_le _, rfl, World.ownsRow_nil _ _ _ _, Below.refl _ _⟩
    case round =>
      obtain ⟨k, hk, rfl, hown, hbr⟩ := hrel
      have HBR := Lib.hid hbr
      have hbs := hbr.size
      by_cases hlt : k < 5
      · obtain ⟨b, off, x, e1, hb, hx, hc⟩ := (hX.below hbr).at_ hlt
        simp only [Option.some.injEq, Addr.mk.injEq, and_true] at e1
        obtain ⟨rfl, rfl⟩ := e1
        rw [Nat.zero_add] at hc
        rw [hsz0] at hc
        have hkI : (k : Int) < 5 := by omega
        have HS := Lib.hid (hzU_succ hx)
        have HBr := Lib.hid (HB1.out.trans (HBR.out.mono HB1.out.size))
        have HR := Lib.hid (rdHz_impl x wr (HMem.out x (List.mem_of_getElem? hx)) (HE.out.below HBr.out) (HM.out.below HBr.out))
        clear hx hbr
        generalize hzV x = v at *
        generalize hzB x = vb at *
        go_wp2_with fail
        refine HR.out.mono ?_
        rintro x w2 ⟨rfl, hb2⟩
        have hown2 := row_keepL hown hb2
        have hs1 := hb2.size
        have HB2 := Lib.hid (below_two HBR.out hb2 (Nat.le_refl _))
        clear hb2 hown
        go_wp2_with (at_builtin; refine wpList_append_lies _ rfl _ _ _ rfl (w1.heap.size) 2 i0 _ 1 8 Tryz.underlying24 hi hz0 hz1 hz2 rfl (by omega) _ (k) _ rfl ((hown2.alloc _)) ⟨w2.heap.size, 0, none⟩ 1 1 [.int .i64 (v)] rfl rfl (World.news_of_block (cs := #[.int .i64 (v)]) (t := 2) (fr := (0, 0)) (heap_alloc_new w2 _)) (by simp [Value.oneCell']) (by omega) (by unfold maxLen; omega) (by omega) (by simp; omega) (w2.heap.size + 1) (by simp) ?_; intro gg cap w3 hown1 hgrow hat hlt')
        go_roundw
        case rel =>
          refine ⟨k + 1, by omega, by go_num, by rw [← HS.out]; exact hown1, ?_⟩
          exact (HB2.out.alloc (by omega) _).grown hgrow (by simp; omega) (by intro g hg; exact (hown2.lt g hg).1)
        case measure => simp [intOf]; omega
      · obtain rfl : k = 5 := by omega
        obtain ⟨A', cc, rfl⟩ := own_shape hown
        have hrow : hzU xs 5 = [hzV x0, hzV x1, hzV x2, hzV x3, hzV x4].map (Value.int .i64) := by rw [hxs]; rfl
        rw [hrow] at hown
        have hF5 := HFive.out x0 x1 x2 x3 x4 hxs
        have HImp := Lib.hid (fun h1 h2 => sd_impl (s := s) (x0 := x0) (x1 := x1) (x2 := x2) (x3 := x3) (x4 := x4) h1 h2)
        have HF5 := Lib.hid hF5
        have HXr := Lib.hid (HX1.out.below hbr)
        have HBr := Lib.hid (HB1.out.trans (HBR.out.mono HB1.out.size))
        clear hrow hF5 hxs
        generalize hzV x0 = a at *
        generalize hzV x1 = b at *
        generalize hzV x2 = c at *
        generalize hzV x3 = d at *
        generalize hzV x4 = e at *
        have HSO := Lib.hid (soundOf_any A' cc a b c d e wr (IntsAt.of_own hown))
        clear hown hbr hX
        go_wp2_with fail
        refine HSO.out.mono ?_
        rintro x w3 ⟨rfl, hb3⟩
        have HX3 := Lib.hid (HXr.out.below hb3)
        have HB3 := Lib.hid (below_two HBr.out hb3 (Nat.le_refl _))
        have HT3 := Lib.hid (Box5.new w3 a b c d e 39)
        have HX3' := Lib.hid (HX3.out.alloc (.cells #[.int .i64 a, .int .i64 b, .int .i64 c, .int .i64 d, .int .i64 e] 39))
        have HB3' := Lib.hid (HB3.out.alloc HB3.out.size (.cells #[.int .i64 a, .int .i64 b, .int .i64 c, .int .i64 d, .int .i64 e] 39))
        clear hb3
        cases hV : sB a b c d e with
        | false =>
          have HV := Lib.hid (HF5.out (.inl hV))
          go_wp2_with fail
          refine (valid_is hV _).mono ?_
          rintro x w5 ⟨rfl, hb5⟩
          obtain ⟨hlt5, q0, q1, q2, q3, q4, g0, g1, g2, g3, g4⟩ := HX3'.out.below hb5
          have HB5 := Lib.hid (below_two HB3'.out hb5 (Nat.le_refl _))
          clear hb5 hV
          go_wp2
          refine bodyPost_ret (v := .tuple #[.agg #[.int .i64 0, .int .i64 0, .int .i64 0, .int .i64 0, .int .i64 0], .bool false]) (by simp [results, Tryz.results21, go_sem, q0, q1, q2, q3, q4]) rfl ?_
          refine SndRet.of HV.out rfl ?_
          exact below_box HB5.out _ _ _ _ _
        | true =>
          have HSN := Lib.hid (fun w1 h1 => snd_impl a b c d e w1 h1)
          by_cases hq : sndS a b c d e = s
          · have HV := Lib.hid (HImp.out hV hq)
            have hss : ((sndS a b c d e).toList == s.toList) = true := by rw [hq]; simp
            clear hq
            generalize sndS a b c d e = t at *
            go_wp2_with fail
            refine (valid_is hV _).mono ?_
            rintro x w5 ⟨rfl, hb5⟩
            have HX5 := Lib.hid (HX3'.out.below hb5)
            have HT5 := Lib.hid (HT3.out.below hb5)
            have HB5 := Lib.hid (below_two HB3'.out hb5 (Nat.le_refl _))
            obtain ⟨tl5, t0, t1, t2, t3, t4, _, _, _, _, _⟩ := HT5.out
            clear hb5 hV
            go_wp2_with fail
            refine (HSN.out _ (HE.out.below HB5.out).tab).mono ?_
            rintro x w6 ⟨rfl, hb6⟩
            obtain ⟨hlt6, q0, q1, q2, q3, q4, g0, g1, g2, g3, g4⟩ := HX5.out.below hb6
            obtain ⟨tl6, u0, u1, u2, u3, u4, _, _, _, _, _⟩ := HT5.out.below hb6
            have HB6 := Lib.hid (below_two HB5.out hb6 (Nat.le_refl _))
            clear hb6 t0 t1 t2 t3 t4
            go_wp2
            refine bodyPost_ret (v := .tuple #[.agg #[.int .i64 a, .int .i64 b, .int .i64 c, .int .i64 d, .int .i64 e], .bool true]) (by simp [results, Tryz.results21, go_sem, q0, q1, q2, q3, q4]) rfl ?_
            refine SndRet.of HV.out rfl ?_
            exact below_box HB6.out _ _ _ _ _
          · have HV := Lib.hid (HF5.out (.inr hq))
            have hss : ((sndS a b c d e).toList == s.toList) = false := str_ne hq
            clear hq
            generalize sndS a b c d e = t at *
            go_wp2_with fail
            refine (valid_is hV _).mono ?_
            rintro x w5 ⟨rfl, hb5⟩
            have HX5 := Lib.hid (HX3'.out.below hb5)
            have HT5 := Lib.hid (HT3.out.below hb5)
            have HB5 := Lib.hid (below_two HB3'.out hb5 (Nat.le_refl _))
            obtain ⟨tl5, t0, t1, t2, t3, t4, _, _, _, _, _⟩ := HT5.out
            clear hb5 hV
            go_wp2_with fail
            refine (HSN.out _ (HE.out.below HB5.out).tab).mono ?_
            rintro x w6 ⟨rfl, hb6⟩
            obtain ⟨hlt6, q0, q1, q2, q3, q4, g0, g1, g2, g3, g4⟩ := HX5.out.below hb6
            have HB6 := Lib.hid (below_two HB5.out hb6 (Nat.le_refl _))
            clear hb6 t0 t1 t2 t3 t4
            go_wp2
            refine bodyPost_ret (v := .tuple #[.agg #[.int .i64 0, .int .i64 0, .int .i64 0, .int .i64 0, .int .i64 0], .bool false]) (by simp [results, Tryz.results21, go_sem, q0, q1, q2, q3, q4]) rfl ?_
            refine SndRet.of HV.out rfl ?_
            exact below_box HB6.out _ _ _ _ _
  · have HV := Lib.hid (HLen.out (by rw [hl]; exact h5))
    have hne : ((n : Int) == 5) = false := by rw [beq_eq_false_iff_ne]; omega
    obtain ⟨hlt1, q0, q1, q2, q3, q4, g0, g1, g2, g3, g4⟩ := HX1.out
    clear hX
    go_wp2
    refine bodyPost_ret (v := .tuple #[.agg #[.int .i64 0, .int .i64 0, .int .i64 0, .int .i64 0, .int .i64 0], .bool false]) (by simp [results, Tryz.results21, go_sem, q0, q1, q2, q3, q4]) rfl ?_
    refine SndRet.of HV.out rfl ?_
    exact below_box HB1.out _ _ _ _ _
end Go.Proofs.YtkbfmjnekeipcaaGreatDoor
