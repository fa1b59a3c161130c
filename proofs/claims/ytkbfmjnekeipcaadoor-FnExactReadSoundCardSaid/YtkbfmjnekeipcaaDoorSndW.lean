/- Contracts of the reference's reader of a sound. -/
import Derived.Test.YtkbfmjnekeipcaaDoorSndR
namespace Go.Proofs.YtkbfmjnekeipcaaDoor
open Go.ChangeShapes Go.WideShapes Go.ChangeAt Go.RowKit
set_option maxRecDepth 100000

theorem hzOK_succ {xs : List ByteArray} {k : Nat} {x : ByteArray} (h : ∀ (j : Nat) y, j < k → xs[j]? = some y → hzB y = true) (hx : xs[k]? = some x) (ho : hzB x = true) : ∀ (j : Nat) y, j < k + 1 → xs[j]? = some y → hzB y = true := by
  intro j y hj hy
  rcases Nat.lt_or_eq_of_le (Nat.le_of_lt_succ hj) with h1 | rfl
  · exact h j y h1 hy
  · rw [hx] at hy; cases hy; exact ho
theorem hzOK_all {xs : List ByteArray} {n : Nat} (hl : xs.length = n) (h : ∀ (j : Nat) y, j < n → xs[j]? = some y → hzB y = true) : ∀ x ∈ xs, hzB x = true := by
  intro x hx
  obtain ⟨j, hj, rfl⟩ := List.getElem_of_mem hx
  exact h j _ (by omega) (List.getElem?_eq_getElem hj)
set_option maxHeartbeats 8000000 in
theorem l04Read_walk (s : ByteArray) (w : World) (hs : s.size ≤ 1048576) : Calls Tryd.prog 71 #[.string s] w fun x w' => SndRet s w x w' := by
  obtain ⟨i0, hi, hz0, hz1, hz2⟩ := info_parts infoInt
  have HB0 := Lib.hid ((Below.refl w.heap.size w).alloc (Nat.le_refl _) (.cells #[.int .i64 0, .int .i64 0, .int .i64 0, .int .i64 0, .int .i64 0] 47))
  have HX0 := Lib.hid (Box5.new w 0 0 0 0 0 47)
  obtain ⟨n, hn⟩ : ∃ n, n = (splitS 32 s).length := ⟨_, rfl⟩
  have HSP := Lib.hid (show ∀ w1, Calls Tryd.prog 52 #[.string s, .int .u8 32] w1 fun e w' => ∃ A c, e = .returned (.slice A n c) ∧ w'.ownsRow w1.heap.size 9 1 (.slice A n c) n ((splitS 32 s).map Value.string) ∧ Below w1.heap.size w1 w' from by
    rw [hn]; exact fun w1 => l01Split_is 32 32 rfl s w1 hs)
  have HMem : Hid (∀ x ∈ splitS 32 s, x.size ≤ 1048576) := fun x hx => Nat.le_trans (split_mem hx) hs
  have HLen : Hid (n ≠ 5 → (sdF s 0 = 0 ∧ sdF s 1 = 0 ∧ sdF s 2 = 0 ∧ sdF s 3 = 0 ∧ sdF s 4 = 0) ∧ sdOK s = false) := fun h => sd_len (by rw [← hn]; exact h)
  have HWord : Hid (∀ x ∈ splitS 32 s, hzB x = false → (sdF s 0 = 0 ∧ sdF s 1 = 0 ∧ sdF s 2 = 0 ∧ sdF s 3 = 0 ∧ sdF s 4 = 0) ∧ sdOK s = false) := fun x hx h => sd_word hx h
  have HFive : Hid (∀ x0 x1 x2 x3 x4, splitS 32 s = [x0, x1, x2, x3, x4] → sB (hzV x0) (hzV x1) (hzV x2) (hzV x3) (hzV x4) = false →
      (sdF s 0 = 0 ∧ sdF s 1 = 0 ∧ sdF s 2 = 0 ∧ sdF s 3 = 0 ∧ sdF s 4 = 0) ∧ sdOK s = false) := fun _ _ _ _ _ h1 h2 => sd_five h1 (.inl h2)
  have HYes : Hid (∀ x0 x1 x2 x3 x4, splitS 32 s = [x0, x1, x2, x3, x4] → (∀ x ∈ [x0, x1, x2, x3, x4], hzB x = true) → sB (hzV x0) (hzV x1) (hzV x2) (hzV x3) (hzV x4) = true →
      (sdF s 0 = hzV x0 ∧ sdF s 1 = hzV x1 ∧ sdF s 2 = hzV x2 ∧ sdF s 3 = hzV x3 ∧ sdF s 4 = hzV x4) ∧ sdOK s = true) := fun _ _ _ _ _ h1 h2 h3 => sd_yes (snd_of_spec h1 h2 h3)
  clear hn
  generalize splitS 32 s = xs at *
  go_enter Tryd.func71, Tryd.ntmps71
  go_wp2_with fail
  refine (HSP.out _).mono ?_
  rintro x w1 ⟨A1, c1, rfl, ho1, hb1⟩
  have hX := StrsAt.of_own ho1
  have hl := hX.len
  have HX1 := Lib.hid (HX0.out.below hb1)
  have HB1 := Lib.hid (HB0.out.trans (hb1.mono HB0.out.size))
  clear ho1 hb1
  by_cases h5 : n = 5
  · subst h5
    obtain ⟨x0, x1, x2, x3, x4, hxs⟩ := five_words hl
    go_wp2
    go_loopw [5, 6] (fun v i wr => ∃ k : Nat, k ≤ 5 ∧ i = .int .i64 k ∧ (∀ (j : Nat) y, j < k → xs[j]? = some y → hzB y = true) ∧ wr.ownsRow w1.heap.size 2 1 v k (hzU xs k) ∧ Below w1.heap.size w1 wr) (fun _ i _ => 5 - (intOf i).toNat)
    case atStart => exact ⟨0, Nat.zero_le _, rfl, fun j y hj => by omega, iV_new w1 _ _ rfl (Nat.le_refl _), (Below.refl _ _).alloc (Nat.le_refl _) _⟩
    case round =>
      obtain ⟨k, hk, rfl, hall, hown, hbr⟩ := hrel
      have HBR := Lib.hid hbr
      have hbs := hbr.size
      by_cases hlt : k < 5
      · obtain ⟨b, off, x, rfl, hb, hx, hc⟩ := (hX.below hbr).at_ hlt
        have hkI : (k : Int) < 5 := by omega
        have hmem : x ∈ xs := List.mem_of_getElem? hx
        have HR := Lib.hid (rdHz_spec x wr (HMem.out x hmem))
        have HXr := Lib.hid (HX1.out.below hbr)
        have HBr := Lib.hid (HB1.out.trans (HBR.out.mono HB1.out.size))
        cases hzb : hzB x with
        | false =>
          have HV := Lib.hid (HWord.out x hmem hzb)
          rw [hzb] at HR
          clear hall hown hbr hx hmem hzb
          generalize hzV x = v at *
          go_wp2_with fail
          refine HR.out.mono ?_
          rintro x w2 ⟨rfl, hb2⟩
          obtain ⟨hlt2, q0, q1, q2, q3, q4, g0, g1, g2, g3, g4⟩ := HXr.out.below hb2
          have HB2 := Lib.hid (below_two HBr.out hb2 (Nat.le_refl _))
          clear hb2
          go_wp2
          refine bodyPost_ret (v := .tuple #[.agg #[.int .i64 0, .int .i64 0, .int .i64 0, .int .i64 0, .int .i64 0], .bool false]) (by simp [results, Tryd.results71, go_sem, q0, q1, q2, q3, q4]) rfl ?_
          refine SndRet.of HV.out rfl ?_
          exact below_box HB2.out _ _ _ _ _
        | true =>
          have HA := Lib.hid (hzOK_succ hall hx hzb)
          have HS := Lib.hid (hzU_succ hx)
          rw [hzb] at HR
          clear hall hbr hx hmem hzb
          generalize hzV x = v at *
          go_wp2_with fail
          refine HR.out.mono ?_
          rintro x w2 ⟨rfl, hb2⟩
          have hown2 := row_keepL hown hb2
          have hs1 := hb2.size
          have HB2 := Lib.hid (below_two HBR.out hb2 (Nat.le_refl _))
          clear hb2 hown
          go_wp2_with (at_builtin; refine wpList_append_lies _ rfl _ _ _ rfl (w1.heap.size) 2 i0 _ 1 8 Tryd.underlying25 hi hz0 hz1 hz2 rfl (by omega) _ (k) _ rfl ((hown2.alloc _)) ⟨w2.heap.size, 0, none⟩ 1 1 [.int .i64 (v)] rfl rfl (World.news_of_block (cs := #[.int .i64 (v)]) (t := 2) (fr := (0, 0)) (heap_alloc_new w2 _)) (by simp [Value.oneCell']) (by omega) (by unfold maxLen; omega) (by omega) (by simp; omega) (w2.heap.size + 1) (by simp) ?_; intro gg cap w3 hown1 hgrow hat hlt')
          go_roundw
          case rel =>
            refine ⟨k + 1, by omega, by go_num, HA.out, by rw [← HS.out]; exact hown1, ?_⟩
            exact (HB2.out.alloc (by omega) _).grown hgrow (by simp; omega) (by intro g hg; exact (hown2.lt g hg).1)
          case measure => simp [intOf]; omega
      · obtain rfl : k = 5 := by omega
        obtain ⟨A', cc, rfl⟩ := own_shape hown
        have hrow : hzU xs 5 = [hzV x0, hzV x1, hzV x2, hzV x3, hzV x4].map (Value.int .i64) := by rw [hxs]; rfl
        rw [hrow] at hown
        have HF5 := Lib.hid (HFive.out x0 x1 x2 x3 x4 hxs)
        have hal := hzOK_all hl hall
        have HY5 := Lib.hid (HYes.out x0 x1 x2 x3 x4 hxs (by rw [← hxs]; exact hal))
        have HXr := Lib.hid (HX1.out.below hbr)
        have HBr := Lib.hid (HB1.out.trans (HBR.out.mono HB1.out.size))
        clear hrow hxs hall hal
        generalize hzV x0 = a at *
        generalize hzV x1 = b at *
        generalize hzV x2 = c at *
        generalize hzV x3 = d at *
        generalize hzV x4 = e at *
        have HSO := Lib.hid (l04Sound_any A' cc a b c d e wr (IntsAt.of_own hown))
        clear hown hbr hX
        go_wp2_with fail
        refine HSO.out.mono ?_
        rintro x w3 ⟨rfl, hb3⟩
        have HX3 := Lib.hid (HXr.out.below hb3)
        have HB3 := Lib.hid (below_two HBr.out hb3 (Nat.le_refl _))
        have HT3 := Lib.hid (Box5.new w3 a b c d e 47)
        have HX3' := Lib.hid (HX3.out.alloc (.cells #[.int .i64 a, .int .i64 b, .int .i64 c, .int .i64 d, .int .i64 e] 47))
        have HB3' := Lib.hid (HB3.out.alloc HB3.out.size (.cells #[.int .i64 a, .int .i64 b, .int .i64 c, .int .i64 d, .int .i64 e] 47))
        clear hb3
        cases hV : sB a b c d e with
        | false =>
          have HV := Lib.hid (HF5.out hV)
          have HOk := Lib.hid (l04Ok_is hV w3.heap.size 0 _ HT3.out.c0 HT3.out.c1 HT3.out.c2 HT3.out.c3 HT3.out.c4)
          clear hV
          go_wp2_with fail
          refine HOk.out.mono ?_
          rintro x w5 ⟨rfl, hb5⟩
          obtain ⟨hlt5, q0, q1, q2, q3, q4, g0, g1, g2, g3, g4⟩ := HX3'.out.below hb5
          have HB5 := Lib.hid (below_two HB3'.out hb5 (Nat.le_refl _))
          clear hb5
          go_wp2
          refine bodyPost_ret (v := .tuple #[.agg #[.int .i64 0, .int .i64 0, .int .i64 0, .int .i64 0, .int .i64 0], .bool false]) (by simp [results, Tryd.results71, go_sem, q0, q1, q2, q3, q4]) rfl ?_
          refine SndRet.of HV.out rfl ?_
          exact below_box HB5.out _ _ _ _ _
        | true =>
          have HV := Lib.hid (HY5.out hV)
          have HOk := Lib.hid (l04Ok_is hV w3.heap.size 0 _ HT3.out.c0 HT3.out.c1 HT3.out.c2 HT3.out.c3 HT3.out.c4)
          clear hV
          go_wp2_with fail
          refine HOk.out.mono ?_
          rintro x w5 ⟨rfl, hb5⟩
          obtain ⟨hlt5, q0, q1, q2, q3, q4, g0, g1, g2, g3, g4⟩ := HX3'.out.below hb5
          obtain ⟨tl5, t0, t1, t2, t3, t4, _, _, _, _, _⟩ := HT3.out.below hb5
          have HB5 := Lib.hid (below_two HB3'.out hb5 (Nat.le_refl _))
          clear hb5
          go_wp2
          refine bodyPost_ret (v := .tuple #[.agg #[.int .i64 a, .int .i64 b, .int .i64 c, .int .i64 d, .int .i64 e], .bool true]) (by simp [results, Tryd.results71, go_sem, q0, q1, q2, q3, q4]) rfl ?_
          refine SndRet.of HV.out rfl ?_
          exact below_box HB5.out _ _ _ _ _
  · have HV := Lib.hid (HLen.out h5)
    have hne : ((n : Int) == 5) = false := by rw [beq_eq_false_iff_ne]; omega
    obtain ⟨hlt1, q0, q1, q2, q3, q4, g0, g1, g2, g3, g4⟩ := HX1.out
    clear hX
    go_wp2
    refine bodyPost_ret (v := .tuple #[.agg #[.int .i64 0, .int .i64 0, .int .i64 0, .int .i64 0, .int .i64 0], .bool false]) (by simp [results, Tryd.results71, go_sem, q0, q1, q2, q3, q4]) rfl ?_
    refine SndRet.of HV.out rfl ?_
    exact below_box HB1.out _ _ _ _ _
set_option maxHeartbeats 1000000 in
theorem rdSnd_spec (s : ByteArray) (w : World) (hs : s.size ≤ 1048576) : Calls Tryd.prog 35 #[.string s] w fun x w' => SndRet s w x w' := by
  have HB0 := Lib.hid ((Below.refl w.heap.size w).alloc (Nat.le_refl _) (.cells #[.int .i64 0, .int .i64 0, .int .i64 0, .int .i64 0, .int .i64 0] 47))
  have HX0 := Lib.hid (Box5.new w 0 0 0 0 0 47)
  have HR := Lib.hid (fun w1 => l04Read_walk s w1 hs)
  go_enter Tryd.func35, Tryd.ntmps35
  go_wp2_with fail
  refine (HR.out _).mono ?_
  rintro x w1 ⟨rfl, hb1⟩
  obtain ⟨hlt1, q0, q1, q2, q3, q4, g0, g1, g2, g3, g4⟩ := HX0.out.below hb1
  have HB1 := Lib.hid (HB0.out.trans (hb1.mono HB0.out.size))
  clear hb1
  go_wp2
  refine bodyPost_ret (v := .tuple #[.agg #[.int .i64 (sdF s 0), .int .i64 (sdF s 1), .int .i64 (sdF s 2), .int .i64 (sdF s 3), .int .i64 (sdF s 4)], .bool (sdOK s)]) (by simp [results, Tryd.results35, go_sem, q0, q1, q2, q3, q4]) rfl ?_
  exact ⟨rfl, below_box HB1.out _ _ _ _ _⟩
end Go.Proofs.YtkbfmjnekeipcaaDoor
