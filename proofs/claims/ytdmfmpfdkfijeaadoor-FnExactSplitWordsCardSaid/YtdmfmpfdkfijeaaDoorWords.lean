/- Contracts of the words of a line. -/
import Derived.Test.YtdmfmpfdkfijeaaDoorSplitS
import Derived.Test.YtdmfmpfdkfijeaaDoorName
namespace Go.Proofs.YtdmfmpfdkfijeaaDoor
open Go.ChangeShapes Go.WideShapes Go.ChangeAt Go.RowKit
set_option maxRecDepth 100000

def wordsS (s : ByteArray) : List ByteArray := wordsU (splitS 32 s) (splitS 32 s).length
theorem ne_size {x : ByteArray} (h : x ≠ ⟨#[]⟩) : 1 ≤ x.size := by
  rcases Nat.eq_zero_or_pos x.size with h0 | h0
  · exfalso
    apply h
    apply ByteArray.ext
    exact Array.eq_empty_of_size_eq_zero h0
  · exact h0
set_option maxHeartbeats 4000000 in
theorem words_spec (s : ByteArray) (w : World) (hs : s.size ≤ 1048576) : Calls Tryd.prog 22 #[.string s] w fun e w' => NewStrs w (wordsS s) e w' := by
  obtain ⟨i0, hi, hz0, hz1, hz2⟩ := info_parts infoStrS
  have hl := splitS_len 32 s
  have HW : Hid (wordsU (splitS 32 s) (splitS 32 s).length = wordsS s) := rfl
  have HSP := Lib.hid (fun w1 => l01Split_is 32 32 rfl s w1 hs)
  generalize splitS 32 s = xs at *
  go_enter Tryd.func22, Tryd.ntmps22
  go_wp2_with fail
  refine (HSP.out _).mono ?_
  rintro e w1 ⟨A1, c1, rfl, ho1, hb1⟩
  have hX := StrsAt.of_own ho1
  obtain ⟨n, hn⟩ : ∃ n, n = xs.length := ⟨_, rfl⟩
  rw [← hn] at hX hl HW ⊢
  have HB1 := Lib.hid hb1
  have hle := hb1.size
  clear ho1 hb1
  go_wp2
  go_loopw [4, 5] (fun v i wr => ∃ k : Nat, k ≤ n ∧ i = .int .i64 k ∧ wr.ownsRow w1.heap.size 9 1 v (wordsU xs k).length ((wordsU xs k).map Value.string) ∧ Below w1.heap.size w1 wr) (fun _ i _ => n - (intOf i).toNat)
  case atStart => exact ⟨0, Nat.zero_le _, rfl, sV_new w1 _ _ rfl (Nat.le_refl _), (Below.refl _ _).alloc (Nat.le_refl _) _⟩
  case round =>
    obtain ⟨k, hk, rfl, hown, hbr⟩ := hrel
    have HBR := Lib.hid hbr
    have hbs := hbr.size
    have hwl := wordsU_len xs k
    by_cases hlt : k < n
    · obtain ⟨b, off, x, rfl, hb, hx, hc⟩ := (hX.below hbr).at_ hlt
      by_cases hxe : x = ⟨#[]⟩
      · have HI := Lib.hid (wordsU_no hx hxe)
        subst hxe
        have HO := Lib.hid hown
        clear hx hbr hown
        go_wp2
        go_roundw
        case rel => exact ⟨k + 1, by omega, by go_num, by rw [← HI.out]; exact HO.out, HBR.out⟩
        case measure => simp [intOf]; omega
      · have HI := Lib.hid (wordsU_yes hx hxe)
        have hE := isEmpty_of_size (ne_size hxe)
        clear hx hbr hxe
        go_wp2_with (at_builtin; refine wpList_append_lies _ rfl _ _ _ rfl (w1.heap.size) 9 i0 _ 1 16 Tryd.underlying27 hi hz0 hz1 hz2 rfl (by omega) _ ((wordsU xs k).length) _ rfl ((hown.alloc _)) ⟨wr.heap.size, 0, none⟩ 1 1 [.string (x)] rfl rfl (World.news_of_block (cs := #[.string (x)]) (t := 9) (fr := (0, 0)) (heap_alloc_new wr _)) (by simp [Value.oneCell']) (by omega) (by unfold maxLen; omega) (by omega) (by simp; omega) (wr.heap.size + 1) (by simp) ?_; intro gg cap w3 hown1 hgrow hat hlt')
        go_roundw
        case rel =>
          refine ⟨k + 1, by omega, by go_num, by rw [← HI.out]; exact row_snocV hown1, ?_⟩
          exact (HBR.out.alloc hbs _).grown hgrow (by simp; omega) (by intro g hg; exact (hown.lt g hg).1)
        case measure => simp [intOf]; omega
    · obtain rfl : k = n := by omega
      obtain ⟨A', cc, rfl⟩ := own_shape hown
      rw [HW.out] at hown
      have HO := Lib.hid hown
      have HL : Hid ((wordsU xs k).length = (wordsS s).length) := by show _ = _; rw [HW.out]
      rw [HL.out]
      clear hown hbr hwl
      go_wp2
      go_ret
      exact ⟨_, _, rfl, row_weaken HO.out hle, HB1.out.trans (HBR.out.mono HB1.out.size)⟩
set_option maxHeartbeats 4000000 in
theorem words_impl (s : ByteArray) (w : World) (hm : MaxLenIs w) (hs : s.size ≤ 1048576) : Calls Tryd.prog 23 #[.string s] w fun e w' => NewStrs w (wordsS s) e w' := by
  obtain ⟨i0, hi, hz0, hz1, hz2⟩ := info_parts infoStrS
  have HW : Hid (wordsU (splitS 32 s) (splitS 32 s).length = wordsS s) := rfl
  have HSP := Lib.hid (fun w1 (h1 : MaxLenIs w1) => split_call 32 s w1 h1 hs)
  have HM := Lib.hid hm
  clear hm
  generalize splitS 32 s = xs at *
  go_enter Tryd.func23, Tryd.ntmps23
  go_wp2_with fail
  refine (HSP.out _ HM.out).mono ?_
  rintro e w1 ⟨n, rfl, hn, hX, hb1⟩
  have hl := hX.len
  rw [hl] at HW
  have HB1 := Lib.hid hb1
  have hle := hb1.size
  clear hb1
  go_wp2
  go_loopw [3, 5, 9] (fun v _ i wr => ∃ k : Nat, k ≤ n ∧ i = .int .i64 k ∧ wr.ownsRow w1.heap.size 9 1 v (wordsU xs k).length ((wordsU xs k).map Value.string) ∧ Below w1.heap.size w1 wr) (fun _ _ i _ => n - (intOf i).toNat)
  case atStart => exact ⟨0, Nat.zero_le _, rfl, World.ownsRow_nil _ _ _ _, Below.refl _ _⟩
  case round =>
    obtain ⟨k, hk, rfl, hown, hbr⟩ := hrel
    have HBR := Lib.hid hbr
    have hbs := hbr.size
    have hwl := wordsU_len xs k
    by_cases hlt : k < n
    · obtain ⟨b, off, x, e1, hb, hx, hc⟩ := (hX.below hbr).at_ hlt
      simp only [Option.some.injEq, Addr.mk.injEq, and_true] at e1
      obtain ⟨rfl, rfl⟩ := e1
      rw [Nat.zero_add] at hc
      have hkI : (k : Int) < n := by omega
      by_cases hxe : x = ⟨#[]⟩
      · have HI := Lib.hid (wordsU_no hx hxe)
        subst hxe
        have HO := Lib.hid hown
        clear hx hbr hown
        go_wp2
        go_roundw
        case rel => exact ⟨k + 1, by omega, by go_num, by rw [← HI.out]; exact HO.out, HBR.out⟩
        case measure => simp [intOf]; omega
      · have HI := Lib.hid (wordsU_yes hx hxe)
        have hE := isEmpty_of_size (ne_size hxe)
        clear hx hbr hxe
        go_wp2_with (at_builtin; refine wpList_append_lies _ rfl _ _ _ rfl (w1.heap.size) 9 i0 _ 1 16 Tryd.underlying27 hi hz0 hz1 hz2 rfl (by omega) _ ((wordsU xs k).length) _ rfl ((hown.alloc _)) ⟨wr.heap.size, 0, none⟩ 1 1 [.string (x)] rfl rfl (World.news_of_block (cs := #[.string (x)]) (t := 9) (fr := (0, 0)) (heap_alloc_new wr _)) (by simp [Value.oneCell']) (by omega) (by unfold maxLen; omega) (by omega) (by simp; omega) (wr.heap.size + 1) (by simp) ?_; intro gg cap w3 hown1 hgrow hat hlt')
        go_roundw
        case rel =>
          refine ⟨k + 1, by omega, by go_num, by rw [← HI.out]; exact row_snocV hown1, ?_⟩
          exact (HBR.out.alloc hbs _).grown hgrow (by simp; omega) (by intro g hg; exact (hown.lt g hg).1)
        case measure => simp [intOf]; omega
    · obtain rfl : k = n := by omega
      obtain ⟨A', cc, rfl⟩ := own_shape hown
      rw [HW.out] at hown
      have HO := Lib.hid hown
      have HL : Hid ((wordsU xs k).length = (wordsS s).length) := by show _ = _; rw [HW.out]
      rw [HL.out]
      clear hown hbr hwl
      go_wp2
      go_ret
      exact ⟨_, _, rfl, row_weaken HO.out hle, HB1.out.trans (HBR.out.mono HB1.out.size)⟩
end Go.Proofs.YtdmfmpfdkfijeaaDoor
