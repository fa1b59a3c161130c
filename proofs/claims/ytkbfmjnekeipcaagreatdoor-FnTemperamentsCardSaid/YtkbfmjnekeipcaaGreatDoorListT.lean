/- Contracts of the text of a list of numbers. -/
import Derived.Test.YtkbfmjnekeipcaaGreatDoorListP
namespace Go.Proofs.YtkbfmjnekeipcaaGreatDoor
open Go.ChangeShapes Go.WideShapes Go.ChangeAt Go.RowKit
set_option maxRecDepth 100000

theorem isValue2_is {z : Int} {r : Bool} (h : valB z = r) (w : World) : Calls Tryz.prog 73 #[.int .i64 z] w fun e w' => e = .returned (.bool r) ∧ w = w' := by
  have h1 : inB z (-1000000000000) 1000000000000 = r := h
  go_enter Tryz.func73, Tryz.ntmps73
  go_wp2_with (go_at_call 71; refine (within_is h1 _).mono ?_; rintro e w' ⟨rfl, rfl⟩)
  go_ret
  exact ⟨rfl, rfl⟩
theorem closL_is {z : Int} {r : Bool} (h : valB z = r) (w : World) : Calls Tryz.prog 72 #[.int .i64 z] w fun e w' => e = .returned (.bool (!r)) ∧ w = w' := by
  go_enter Tryz.func72, Tryz.ntmps72
  go_wp2_with (go_at_call 73; refine (isValue2_is h _).mono ?_; rintro e w' ⟨rfl, rfl⟩)
  go_ret
  exact ⟨rfl, rfl⟩
theorem indexL_any (A : Option Addr) (n c : Nat) (zs : List Int) (w : World) (h : IntsAt w A n zs) (hn : n ≤ 4611686018427387904) :
    Calls Tryz.prog 89 #[.slice A n c, .func (.func 72) #[] #[]] w fun e w' => ∃ r : Int, e = .returned (.int .i64 r) ∧ w = w' ∧ decide (0 ≤ r) = !(zs.all valB) := by
  have hl := h.len
  go_enter Tryz.func89, Tryz.ntmps89
  go_wp2
  go_loop [5, 8] (fun _ i => ∃ k : Nat, k ≤ n ∧ i = .int .i64 k ∧ ∀ j z, j < k → zs[j]? = some z → valB z = true) (fun _ i => n - (intOf i).toNat)
  case atStart => exact ⟨0, Nat.zero_le _, rfl, fun j z hj => by omega⟩
  case round =>
    obtain ⟨k, hk, rfl, hall⟩ := hrel
    by_cases hlt : k < n
    · obtain ⟨b, off, z, rfl, hb, hz, hc⟩ := h.at_ hlt
      cases hB : valB z
      · have H := Lib.hid (val_any hz hB)
        clear hall hz
        go_wp2_with (go_at_call 72; refine (closL_is hB _).mono ?_; rintro e w' ⟨rfl, rfl⟩)
        go_ret
        exact ⟨k, rfl, rfl, by rw [H.out]; simp⟩
      · have H := Lib.hid (val_succ hall hz hB)
        clear hall hz
        go_wp2_with (go_at_call 72; refine (closL_is hB _).mono ?_; rintro e w' ⟨rfl, rfl⟩)
        go_round
        case rel => exact ⟨k + 1, by omega, by go_num, H.out⟩
        case measure => simp [intOf]; omega
    · have H := Lib.hid (val_all hl (fun j z hj => hall j z (by omega)))
      clear hall
      go_wp2
      go_ret
      exact ⟨-1, rfl, rfl, by rw [H.out]; rfl⟩
theorem containsL_is {A : Option Addr} {n c : Nat} {zs : List Int} {r : Bool} (hr : zs.all valB = r) (w : World) (h : IntsAt w A n zs) (hn : n ≤ 4611686018427387904) :
    Calls Tryz.prog 64 #[.slice A n c, .func (.func 72) #[] #[]] w fun e w' => e = .returned (.bool (!r)) ∧ w = w' := by
  have H := Lib.hid (indexL_any A n c zs w h hn)
  go_enter Tryz.func64, Tryz.ntmps64
  go_wp2_with fail
  refine H.out.mono ?_
  rintro e w' ⟨r', rfl, rfl, hr'⟩
  have HR := Lib.hid hr'
  clear hr'
  go_wp2
  go_ret
  exact ⟨ret_bool (by rw [HR.out, hr]), rfl⟩
theorem infoStrL : (Tryz.prog.info? 9).map (fun i => (i.zero, i.size, i.bytes)) = some (some (.string ⟨#[]⟩), 1, 16) := by kernel_rfl
theorem join_at (base g c n : Nat) (xs : List ByteArray) (sep : ByteArray) (w : World) (ho : w.ownsRow base 9 1 (.slice (some ⟨g, 0, none⟩) n c) n (xs.map Value.string)) (hn : n ≤ 100) (hs : ∀ x ∈ xs, x.size ≤ 1000) (hsep : sep.size ≤ 1000) :
    Calls Tryz.prog 54 #[.slice (some ⟨g, 0, none⟩) n c, .string sep] w fun e w' => e = .returned (.string (joinB xs sep)) ∧ Below w.heap.size w w' := by
  have hl : xs.length = n := by have := ho.1; simpa using this
  have hjl := join_len xs sep 1000 hs
  have hm : (sep.size + 1000) * xs.length ≤ 2000 * 100 := Nat.mul_le_mul (by omega) (by omega)
  have hcap : n ≤ c := by
    rcases ho.2 with ⟨h1, h2⟩ | ⟨g', cap, cur, hv, hg, hh, hnc, r⟩
    · simp only [Value.slice.injEq] at h1
      exact absurd h1.1 (by simp)
    · simp only [Value.slice.injEq] at hv
      obtain ⟨_, _, rfl⟩ := hv
      omega
  subst hl
  refine Tryz.strings_Join g 0 c xs sep w ?_ (ho.lt g rfl).2 (by omega) hcap (Nat.le_trans hjl (by omega))
  intro j x hx
  have hj : j < xs.length * 1 := by rw [Nat.mul_one]; exact (List.getElem?_eq_some_iff.1 hx).1
  rw [Nat.zero_add, ho.cellAt j hj, List.getElem?_map, hx]
  rfl
def txtsU (zs : List Int) (k : Nat) : List Value := (zs.take k).map fun z => .string (decS z)
theorem txtsU_succ {zs : List Int} {k : Nat} {z : Int} (h : zs[k]? = some z) : txtsU zs k ++ [.string (decS z)] = txtsU zs (k + 1) := by
  unfold txtsU
  rw [List.take_add_one, h, List.map_append]
  rfl
theorem txtsU_all {zs : List Int} {n : Nat} (h : zs.length = n) : txtsU zs n = (zs.map decS).map Value.string := by
  unfold txtsU
  rw [List.take_of_length_le (by omega), List.map_map]
  rfl
set_option maxHeartbeats 4000000 in
theorem list_impl_ok (A : Option Addr) (n c : Nat) (zs : List Int) (w : World) (ht : Tab w) (h : IntsAt w A n zs) (hn : n ≤ 64) (hn0 : 0 < n) (hv : zs.all valB = true) :
    Calls Tryz.prog 34 #[.slice A n c] w fun e w' => e = .returned (.string (listL zs)) ∧ Below w.heap.size w w' := by
  have HT := Lib.hid ht
  clear ht
  obtain ⟨i0, hi, hz0, hz1, hz2⟩ := info_parts infoStrL
  have hl := h.len
  have HG := Lib.hid (val_get hv)
  have HCO := Lib.hid (fun w1 (h1 : IntsAt w1 A n zs) => containsL_is (c := c) hv w1 h1 (by omega))
  have hne : ((n : Int) == 0) = false := by rw [beq_eq_false_iff_ne]; omega
  clear hv
  go_enter Tryz.func34, Tryz.ntmps34
  go_wp2_with (go_at_call 64; refine (HCO.out _ h).mono ?_; rintro e w' ⟨rfl, rfl⟩)
  go_loopw [3, 5, 18] (fun v _ i wr => ∃ k : Nat, k ≤ n ∧ i = .int .i64 k ∧ wr.ownsRow w.heap.size 9 1 v k (txtsU zs k) ∧ Below w.heap.size w wr) (fun _ _ i _ => n - (intOf i).toNat)
  case atStart => exact ⟨0, Nat.zero_le _, rfl, World.ownsRow_nil _ _ _ _, Below.refl _ _⟩
  case round =>
    obtain ⟨k, hk, rfl, hown, hbr⟩ := hrel
    have HBR := Lib.hid hbr
    have hz := hbr.size
    by_cases hlt : k < n
    · obtain ⟨b, off, z, rfl, hb, hzk, hc⟩ := (h.below hbr).at_ hlt
      have wz := val_wf (HG.out k z hzk)
      have HS := Lib.hid (txtsU_succ hzk)
      have hkI : (k : Int) < n := by omega
      clear hzk hbr
      go_wp2_with fail
      refine (decimal_impl _ wz _ (HT.out.below HBR.out)).mono ?_
      rintro e w1 ⟨rfl, hb1⟩
      have hown2 := row_keepL hown hb1
      have hs1 := hb1.size
      have HB1 := Lib.hid (below_two HBR.out hb1 (Nat.le_refl _))
      clear hb1 hown
      generalize decS z = t at *
      go_wp2_with (at_builtin; refine wpList_append_lies _ rfl _ _ _ rfl (w.heap.size) 9 i0 _ 1 16 Tryz.underlying76 hi hz0 hz1 hz2 rfl (by omega) _ (k) _ rfl ((hown2.alloc _)) ⟨w1.heap.size, 0, none⟩ 1 1 [.string (t)] rfl rfl (World.news_of_block (cs := #[.string (t)]) (t := 9) (fr := (0, 0)) (heap_alloc_new w1 _)) (by simp [Value.oneCell']) (by omega) (by unfold maxLen; omega) (by omega) (by simp; omega) (w1.heap.size + 1) (by simp) ?_; intro gg cap w3 hown1 hgrow hat hlt')
      go_roundw
      case rel =>
        refine ⟨k + 1, by omega, by go_num, ?_, ?_⟩
        · rw [← HS.out]; exact hown1
        · exact (HB1.out.alloc (by omega) _).grown hgrow (by simp; omega) (by intro g hg; exact (hown2.lt g hg).1)
      case measure => simp [intOf]; omega
    · obtain rfl : k = n := by omega
      obtain ⟨A', cc, rfl⟩ := own_shape hown
      have hpos : ∃ g, A' = some ⟨g, 0, none⟩ := by
        rcases hown.2 with ⟨h1, _⟩ | ⟨g, cap, cur, hv, _⟩
        · simp only [Value.slice.injEq] at h1; omega
        · simp only [Value.slice.injEq] at hv; exact ⟨g, hv.1⟩
      obtain ⟨g, rfl⟩ := hpos
      rw [txtsU_all hl] at hown
      have HO := Lib.hid hown
      have HJ := Lib.hid (join_at w.heap.size g cc k (zs.map decS) ⟨#[44]⟩ wr hown (by omega) (fun x hx => by
        obtain ⟨z, hz, rfl⟩ := List.mem_map.1 hx
        obtain ⟨j, hj, rfl⟩ := List.getElem_of_mem hz
        have := decS_size (wf_lo (val_wf (HG.out j _ (List.getElem?_eq_getElem hj))))
        omega) (by decide))
      clear hown hbr
      go_wp2_with fail
      refine HJ.out.mono ?_
      rintro e w1 ⟨rfl, hb1⟩
      have HB1 := Lib.hid (below_two HBR.out hb1 (Nat.le_refl _))
      clear hb1
      go_wp2
      go_ret
      exact ⟨rfl, HB1.out⟩
theorem list_impl (A : Option Addr) (n c : Nat) (zs : List Int) (w : World) (ht : Tab w) (h : IntsAt w A n zs) (hn : n ≤ 4611686018427387904) :
    Calls Tryz.prog 34 #[.slice A n c] w fun e w' => e = .returned (.string (listS zs)) ∧ Below w.heap.size w w' := by
  have hl := h.len
  by_cases h64 : n ≤ 64
  · cases hv : zs.all valB with
    | false =>
      have HC := Lib.hid (show (⟨#[]⟩ : ByteArray) = listS zs by unfold listS fitsB; rw [hv]; rfl)
      have HCO := Lib.hid (fun w1 (h1 : IntsAt w1 A n zs) => containsL_is (c := c) hv w1 h1 (by omega))
      clear hv
      go_enter Tryz.func34, Tryz.ntmps34
      go_wp2_with (go_at_call 64; refine (HCO.out _ h).mono ?_; rintro e w' ⟨rfl, rfl⟩)
      go_ret
      exact ⟨by rw [← HC.out]; rfl, Below.refl _ _⟩
    | true =>
      have hf : fitsB zs = true := by unfold fitsB; rw [hv, hl]; simpa using h64
      by_cases h0 : n = 0
      · subst h0
        have HC := Lib.hid (show (⟨#[45]⟩ : ByteArray) = listS zs by unfold listS; rw [if_pos hf, List.length_eq_zero_iff.1 hl]; rfl)
        have HCO := Lib.hid (fun w1 (h1 : IntsAt w1 A 0 zs) => containsL_is (c := c) hv w1 h1 (by omega))
        clear hv hf
        go_enter Tryz.func34, Tryz.ntmps34
        go_wp2_with (go_at_call 64; refine (HCO.out _ h).mono ?_; rintro e w' ⟨rfl, rfl⟩)
        go_ret
        exact ⟨by rw [← HC.out]; rfl, Below.refl _ _⟩
      · have he : listL zs = listS zs := by
          unfold listS listT
          rw [if_pos hf, if_neg (fun h1 => h0 (by rw [← hl, h1]; rfl))]
        rw [← he]
        exact list_impl_ok A n c zs w ht h h64 (by omega) hv
  · have HC := Lib.hid (show (⟨#[]⟩ : ByteArray) = listS zs by unfold listS fitsB; rw [decide_eq_false (by omega), Bool.and_false]; rfl)
    have hd : (64 : Int) < n := by omega
    go_enter Tryz.func34, Tryz.ntmps34
    go_wp2
    go_ret
    exact ⟨by rw [← HC.out]; rfl, Below.refl _ _⟩
end Go.Proofs.YtkbfmjnekeipcaaGreatDoor
