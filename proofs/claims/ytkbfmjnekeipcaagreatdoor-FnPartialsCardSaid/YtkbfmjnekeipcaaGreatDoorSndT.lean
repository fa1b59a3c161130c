/- Contracts of the text of a sound. -/
import Derived.Test.YtkbfmjnekeipcaaGreatDoorListT
import Derived.Test.YtkbfmjnekeipcaaGreatDoorHertzT
import Derived.Test.YtkbfmjnekeipcaaGreatDoorSoundV
namespace Go.Proofs.YtkbfmjnekeipcaaGreatDoor
open Go.ChangeShapes Go.WideShapes Go.ChangeAt Go.RowKit
set_option maxRecDepth 100000

def sndL (zs : List Int) : ByteArray := joinB (zs.map hertzT) ⟨#[32]⟩
def sndS (a b c d e : Int) : ByteArray := if sB a b c d e then sndL [a, b, c, d, e] else ⟨#[]⟩
theorem ba_size (a b : ByteArray) : (a ++ b).size = a.size + b.size := ByteArray.size_append
theorem hertzT_size {f : Int} (h : inB f 10000 20000000 = true) : (hertzT f).size ≤ 24 := by
  obtain ⟨p1, p2, p3, b1, b2, b3, hm⟩ := parts1000 h
  have z1 := decS_size (wf_lo p1)
  have z2 := pad3_size b2 b3
  have h1 : (⟨#[46]⟩ : ByteArray).size = 1 := rfl
  unfold hertzT
  rw [ba_size, ba_size, h1, z2]
  omega
theorem sndL_one {zs : List Int} {z : Int} (h : zs[0]? = some z) : hertzT z = sndL (zs.take 1) := by
  cases zs with
  | nil => cases h
  | cons a r =>
    simp at h
    subst h
    exact (joinB_one _ _).symm
theorem sndL_succ {zs : List Int} {k : Nat} {z : Int} (h : zs[k]? = some z) (hk : 0 < k) : sndL (zs.take k) ++ ⟨#[32]⟩ ++ hertzT z = sndL (zs.take (k + 1)) := by
  unfold sndL
  rw [List.take_add_one, h, List.map_append]
  refine joinB_succ (fun h0 => ?_) _ _
  have hl : ((zs.take k).map hertzT).length = 0 := by rw [h0]; rfl
  have : k < zs.length := (List.getElem?_eq_some_iff.1 h).1
  rw [List.length_map, List.length_take] at hl
  omega
theorem sndL_size {zs : List Int} {k : Nat} (h : ∀ (j : Nat) z, zs[j]? = some z → inB z 10000 20000000 = true) (hk : k ≤ 5) : (sndL (zs.take k)).size ≤ 200 := by
  have h1 := joinB_size ((zs.take k).map hertzT) ⟨#[32]⟩ 24 (fun x hx => by
    obtain ⟨z, hz, rfl⟩ := List.mem_map.1 hx
    obtain ⟨j, hj, rfl⟩ := List.getElem_of_mem hz
    rw [List.length_take] at hj
    exact hertzT_size (h j (zs.take k)[j] (by rw [List.getElem_take]; exact List.getElem?_eq_getElem (by omega))))
  have h2 : ((zs.take k).map hertzT).length ≤ 5 := by simp; omega
  have h3 : (⟨#[32]⟩ : ByteArray).size = 1 := rfl
  rw [h3] at h1
  show (joinB _ _).size ≤ 200
  omega
def sndU (zs : List Int) (k : Nat) : List Value := (zs.take k).map fun z => .string (hertzT z)
theorem sndU_succ {zs : List Int} {k : Nat} {z : Int} (h : zs[k]? = some z) : sndU zs k ++ [.string (hertzT z)] = sndU zs (k + 1) := by
  unfold sndU
  rw [List.take_add_one, h, List.map_append]
  rfl
theorem sndU_all {zs : List Int} {n : Nat} (h : zs.length = n) : sndU zs n = (zs.map hertzT).map Value.string := by
  unfold sndU
  rw [List.take_of_length_le (by omega), List.map_map]
  rfl
theorem five_get {a b c d e : Int} (h : sB a b c d e = true) : ∀ (j : Nat) z, [a, b, c, d, e][j]? = some z → inB z 10000 20000000 = true := by
  have hA := (sB_parts h).1
  intro j z hz
  exact List.all_eq_true.1 hA z (List.mem_of_getElem? hz)
theorem hertz_of {f : Int} (h : inB f 10000 20000000 = true) : hertzS f = hertzT f := by unfold hertzS; rw [h]; rfl
theorem sbox (a b c d e : Int) (w : World) : Below w.heap.size w (w.alloc (.cells #[.int .i64 a, .int .i64 b, .int .i64 c, .int .i64 d, .int .i64 e] 39)) := (Below.refl _ _).alloc (Nat.le_refl _) _
set_option maxHeartbeats 4000000 in
theorem snd_impl_ok (a b c d e : Int) (w : World) (ht : Tab w) (h : sB a b c d e = true) : Calls Tryz.prog 22 #[.agg #[.int .i64 a, .int .i64 b, .int .i64 c, .int .i64 d, .int .i64 e]] w fun x w' => x = .returned (.string (sndL [a, b, c, d, e])) ∧ Below w.heap.size w w' := by
  have HB0 := Lib.hid (sbox a b c d e w)
  have HT := Lib.hid ht
  have H := Lib.hid h
  have HG := Lib.hid (five_get h)
  have HLO := Lib.hid (fun w1 => listOf_any a b c d e w1)
  have hl : [a, b, c, d, e].length = 5 := rfl
  obtain ⟨i0, hi, hz0, hz1, hz2⟩ := info_parts infoStrL
  obtain ⟨S, hS⟩ : ∃ S, S = sndL [a, b, c, d, e] := ⟨_, rfl⟩
  rw [← hS]
  have HZ := Lib.hid (show joinB (List.map hertzT [a, b, c, d, e]) ⟨#[32]⟩ = S from hS.symm)
  clear h ht hS
  go_enter Tryz.func22, Tryz.ntmps22
  go_wp2_with fail
  refine (valid_is H.out _).mono ?_
  rintro x w1 ⟨rfl, hb1⟩
  obtain ⟨hcc, hff⟩ := bcell hb1
  have HB1 := Lib.hid (HB0.out.trans (hb1.mono HB0.out.size))
  clear hb1
  go_wp2_with fail
  refine (HLO.out _).mono ?_
  rintro x w2 ⟨g2, cc2, rfl, hg2, ho2, hb2⟩
  generalize [a, b, c, d, e] = zs at *
  have hL : IntsAt w2 _ 5 zs := IntsAt.of_own ho2
  have HB2 := Lib.hid (below_two HB1.out hb2 (Nat.le_refl _))
  have hle : w.heap.size ≤ w2.heap.size := HB2.out.size
  clear ho2 hb2 hcc hff
  go_wp2
  go_loopw [3, 5, 12] (fun v _ i wr => ∃ k : Nat, k ≤ 5 ∧ i = .int .i64 k ∧ wr.ownsRow w2.heap.size 9 1 v k (sndU zs k) ∧ Below w2.heap.size w2 wr) (fun _ _ i _ => 5 - (intOf i).toNat)
  case atStart => exact ⟨0, Nat.zero_le _, rfl, World.ownsRow_nil _ _ _ _, Below.refl _ _⟩
  case round =>
    obtain ⟨k, hk, rfl, hown, hbr⟩ := hrel
    have HBR := Lib.hid hbr
    have hz := hbr.size
    by_cases hlt : k < 5
    · obtain ⟨b', off, z, e1, hb, hzk, hc⟩ := (hL.below hbr).at_ hlt
      simp only [Option.some.injEq, Addr.mk.injEq, and_true] at e1
      obtain ⟨rfl, rfl⟩ := e1
      rw [Nat.zero_add] at hc
      have hvz := HG.out k z hzk
      have HS := Lib.hid (sndU_succ hzk)
      have HH := Lib.hid (fun w1 (h1 : Tab w1) => hertz_impl z w1 h1)
      rw [hertz_of hvz] at HH
      have hkI : (k : Int) < 5 := by omega
      clear hzk hbr hvz
      go_wp2_with fail
      refine (HH.out _ ((HT.out.below HB2.out).below HBR.out)).mono ?_
      rintro x w3 ⟨rfl, hb3⟩
      have hown2 := row_keepL hown hb3
      have hs1 := hb3.size
      have HB3 := Lib.hid (below_two HBR.out hb3 (Nat.le_refl _))
      clear hb3 hown
      generalize hertzT z = t at *
      go_wp2_with (at_builtin; refine wpList_append_lies _ rfl _ _ _ rfl (w2.heap.size) 9 i0 _ 1 16 Tryz.underlying76 hi hz0 hz1 hz2 rfl (by omega) _ (k) _ rfl ((hown2.alloc _)) ⟨w3.heap.size, 0, none⟩ 1 1 [.string (t)] rfl rfl (World.news_of_block (cs := #[.string (t)]) (t := 9) (fr := (0, 0)) (heap_alloc_new w3 _)) (by simp [Value.oneCell']) (by omega) (by unfold maxLen; omega) (by omega) (by simp; omega) (w3.heap.size + 1) (by simp) ?_; intro gg cap w3 hown1 hgrow hat hlt')
      go_roundw
      case rel =>
        refine ⟨k + 1, by omega, by go_num, ?_, ?_⟩
        · rw [← HS.out]; exact hown1
        · exact (HB3.out.alloc (by omega) _).grown hgrow (by simp; omega) (by intro g hg; exact (hown2.lt g hg).1)
      case measure => simp [intOf]; omega
    · obtain rfl : k = 5 := by omega
      obtain ⟨A', cc, rfl⟩ := own_shape hown
      have hpos : ∃ g, A' = some ⟨g, 0, none⟩ := by
        rcases hown.2 with ⟨h1, _⟩ | ⟨g, cap, cur, hv, _⟩
        · simp only [Value.slice.injEq] at h1; omega
        · simp only [Value.slice.injEq] at hv; exact ⟨g, hv.1⟩
      obtain ⟨g, rfl⟩ := hpos
      rw [sndU_all hl] at hown
      have HJ := Lib.hid (join_at w2.heap.size g cc 5 (zs.map hertzT) ⟨#[32]⟩ wr hown (by omega) (fun x hx => by
        obtain ⟨z, hz, rfl⟩ := List.mem_map.1 hx
        obtain ⟨j, hj, rfl⟩ := List.getElem_of_mem hz
        have := hertzT_size (HG.out j _ (List.getElem?_eq_getElem hj))
        omega) (by decide))
      clear hown hbr
      go_wp2_with fail
      refine HJ.out.mono ?_
      rintro x w3 ⟨rfl, hb3⟩
      have HB3 := Lib.hid (below_two (HB2.out.trans (HBR.out.mono HB2.out.size)) hb3 (Nat.le_refl _))
      clear hb3
      go_wp2
      go_ret
      exact ⟨by rw [← HZ.out]; rfl, HB3.out⟩
theorem snd_impl (a b c d e : Int) (w : World) (ht : Tab w) : Calls Tryz.prog 22 #[.agg #[.int .i64 a, .int .i64 b, .int .i64 c, .int .i64 d, .int .i64 e]] w fun x w' => x = .returned (.string (sndS a b c d e)) ∧ Below w.heap.size w w' := by
  cases h : sB a b c d e with
  | false =>
    have HB0 := Lib.hid (sbox a b c d e w)
    have HC := Lib.hid (show (⟨#[]⟩ : ByteArray) = sndS a b c d e by unfold sndS; rw [h]; rfl)
    have H := Lib.hid h
    clear h
    go_enter Tryz.func22, Tryz.ntmps22
    go_wp2_with fail
    refine (valid_is H.out _).mono ?_
    rintro x w1 ⟨rfl, hb1⟩
    have HB1 := Lib.hid (HB0.out.trans (hb1.mono HB0.out.size))
    clear hb1
    go_wp2
    go_ret
    exact ⟨by rw [← HC.out]; rfl, HB1.out⟩
  | true =>
    have he : sndL [a, b, c, d, e] = sndS a b c d e := by unfold sndS; rw [h]; rfl
    rw [← he]
    exact snd_impl_ok a b c d e w ht h
end Go.Proofs.YtkbfmjnekeipcaaGreatDoor
