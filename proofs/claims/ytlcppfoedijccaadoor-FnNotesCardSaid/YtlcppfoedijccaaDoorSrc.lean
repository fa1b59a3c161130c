/- Contracts of the reference's source of choices: the next number, and a number below another. -/
import Derived.Test.YtlcppfoedijccaaDoorBytes
import Derived.Laws.Bits64b
import Derived.Maps.AppendAt
namespace Go.Proofs.YtlcppfoedijccaaDoor
open Go.ChangeShapes Go.WideShapes Go.ChangeAt Go.RowKit
set_option maxRecDepth 100000

theorem BytesAt.grown {w w' : World} {A : Option Addr} {n g : Nat} {xs : List UInt8} (h : BytesAt w A n xs) (hb : w.grownBy w' (some g)) (hne : 0 < n → ∀ a, A = some a → a.block ≠ g) : BytesAt w' A n xs :=
  ⟨h.1, fun hn => by
    obtain ⟨b, off, e, hlt, hc⟩ := h.2 hn
    exact ⟨b, off, e, Nat.lt_of_lt_of_le hlt hb.size, fun j u hu => hb.cell (hc j u hu) (fun e' => hne hn _ e (Option.some.inj e'))⟩⟩
structure SrcAt (w : World) (g : Nat) (A : Option Addr) (n c : Nat) (xs : List UInt8) (k : Nat) (z : Int) : Prop where
  lt : g < w.heap.size
  c0 : w.cell? ⟨g, 0, none⟩ = some (.slice A n c)
  c1 : w.cell? ⟨g, 1, none⟩ = some (.int .i64 k)
  c2 : w.cell? ⟨g, 2, none⟩ = some (.int .u64 z)
  f1 : w.frozen? ⟨g, 1, none⟩ = false
  f2 : w.frozen? ⟨g, 2, none⟩ = false
  bytes : BytesAt w A n xs
  far : 0 < n → ∀ a, A = some a → a.block ≠ g
  z0 : 0 ≤ z
  z1 : z ≤ 18446744073709551615
theorem grown_drewN (w : World) (q g : Nat) : w.grownBy (w.drewN q) (some g) := ⟨rfl, rfl, rfl, Nat.le_refl _, fun _ _ _ => rfl⟩
theorem grown_set (w : World) (g o : Nat) (v : Value) : w.grownBy (w.setCell ⟨g, o, none⟩ v) (some g) :=
  ⟨rfl, rfl, rfl, by simp, fun i _ hne => heap_setCell_other w ⟨g, o, none⟩ i v (fun e => hne (by rw [e]))⟩
/-- What the two stores leave. -/
theorem src_stores {w : World} {g : Nat} {A : Option Addr} {n c : Nat} {xs : List UInt8} {k : Nat} {z z' k' : Int} (h : SrcAt w g A n c xs k z) (hk : k' = ((k + 1 : Nat) : Int)) (hz0 : 0 ≤ z') (hz1 : z' ≤ 18446744073709551615) :
    SrcAt ((w.setCell ⟨g, 1, none⟩ (.int .i64 k')).setCell ⟨g, 2, none⟩ (.int .u64 z')) g A n c xs (k + 1) z' ∧ w.grownBy ((w.setCell ⟨g, 1, none⟩ (.int .i64 k')).setCell ⟨g, 2, none⟩ (.int .u64 z')) (some g) := by
  subst hk
  have hG := (grown_set w g 1 (.int .i64 ((k + 1 : Nat) : Int))).trans (grown_set _ g 2 (.int .u64 z'))
  have d2 : (w.setCell ⟨g, 1, none⟩ (.int .i64 ((k + 1 : Nat) : Int))).cell? ⟨g, 2, none⟩ = some (.int .u64 z) := (World.cell?_setCell_other _ _ _ _ (by simp)).trans h.c2
  refine ⟨⟨Nat.lt_of_lt_of_le h.lt hG.size, ?_, ?_, ?_, ?_, ?_, BytesAt.grown h.bytes hG h.far, h.far, hz0, hz1⟩, hG⟩
  · exact (World.cell?_setCell_other _ _ _ _ (by simp)).trans ((World.cell?_setCell_other _ _ _ _ (by simp)).trans h.c0)
  · exact (World.cell?_setCell_other _ _ _ _ (by simp)).trans (World.cell?_setCell_same _ _ _ h.c1)
  · exact World.cell?_setCell_same _ _ _ d2
  · simpa using h.f1
  · simpa using h.f2
theorem src_drewN {w : World} {g : Nat} {A : Option Addr} {n c : Nat} {xs : List UInt8} {k : Nat} {z : Int} (h : SrcAt w g A n c xs k z) (q : Nat) : SrcAt (w.drewN q) g A n c xs k z := ⟨h.lt, h.c0, h.c1, h.c2, h.f1, h.f2, h.bytes, h.far, h.z0, h.z1⟩
def stepZ (z x : Int) : Int := IntKind.u64.wrap (IntKind.u64.wrap (IntKind.u64.wrap (z * 6364136223846793005) + x) + 1442695040888963407)
theorem u64_wrap_bd (a : Int) : 0 ≤ IntKind.u64.wrap a ∧ IntKind.u64.wrap a ≤ 18446744073709551615 := by
  have h : IntKind.u64.wrap a = a % 18446744073709551616 := rfl
  rw [h]
  omega
theorem and255 {Z : Int} (h0 : 0 ≤ Z) (h1 : Z ≤ 18446744073709551615) : 0 ≤ wrap64 (bits .and .u64 (Z / 1099511627776) 255) ∧ wrap64 (bits .and .u64 (Z / 1099511627776) 255) ≤ 255 := by
  have h := bits_and_u64_nat (Z / 1099511627776).toNat 255 (by omega) (by omega)
  have h2 : (((Z / 1099511627776).toNat : Nat) : Int) = Z / 1099511627776 := by omega
  rw [h2] at h
  have h3 : (Z / 1099511627776).toNat &&& 255 ≤ 255 := Nat.and_le_right
  have h4 : bits .and .u64 (Z / 1099511627776) 255 = (((Z / 1099511627776).toNat &&& 255 : Nat) : Int) := h
  rw [h4]
  unfold wrap64
  omega
set_option maxHeartbeats 4000000 in
theorem next_is (g : Nat) (A : Option Addr) (n c : Nat) (xs : List UInt8) (k : Nat) (z : Int) (w : World) (h : SrcAt w g A n c xs k z) (hk : k ≤ 1000000000) :
    Calls Tryd.prog 26 #[.pointer (some ⟨g, 0, none⟩)] w fun e w' => ∃ (x : Int) (z' : Int), e = .returned (.int .i64 x) ∧ 0 ≤ x ∧ x ≤ 255 ∧ SrcAt w' g A n c xs (k + 1) z' ∧ w.grownBy w' (some g) := by
  have H := h
  obtain ⟨hlt, c0, c1, c2, f1, f2, hb, hfar, z0, z1⟩ := h
  by_cases hkn : k < n
  · obtain ⟨b, off, x, rfl, hbl, hx, hc⟩ := hb.at_ hkn
    have hkI : (k : Int) < (n : Int) := by omega
    have hk0 : (0 : Int) ≤ (k : Int) := Int.natCast_nonneg _
    have hk1 : (k : Int) + 1 ≤ (n : Int) := by omega
    have hbg : b ≠ g := hfar (by omega) _ rfl
    have HB := Lib.hid hb
    have hx0 : (0 : Int) ≤ (x.toNat : Int) := Int.natCast_nonneg _
    have hx1 : (x.toNat : Int) ≤ 255 := by have := UInt8.toNat_lt x; omega
    clear hx hb
    go_enter Tryd.func26, Tryd.ntmps26
    go_wp2
    go_quiet (fail)
    go_wp2
    go_quiet (fail)
    go_wp2
    have hS := fun q => src_stores (src_drewN H q) (k' := (k : Int) + 1) (z' := stepZ z x.toNat) (by omega) (u64_wrap_bd _).1 (u64_wrap_bd _).2
    generalize hq : w.drewN _ = W
    have hW : SrcAt W g (some ⟨b, off, none⟩) n c xs k z := by rw [← hq]; exact src_drewN H _
    have hGW : w.grownBy W (some g) := by rw [← hq]; exact grown_drewN w _ g
    obtain ⟨hS1, hS2⟩ := src_stores hW (k' := (k : Int) + 1) (z' := stepZ z x.toNat) (by omega) (u64_wrap_bd _).1 (u64_wrap_bd _).2
    have HS := Lib.hid hS1
    have HG := Lib.hid (hGW.trans hS2)
    clear hS hW hGW hS1 hS2 hq
    unfold stepZ at HS HG
    obtain ⟨hlt', d0, d1, d2, e1, e2, _, _, _, _⟩ := HS.out
    clear c0 c1 c2 f1 f2
    go_quiet (fail)
    go_wp2
    go_ret
    exact ⟨_, _, rfl, hx0, hx1, src_drewN HS.out nq, HG.out.trans (grown_drewN _ nq g)⟩
  · have hkI : ¬ (k : Int) < (n : Int) := by omega
    have hk0 : (0 : Int) ≤ (k : Int) := Int.natCast_nonneg _
    have hk1 : ¬ (k : Int) + 1 ≤ (n : Int) := by omega
    go_enter Tryd.func26, Tryd.ntmps26
    go_wp2
    go_quiet (fail)
    go_wp2
    generalize hq : w.drewN _ = W
    have hW : SrcAt W g A n c xs k z := by rw [← hq]; exact src_drewN H _
    have hGW : w.grownBy W (some g) := by rw [← hq]; exact grown_drewN w _ g
    have hZ := u64_wrap_bd (IntKind.u64.wrap (IntKind.u64.wrap (z * 6364136223846793005)) + 1442695040888963407)
    generalize IntKind.u64.wrap (IntKind.u64.wrap (IntKind.u64.wrap (z * 6364136223846793005)) + 1442695040888963407) = Z at *
    obtain ⟨hZ0, hZ1⟩ := hZ
    obtain ⟨hS1, hS2⟩ := src_stores hW (k' := (k : Int) + 1) (z' := Z) (by omega) hZ0 hZ1
    have HS := Lib.hid hS1
    have HG := Lib.hid (hGW.trans hS2)
    clear hW hGW hS1 hS2 hq
    obtain ⟨hlt', d0, d1, d2, e1, e2, _, _, _, _⟩ := HS.out
    clear c0 c1 c2 f1 f2
    go_quiet (fail)
    go_wp2
    go_ret
    obtain ⟨hx0, hx1⟩ := and255 hZ0 hZ1
    exact ⟨_, _, rfl, hx0, hx1, src_drewN HS.out nq, HG.out.trans (grown_drewN _ nq g)⟩
set_option maxHeartbeats 1000000 in
theorem pick_is (g : Nat) (A : Option Addr) (n c : Nat) (xs : List UInt8) (k : Nat) (z m : Int) (w : World) (h : SrcAt w g A n c xs k z) (hk : k ≤ 999999998) (hm : 1 ≤ m) (hm2 : m ≤ 1000000000) :
    Calls Tryd.prog 18 #[.pointer (some ⟨g, 0, none⟩), .int .i64 m] w fun e w' => ∃ (r : Int) (k' : Nat) (z' : Int), e = .returned (.int .i64 r) ∧ 0 ≤ r ∧ r < m ∧ k ≤ k' ∧ k' ≤ k + 2 ∧ SrcAt w' g A n c xs k' z' ∧ w.grownBy w' (some g) := by
  by_cases h1 : m ≤ 1
  · obtain rfl : m = 1 := by omega
    have H := Lib.hid h
    clear h
    go_enter Tryd.func18, Tryd.ntmps18
    go_wp2
    go_ret
    exact ⟨0, k, z, rfl, by omega, by omega, Nat.le_refl _, by omega, H.out, World.grownBy.refl _ _⟩
  · have HN := Lib.hid (next_is g A n c xs k z w h (by omega))
    clear h
    by_cases h2 : (200 : Int) < m
    · go_enter Tryd.func18, Tryd.ntmps18
      go_wp2_with fail
      refine HN.out.mono ?_
      rintro e w1 ⟨x, z1, rfl, x0, x1, hS1, hG1⟩
      have HN2 := Lib.hid (next_is g A n c xs (k + 1) z1 w1 hS1 (by omega))
      have HG1 := Lib.hid hG1
      clear hS1 hG1
      go_wp2_with fail
      refine HN2.out.mono ?_
      rintro e w2 ⟨y, z2, rfl, y0, y1, hS2, hG2⟩
      have HG2 := Lib.hid (HG1.out.trans hG2)
      have HS2 := Lib.hid hS2
      clear hS2 hG2
      have hne : m ≠ 0 := by omega
      go_wp2
      go_ret
      refine ⟨_, k + 1 + 1, z2, rfl, ?_, ?_, by omega, by omega, HS2.out, HG2.out⟩
      · exact Int.emod_nonneg _ hne
      · exact Int.emod_lt_of_pos _ (by omega)
    · go_enter Tryd.func18, Tryd.ntmps18
      go_wp2_with fail
      refine HN.out.mono ?_
      rintro e w1 ⟨x, z1, rfl, x0, x1, hS1, hG1⟩
      have HG1 := Lib.hid hG1
      have HS1 := Lib.hid hS1
      clear hS1 hG1
      have hne : m ≠ 0 := by omega
      go_wp2
      go_ret
      refine ⟨_, k + 1, z1, rfl, ?_, ?_, by omega, by omega, HS1.out, HG1.out⟩
      · exact Int.emod_nonneg _ hne
      · exact Int.emod_lt_of_pos _ (by omega)
end Go.Proofs.YtlcppfoedijccaaDoor
