/- Contract of the reference's drawn list of deviations: a list of five numbers at the most. -/
import Derived.Test.YtajlgclodjgiiaaDrawU
namespace Go.Proofs.Ytajlgclodjgiiaa
open Go.ChangeShapes Go.WideShapes Go.ChangeAt Go.RowKit

theorem Src.row {w w' : World} {g K : Nat} {row : Option Nat} (h : Src w g K) (hG : w.grownBy w' row) (hr : ∀ r, row = some r → g < r) : Src w' g K := by
  obtain ⟨A, n, c, xs, k, z, hk, ha, h⟩ := h
  have hne : ∀ b, b ≤ g → some b ≠ row := fun b hb e => by have := hr b e.symm; omega
  refine ⟨A, n, c, xs, k, z, hk, ha, Nat.lt_of_lt_of_le h.lt hG.size, hG.cell h.c0 (hne g (Nat.le_refl _)), hG.cell h.c1 (hne g (Nat.le_refl _)), hG.cell h.c2 (hne g (Nat.le_refl _)), (hG.frozen_far ⟨g, 1, none⟩ h.lt (hne g (Nat.le_refl _))).trans h.f1, (hG.frozen_far ⟨g, 2, none⟩ h.lt (hne g (Nat.le_refl _))).trans h.f2, ⟨h.bytes.1, fun hn => ?_⟩, h.far, h.z0, h.z1⟩
  obtain ⟨b, off, rfl, hlt, hc⟩ := h.bytes.2 hn
  exact ⟨b, off, rfl, Nat.lt_of_lt_of_le hlt hG.size, fun j u hu => hG.cell (hc j u hu) (hne b (Nat.le_of_lt (ha hn _ rfl)))⟩
/-- A list of five numbers at the most. -/
def ListRet (w : World) (e : Ending) (w' : World) : Prop := ∃ (A : Option Addr) (n c : Nat) (zs : List Int), e = .returned (.slice A n c) ∧ n ≤ 5 ∧ IntsAt w' A n zs ∧ Below w.heap.size w w'
/-- What the loop holds. -/
structure WoInv (w : World) (B g : Nat) (v : Value) (k : Nat) (zs : List Int) (wr : World) : Prop where
  own : wr.ownsRow B 2 1 v k (zs.map (Value.int .i64))
  src : Src wr g (2 * k)
  below : Below w.heap.size w wr
  le : B ≤ wr.heap.size
set_option maxRecDepth 100000 in
set_option maxHeartbeats 4000000 in
theorem drawWorst (A : Option Addr) (n c : Nat) (xs : List UInt8) (w : World) (hb : BytesAt w A n xs) :
    Calls Try.prog 44 #[.slice A n c] w fun e w' => ListRet w e w' := by
  obtain ⟨i0, hi, hz0, hz1, hz2⟩ := info_parts infoInt
  have HF := Lib.hid (fromS A n c xs w hb)
  clear hb
  go_enter Try.func44, Try.ntmps44
  go_wp2_with fail
  refine HF.out.mono ?_
  rintro e w1 ⟨g, rfl, hg, hS1, hb1⟩
  have hg1 : g < w1.heap.size := hS1.lt
  have HI0 := Lib.hid (show WoInv w w1.heap.size g (.slice (some ⟨w1.heap.size, 0, none⟩) 0 0) 0 [] (w1.alloc (.cells #[] 2)) from
    ⟨ownsRow_new w1 [] (by simp), hS1.alloc _, hb1.alloc hb1.size _, by simp⟩)
  clear hb1 hS1 HF
  go_wp2
  go_loopw [4, 5] (fun u i wr => ∃ (k : Nat) (zs : List Int) (v : Value), k ≤ 5 ∧ i = .int .i64 k ∧ u = v ∧ WoInv w w1.heap.size g v k zs wr) (fun _ i _ => 5 - (intOf i).toNat)
  case atStart => exact ⟨0, _, _, Nat.zero_le _, rfl, rfl, HI0.out⟩
  case round =>
    obtain ⟨k, zs, v, hk, rfl, rfl, hinv⟩ := hrel
    have HI := Lib.hid hinv
    by_cases h5 : k < 5
    · have HP := Lib.hid (pickS g (2 * k) 41 wr hinv.src (by omega) (by omega) (by omega))
      have hkI : (k : Int) < 5 := by omega
      have hk0 : (0 : Int) ≤ (k : Int) := Int.natCast_nonneg _
      clear hinv HI0
      go_wp2_with fail
      refine HP.out.mono ?_
      rintro e w3 ⟨r, rfl, r0, r1, hS3, hG3⟩
      have hlv := HI.out.own.lt
      have hown : w3.ownsRow w1.heap.size 2 1 _ k (zs.map (Value.int .i64)) := HI.out.own.kept hG3 (.inr (fun e => by have := (hlv g e).1; omega))
      have HS3 := Lib.hid hS3
      have HB3 := Lib.hid (below_grown HI.out.below hG3 hg HI.out.below.size)
      have hle3 : w1.heap.size ≤ w3.heap.size := Nat.le_trans HI.out.le hG3.size
      have HL := Lib.hid hlv
      clear hS3 hG3 HP hlv
      go_wp2_with (at_builtin; refine wpList_append_lies _ rfl _ _ _ rfl (w1.heap.size) 2 i0 _ 1 8 Try.underlying28 hi hz0 hz1 hz2 rfl (by omega) _ (k) _ rfl ((hown.alloc _)) ⟨w3.heap.size, 0, none⟩ 1 1 [.int .i64 (r - 20)] rfl rfl (World.news_of_block (cs := #[.int .i64 (r - 20)]) (t := 2) (fr := (0, 0)) (heap_alloc_new w3 _)) (by simp [Value.oneCell']) (by omega) (by unfold maxLen; omega) (by omega) (by simp; omega) (w3.heap.size + 1) (by simp) ?_; intro gg cap w3 hown1 hgrow hat hlt')
      go_roundw
      case rel =>
        refine ⟨k + 1, zs ++ [r - 20], _, by omega, by go_num, rfl, ?_, ?_, ?_, ?_⟩
        · rw [List.map_append]; exact hown1
        · exact ((HS3.out.alloc _).row hgrow (fun q e => by have := (HL.out q e).1; omega)).mono (by omega)
        · exact (HB3.out.alloc HB3.out.size _).grown hgrow (by have := HB3.out.size; simp; omega) (by intro q hq; have := (HL.out q hq).1; have := HB3.out.size; omega)
        · have := hgrow.size; simp at this; omega
      case measure => simp [intOf]; omega
    · obtain rfl : k = 5 := by omega
      have HP := Lib.hid (pickS g (2 * 5) 12 wr hinv.src (by omega) (by omega) (by omega))
      obtain ⟨L, cap, rfl, hL1, hL2⟩ := hinv.own.form (by omega)
      have HL2 := Lib.hid hL2
      clear hinv HI0
      go_wp2_with fail
      refine HP.out.mono ?_
      rintro e w3 ⟨r, rfl, r0, r1, hS3, hG3⟩
      have hown : w3.ownsRow w1.heap.size 2 1 (.slice (some ⟨L, 0, none⟩) 5 cap) 5 (zs.map (Value.int .i64)) := HI.out.own.kept hG3 (.inr (fun e => by have h' : L = g := Option.some.inj e; omega))
      have HS3 := Lib.hid hS3
      have HB3 := Lib.hid (below_grown HI.out.below hG3 hg HI.out.below.size)
      have hl5 : zs.length = 5 := by have := hown.1; simpa using this
      obtain ⟨z0, z1, z2, z3, z4, rfl⟩ : ∃ a b c d e : Int, zs = [a, b, c, d, e] := by
        match zs, hl5 with
        | [a, b, c, d, e], _ => exact ⟨a, b, c, d, e, rfl⟩
      have HO := Lib.hid hown
      have hle3 : w1.heap.size ≤ w3.heap.size := Nat.le_trans HI.out.le hG3.size
      have hcap : 5 ≤ cap ∧ cap ≤ maxLen := by
        rcases hown.2 with ⟨h1, _⟩ | ⟨g', cap', cur, h1, _, _, h2, h3, _⟩
        · simp at h1
        · simp at h1
          omega
      have HC := Lib.hid hcap
      obtain ⟨hc5, hcm⟩ := hcap
      unfold maxLen at hcm
      clear hS3 hG3 HP HI hl5 HL2
      rcases (by omega : r = 0 ∨ r = 1 ∨ 2 ≤ r) with rfl | rfl | hr2
      · clear hown
        go_wp2
        go_ret
        refine ⟨_, 4, _, [z1, z2, z3, z4], rfl, by omega, ⟨rfl, fun _ => ⟨L, 1, rfl, (HO.out.lt L rfl).2, fun j u hu => ?_⟩⟩, HB3.out⟩
        have hj : j < 4 := (List.getElem?_eq_some_iff.1 hu).1
        rw [← hu, HO.out.cellAt (1 + j) (by omega), Nat.add_comm 1 j]
        rfl
      · have hi3 := IntsAt.of_own hown
        have f3 : w3.frozen? ⟨L, 3, none⟩ = false := hown.frozenAt 3
        have c3 : w3.cell? ⟨L, 3, none⟩ = some (.int .i64 z3) := hown.cellAt 3 (by omega)
        clear hown
        go_wp2_with fail
        refine (amongS g _ _ 4 4 [120000, -120000, 120001, -120001] _ (HS3.out.alloc _) (by omega) (IntsAt.new _ [120000, -120000, 120001, -120001] _) (fun p hp e0 => by cases hp; simp at e0; omega) (by omega) (by omega)).mono ?_
        rintro x w4 ⟨y, rfl, _, hS4, hG4⟩
        have hown4 : w4.ownsRow w1.heap.size 2 1 (.slice (some ⟨L, 0, none⟩) 5 cap) 5 _ := (HO.out.alloc _).kept hG4 (.inr (fun e => by have h' : L = g := Option.some.inj e; omega))
        have HB4 := Lib.hid (below_grown (HB3.out.alloc HB3.out.size _) hG4 hg (HB3.out.alloc HB3.out.size _).size)
        have HO4 := Lib.hid hown4
        have f4 : w4.frozen? ⟨L, 3, none⟩ = false := hown4.frozenAt 3
        have c4 : w4.cell? ⟨L, 3, none⟩ = some (.int .i64 z3) := hown4.cellAt 3 (by omega)
        clear hown4 hS4 hG4 hi3 f3 c3
        go_wp2
        go_ret
        refine ⟨_, 5, cap, [z0, z1, z2, y, z4], rfl, by omega, IntsAt.of_own (HO4.out.stored 3 (.int .i64 y)).1, HB4.out.setCell (by simp; omega) _⟩
      · have n0 : (r == 0) = false := by rw [beq_eq_false_iff_ne]; omega
        have n1 : (r == 1) = false := by rw [beq_eq_false_iff_ne]; omega
        clear hown
        go_wp2
        go_ret
        exact ⟨_, 5, cap, _, rfl, by omega, IntsAt.of_own HO.out, HB3.out⟩
end Go.Proofs.Ytajlgclodjgiiaa
