/- Contracts of the reference's drawn sounds: five numbers, whatever they are; the source alone turns. -/
import Derived.Test.YtkbfmjnekeipcaaGreatDoorDrawN
import Derived.Test.YtkbfmjnekeipcaaGreatDoorIdealS
namespace Go.Proofs.YtkbfmjnekeipcaaGreatDoor
open Go.ChangeShapes Go.WideShapes Go.ChangeAt Go.RowKit
set_option maxRecDepth 100000

/-- Five numbers in a box that may be written. -/
structure SBox (w : World) (b : Nat) (x0 x1 x2 x3 x4 : Int) : Prop where
  c0 : w.cell? ⟨b, 0, none⟩ = some (.int .i64 x0)
  c1 : w.cell? ⟨b, 1, none⟩ = some (.int .i64 x1)
  c2 : w.cell? ⟨b, 2, none⟩ = some (.int .i64 x2)
  c3 : w.cell? ⟨b, 3, none⟩ = some (.int .i64 x3)
  c4 : w.cell? ⟨b, 4, none⟩ = some (.int .i64 x4)
  f : ∀ o, w.frozen? ⟨b, o, none⟩ = false
  lt : b < w.heap.size
theorem SBox.grown {w w' : World} {b g : Nat} {x0 x1 x2 x3 x4 : Int} (h : SBox w b x0 x1 x2 x3 x4) (hG : w.grownBy w' (some g)) (hne : b ≠ g) : SBox w' b x0 x1 x2 x3 x4 := by
  have hne' : some b ≠ some g := fun e => hne (Option.some.inj e)
  exact ⟨hG.cell h.c0 hne', hG.cell h.c1 hne', hG.cell h.c2 hne', hG.cell h.c3 hne', hG.cell h.c4 hne', fun o => (hG.frozen_far ⟨b, o, none⟩ h.lt hne').trans (h.f o), Nat.lt_of_lt_of_le h.lt hG.size⟩
theorem SBox.below {w w' : World} {b : Nat} {x0 x1 x2 x3 x4 : Int} (h : SBox w b x0 x1 x2 x3 x4) (hb : Below w.heap.size w w') : SBox w' b x0 x1 x2 x3 x4 :=
  ⟨(hb.cell (p := ⟨b, 0, none⟩) h.lt).trans h.c0, (hb.cell (p := ⟨b, 1, none⟩) h.lt).trans h.c1, (hb.cell (p := ⟨b, 2, none⟩) h.lt).trans h.c2, (hb.cell (p := ⟨b, 3, none⟩) h.lt).trans h.c3, (hb.cell (p := ⟨b, 4, none⟩) h.lt).trans h.c4,
    fun o => (hb.frozen (p := ⟨b, o, none⟩) h.lt).trans (h.f o), Nat.lt_of_lt_of_le h.lt hb.size⟩
theorem SBox.new (w : World) (x0 x1 x2 x3 x4 : Int) (t : TypeId) : SBox (w.alloc (.cells #[.int .i64 x0, .int .i64 x1, .int .i64 x2, .int .i64 x3, .int .i64 x4] t)) w.heap.size x0 x1 x2 x3 x4 :=
  ⟨by go_simp, by go_simp, by go_simp, by go_simp, by go_simp, fun o => frozen_of_row _ _ o _ _ (heap_alloc_new w _), by simp⟩
theorem SBox.set {w : World} {b : Nat} {x0 x1 x2 x3 x4 : Int} (h : SBox w b x0 x1 x2 x3 x4) (p : Addr) (v : Value) (hp : p.block ≠ b) : SBox (w.setCell p v) b x0 x1 x2 x3 x4 := by
  have hn : ∀ o, w.cell? ⟨b, o, none⟩ = (w.setCell p v).cell? ⟨b, o, none⟩ := fun o => (World.cell?_setCell_other _ _ _ _ (fun e => hp (congrArg Addr.block e))).symm
  exact ⟨(hn 0).symm.trans h.c0, (hn 1).symm.trans h.c1, (hn 2).symm.trans h.c2, (hn 3).symm.trans h.c3, (hn 4).symm.trans h.c4, fun o => by simpa using h.f o, by simpa using h.lt⟩
theorem grown_setNew {w w' : World} {g : Nat} (h : w.grownBy w' (some g)) (p : Addr) (v : Value) (hp : w.heap.size ≤ p.block) : w.grownBy (w'.setCell p v) (some g) :=
  ⟨h.os, h.tape, h.output, by simpa using h.size, fun i hi hne => (heap_setCell_other w' p i v (fun e => by omega)).trans (h.block i hi hne)⟩
/-- A cell of a later block is written: the source stays. -/
theorem Src.set {w : World} {g K : Nat} (h : Src w g K) (p : Addr) (v : Value) (hp : g < p.block) : Src (w.setCell p v) g K := by
  obtain ⟨A, n, c, xs, k, z, hk, ha, h⟩ := h
  have hn : ∀ b o, b ≤ g → (w.setCell p v).cell? ⟨b, o, none⟩ = w.cell? ⟨b, o, none⟩ := fun b o hb => World.cell?_setCell_other _ _ _ _ (fun e => by have := congrArg Addr.block e; simp at this; omega)
  refine ⟨A, n, c, xs, k, z, hk, ha, by simpa using h.lt, (hn g 0 (Nat.le_refl _)).trans h.c0, (hn g 1 (Nat.le_refl _)).trans h.c1, (hn g 2 (Nat.le_refl _)).trans h.c2, by simpa using h.f1, by simpa using h.f2, ⟨h.bytes.1, fun hn0 => ?_⟩, h.far, h.z0, h.z1⟩
  obtain ⟨b, off, rfl, hlt, hcc⟩ := h.bytes.2 hn0
  exact ⟨b, off, rfl, by simpa using hlt, fun j u hu => (hn b _ (Nat.le_of_lt (ha hn0 _ rfl))).trans (hcc j u hu)⟩
/-- What the loop over the five partials holds. -/
structure DrInv (w : World) (g L cL K : Nat) (zs : List Int) (wr : World) : Prop where
  row : wr.ownsRow (w.heap.size + 1) 2 1 (.slice (some ⟨L, 0, none⟩) 5 cL) 5 (zs.map (Value.int .i64))
  src : Src wr g K
  grown : w.grownBy wr (some g)
  box : SBox wr w.heap.size 0 0 0 0 0
theorem DrInv.kept {w wr wr' : World} {g L cL K K' : Nat} {zs : List Int} (h : DrInv w g L cL K zs wr) (hG : wr.grownBy wr' (some g)) (hS : Src wr' g K') (hg : g < w.heap.size) (hL : w.heap.size < L) : DrInv w g L cL K' zs wr' :=
  ⟨h.row.kept hG (.inr (fun e => by have h' : L = g := Option.some.inj e; omega)), hS, h.grown.trans hG, h.box.grown hG (by omega)⟩
theorem DrInv.store {w wr : World} {g L cL K : Nat} {zs : List Int} (h : DrInv w g L cL K zs wr) (hg : g < w.heap.size) (hL : w.heap.size < L) (j : Nat) (v : Int) : DrInv w g L cL K (zs.set j v) (wr.setCell ⟨L, j, none⟩ (.int .i64 v)) := by
  refine ⟨?_, h.src.set _ _ (by simp; omega), grown_setNew h.grown _ _ (by simp; omega), h.box.set _ _ (by simp; omega)⟩
  rw [List.map_set]
  exact (h.row.stored j _).1
theorem DrInv.cell {w wr : World} {g L cL K k : Nat} {zs : List Int} {x : Int} (h : DrInv w g L cL K zs wr) (hk : k < 5) (hx : zs[k]? = some x) : wr.cell? ⟨L, k, none⟩ = some (.int .i64 x) :=
  (h.row.cellAt k (by omega)).trans (by rw [List.getElem?_map, hx]; rfl)
theorem DrInv.len {w wr : World} {g L cL K : Nat} {zs : List Int} (h : DrInv w g L cL K zs wr) : zs.length = 5 := by have := h.row.1; simpa using this
set_option maxRecDepth 100000 in
set_option maxHeartbeats 4000000 in
theorem drawSoundOkS (g K : Nat) (w : World) (h : Src w g K) (hK : K ≤ 100000) :
    Calls Tryz.prog 86 #[.pointer (some ⟨g, 0, none⟩)] w fun x w' => ∃ a b c d e : Int, x = .returned (.agg #[.int .i64 a, .int .i64 b, .int .i64 c, .int .i64 d, .int .i64 e]) ∧ Src w' g (K + 24) ∧ w.grownBy w' (some g) := by
  have hg := h.lt
  have HP := Lib.hid (pickS g K 2000 (w.alloc (.cells #[.int .i64 0, .int .i64 0, .int .i64 0, .int .i64 0, .int .i64 0] 39)) (h.alloc _) (by omega) (by omega) (by omega))
  have HG0 := Lib.hid (World.grownBy_alloc w (.cells #[.int .i64 0, .int .i64 0, .int .i64 0, .int .i64 0, .int .i64 0] 39) (some g))
  have HX0 := Lib.hid (SBox.new w 0 0 0 0 0 39)
  clear h
  go_enter Tryz.func86, Tryz.ntmps86
  go_wp2_with fail
  refine HP.out.mono ?_
  rintro e w1 ⟨r, rfl, r0, r1, hS1, hG1⟩
  have HG1 := Lib.hid (HG0.out.trans hG1)
  have HX1 := Lib.hid (HX0.out.grown hG1 (by omega))
  have HP2 := Lib.hid (pickS g (K + 2) 2 w1 hS1 (by omega) (by omega) (by omega))
  clear hS1 hG1 HG0 HX0 HP
  go_wp2_with fail
  refine HP2.out.mono ?_
  rintro e w2 ⟨q, rfl, q0, q1, hS2, hG2⟩
  have HG2 := Lib.hid (HG1.out.trans hG2)
  have HX2 := Lib.hid (HX1.out.grown hG2 (by omega))
  have HS2 := Lib.hid hS2
  have hsB : inB (200000 + r * 500) 10000 20000000 = true := inB_true (by omega) (by omega)
  have HB := Lib.hid hsB
  clear hS2 hG2 HG1 HX1 HP2 hsB
  go_wp2_with fail
  refine (l04Offsets_any _ _).mono ?_
  rintro e w3 ⟨g2, c2, rfl, hg2, ho2, hb2⟩
  have HA := Lib.hid ((IntsAt.new w2 [200000 + r * 500, 200000 + r * 500, 200000 + r * 500, 200000 + r * 500, 200000 + r * 500] 2).below hb2)
  have HI := Lib.hid (IntsAt.of_own ho2)
  have HB3 := Lib.hid (((Below.refl w2.heap.size w2).alloc (Nat.le_refl _) (.cells ([200000 + r * 500, 200000 + r * 500, 200000 + r * 500, 200000 + r * 500, 200000 + r * 500].map (Value.int .i64)).toArray 2)).trans (hb2.mono (by simp)))
  clear ho2 hb2 hg2
  go_wp2_with fail
  refine (l04Raised_any _ _ _ _ _ _ _ HA.out HI.out (raised5 HB.out) idealI).mono ?_
  intro x w4 hx
  obtain ⟨x0, x1, x2, x3, x4, bb, rfl, hb4⟩ : ∃ (x0 x1 x2 x3 x4 : Int) (bb : Bool), x = .returned (.tuple #[.agg #[.int .i64 x0, .int .i64 x1, .int .i64 x2, .int .i64 x3, .int .i64 x4], .bool bb]) ∧ Below w3.heap.size w3 w4 := by
    rcases hx with ⟨_, e, hb⟩ | ⟨_, e, hb⟩
    · exact ⟨_, _, _, _, _, _, e, hb⟩
    · exact ⟨_, _, _, _, _, _, e, hb⟩
  have hb24 := HB3.out.trans (hb4.mono HB3.out.size)
  have HG4 := Lib.hid (grown_below HG2.out (hb24.mono HG2.out.size))
  have HX4 := Lib.hid (HX2.out.below hb24)
  have HS4 := Lib.hid (HS2.out.below hb24)
  have hlt4 : w.heap.size < w4.heap.size := HX4.out.lt
  clear hx hb24 hb4 HB3 HA HI HG2 HX2 HS2 HB
  go_wp2_with fail
  have HBox := Lib.hid (SBox.new w4 x0 x1 x2 x3 x4 39)
  refine (l04List_any x0 x1 x2 x3 x4 w4.heap.size 0 _ HBox.out.c0 HBox.out.c1 HBox.out.c2 HBox.out.c3 HBox.out.c4).mono ?_
  rintro e w5 ⟨L, cL, rfl, hL, hoL, hb5⟩
  have hb45 : Below w4.heap.size w4 w5 := ((Below.refl _ _).alloc (Nat.le_refl _) _).trans (hb5.mono (by simp))
  simp only [World.size_alloc] at hL hoL
  have hLw : w.heap.size < L := by omega
  have HI5 := Lib.hid (show DrInv w g L cL (K + 4 + 4 * 0) [x0, x1, x2, x3, x4] w5 from ⟨ownsRow_weaken' hoL (by omega), HS4.out.below hb45, grown_below HG4.out (hb45.mono HG4.out.size), HX4.out.below hb45⟩)
  clear HBox hb5 hb45 hoL HG4 HX4 HS4
  go_wp2
  go_loopw [8] (fun i wr => ∃ (k : Nat) (zs : List Int), k ≤ 5 ∧ i = .int .i64 k ∧ DrInv w g L cL (K + 4 + 4 * k) zs wr) (fun i _ => 5 - (intOf i).toNat)
  case atStart => exact ⟨0, _, Nat.zero_le _, rfl, HI5.out⟩
  case round =>
    obtain ⟨k, zs, hk, rfl, hinv⟩ := hrel
    have HI := Lib.hid hinv
    by_cases h5 : k < 5
    · have hx : zs[k]? = some (zs[k]'(by have := hinv.len; omega)) := List.getElem?_eq_getElem _
      generalize zs[k]'_ = x at hx
      have HX := Lib.hid hx
      have HO := Lib.hid (oneS g (K + 4 + 4 * k) 2 wr hinv.src (by omega) (by omega) (by omega))
      have hkI : (k : Int) < 5 := by omega
      have hk0 : (0 : Int) ≤ (k : Int) := Int.natCast_nonneg _
      clear hinv hx HI5
      go_wp2_with fail
      refine HO.out.mono ?_
      rintro e w6 ⟨b, rfl, hS6, hG6⟩
      have hi6 := HI.out.kept hG6 hS6 hg hLw
      have HI6 := Lib.hid hi6
      clear HO hS6 hG6 HI
      cases b
      · clear hi6
        go_wp2
        go_roundw
        case rel => exact ⟨k + 1, zs, by omega, by go_num, HI6.out.row, HI6.out.src.mono (by omega), HI6.out.grown, HI6.out.box⟩
        case measure => simp [intOf]; omega
      · have c6 := hi6.cell h5 HX.out
        have f6 : w6.frozen? ⟨L, k, none⟩ = false := hi6.row.frozenAt k
        have HP := Lib.hid (pickS g (K + 4 + 4 * k + 2) 21 w6.drew (hi6.src.drewN 1) (by omega) (by omega) (by omega))
        clear hi6
        go_wp2
        go_region_with (go_at_call 56; refine HP.out.mono ?_; rintro e w7 ⟨p, rfl, p0, p1, hS7, hG7⟩; have hi7 := (show DrInv w g L cL _ zs w6.drew from ⟨HI6.out.row.drew, HI6.out.src.drewN 1, HI6.out.grown.trans (grown_drewN w6 1 g), ⟨HI6.out.box.c0, HI6.out.box.c1, HI6.out.box.c2, HI6.out.box.c3, HI6.out.box.c4, HI6.out.box.f, HI6.out.box.lt⟩⟩).kept hG7 hS7 hg hLw; have HI7 := Lib.hid hi7; have c7 := hi7.cell h5 HX.out; have f7 : w7.frozen? ⟨L, k, none⟩ = false := hi7.row.frozenAt k; clear hi7 hS7 hG7)
        all_goals
          go_wp2
          go_roundw
          case rel => exact ⟨k + 1, _, by omega, by go_num, HI7.out.store hg hLw k _⟩
          case measure => simp [intOf]; omega
    · obtain rfl : k = 5 := by omega
      obtain ⟨a, b, c, d, e, rfl⟩ : ∃ a b c d e : Int, zs = [a, b, c, d, e] := by
        have hl := hinv.len
        match zs, hl with
        | [a, b, c, d, e], _ => exact ⟨a, b, c, d, e, rfl⟩
      have HA := Lib.hid (IntsAt.of_own hinv.row)
      clear hinv HI5
      go_wp2_with fail
      refine (l04Sound_any _ _ a b c d e _ HA.out).mono ?_
      rintro x w6 ⟨rfl, hb6⟩
      have hX6 := HI.out.box.below hb6
      have HS6 := Lib.hid (HI.out.src.below hb6)
      have HG6 := Lib.hid (grown_below HI.out.grown (hb6.mono HI.out.grown.size))
      obtain ⟨q0', q1', q2', q3', q4', qf, qlt⟩ := hX6
      clear HI HA hb6
      go_wp2
      refine bodyPost_ret (v := .agg #[.int .i64 a, .int .i64 b, .int .i64 c, .int .i64 d, .int .i64 e]) (by simp [results, Tryz.results86, go_sem, q0', q1', q2', q3', q4']) rfl ⟨a, b, c, d, e, rfl, ?_, ?_⟩
      · (repeat (refine Src.set ?_ _ _ (by simp; omega))); exact HS6.out.mono (by omega)
      · (repeat (refine grown_setNew ?_ _ _ (by simp))); exact HG6.out
end Go.Proofs.YtkbfmjnekeipcaaGreatDoor
