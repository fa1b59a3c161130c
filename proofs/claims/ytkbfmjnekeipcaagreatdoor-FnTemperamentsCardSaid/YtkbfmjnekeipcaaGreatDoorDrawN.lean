/- Contracts of the reference's drawn numbers: frequencies, intervals, pairs of them. Whatever the bytes, a number within bounds is drawn, and the source alone turns. -/
import Derived.Test.YtkbfmjnekeipcaaGreatDoorFrom
namespace Go.Proofs.YtkbfmjnekeipcaaGreatDoor
open Go.ChangeShapes Go.WideShapes Go.ChangeAt Go.RowKit
set_option maxRecDepth 100000

/-- A source at g, of which K numbers at the most have been taken. -/
def Src (w : World) (g K : Nat) : Prop := ∃ A n c xs k z, k ≤ K ∧ (0 < n → ∀ a : Addr, A = some a → a.block < g) ∧ SrcAt w g A n c xs k z
theorem Src.lt {w : World} {g K : Nat} (h : Src w g K) : g < w.heap.size := by
  obtain ⟨A, n, c, xs, k, z, _, _, h⟩ := h
  exact h.lt
theorem Src.mono {w : World} {g K K' : Nat} (h : Src w g K) (hK : K ≤ K') : Src w g K' := by
  obtain ⟨A, n, c, xs, k, z, hk, ha, h⟩ := h
  exact ⟨A, n, c, xs, k, z, Nat.le_trans hk hK, ha, h⟩
theorem Src.drewN {w : World} {g K : Nat} (h : Src w g K) (q : Nat) : Src (w.drewN q) g K := by
  obtain ⟨A, n, c, xs, k, z, hk, ha, h⟩ := h
  exact ⟨A, n, c, xs, k, z, hk, ha, src_drewN h q⟩
theorem SrcAt.below {w w' : World} {g : Nat} {A : Option Addr} {n c : Nat} {xs : List UInt8} {k : Nat} {z : Int} (h : SrcAt w g A n c xs k z) (hb : Below w.heap.size w w') : SrcAt w' g A n c xs k z :=
  ⟨Nat.lt_of_lt_of_le h.lt hb.size, (hb.cell (p := ⟨g, 0, none⟩) h.lt).trans h.c0, (hb.cell (p := ⟨g, 1, none⟩) h.lt).trans h.c1, (hb.cell (p := ⟨g, 2, none⟩) h.lt).trans h.c2, (hb.frozen (p := ⟨g, 1, none⟩) h.lt).trans h.f1, (hb.frozen (p := ⟨g, 2, none⟩) h.lt).trans h.f2, CellsAt.below h.bytes hb, h.far, h.z0, h.z1⟩
theorem Src.below {w w' : World} {g K : Nat} (h : Src w g K) (hb : Below w.heap.size w w') : Src w' g K := by
  obtain ⟨A, n, c, xs, k, z, hk, ha, h⟩ := h
  exact ⟨A, n, c, xs, k, z, hk, ha, h.below hb⟩
theorem Src.alloc {w : World} {g K : Nat} (h : Src w g K) (o : Obj) : Src (w.alloc o) g K := h.below ((Below.refl _ _).alloc (Nat.le_refl _) _)
theorem grown_below {w W W' : World} {g : Nat} (h : w.grownBy W (some g)) (hb : Below w.heap.size W W') : w.grownBy W' (some g) :=
  ⟨hb.os.trans h.os, hb.tape.trans h.tape, hb.output.trans h.output, Nat.le_trans h.size hb.size, fun i hi hne => (hb.block i hi).trans (h.block i hi hne)⟩
theorem below_grown {B : Nat} {w W W' : World} {g : Nat} (h : Below B w W) (hg : W.grownBy W' (some g)) (hB : B ≤ g) (hW : B ≤ W.heap.size) : Below B w W' :=
  ⟨hg.os.trans h.os, hg.tape.trans h.tape, hg.output.trans h.output, Nat.le_trans h.size hg.size, fun i hi => (hg.block i (Nat.lt_of_lt_of_le hi hW) (fun e => by have := Option.some.inj e; omega)).trans (h.block i hi)⟩

theorem pickS (g K : Nat) (m : Int) (w : World) (h : Src w g K) (hK : K ≤ 1000000) (hm : 1 ≤ m) (hm2 : m ≤ 1000000000) :
    Calls Tryz.prog 56 #[.pointer (some ⟨g, 0, none⟩), .int .i64 m] w fun e w' => ∃ r : Int, e = .returned (.int .i64 r) ∧ 0 ≤ r ∧ r < m ∧ Src w' g (K + 2) ∧ w.grownBy w' (some g) := by
  obtain ⟨A, n, c, xs, k, z, hk, ha, h⟩ := h
  refine (pick_is g A n c xs k z m w h (by omega) hm hm2).mono ?_
  rintro e w' ⟨r, k', z', rfl, r0, r1, _, hk', hS, hG⟩
  exact ⟨r, rfl, r0, r1, ⟨A, n, c, xs, k', z', by omega, ha, hS⟩, hG⟩
theorem oneS (g K : Nat) (m : Int) (w : World) (h : Src w g K) (hK : K ≤ 1000000) (hm : 1 ≤ m) (hm2 : m ≤ 1000000000) :
    Calls Tryz.prog 58 #[.pointer (some ⟨g, 0, none⟩), .int .i64 m] w fun e w' => ∃ b : Bool, e = .returned (.bool b) ∧ Src w' g (K + 2) ∧ w.grownBy w' (some g) := by
  have HP := Lib.hid (pickS g K m w h hK hm hm2)
  clear h
  go_enter Tryz.func58, Tryz.ntmps58
  go_wp2_with fail
  refine HP.out.mono ?_
  rintro e w1 ⟨r, rfl, r0, r1, hS, hG⟩
  have HS := Lib.hid hS
  have HG := Lib.hid hG
  clear hS hG
  go_wp2
  go_ret
  exact ⟨_, rfl, HS.out, HG.out⟩
theorem amongS (g K : Nat) (A : Option Addr) (n c : Nat) (zs : List Int) (w : World) (h : Src w g K) (hK : K ≤ 1000000) (hA : IntsAt w A n zs) (hfar : ∀ a, A = some a → a.block ≠ g) (hn : 1 ≤ n) (hn2 : n ≤ 1000000) :
    Calls Tryz.prog 78 #[.pointer (some ⟨g, 0, none⟩), .slice A n c] w fun e w' => ∃ x : Int, e = .returned (.int .i64 x) ∧ x ∈ zs ∧ Src w' g (K + 2) ∧ w.grownBy w' (some g) := by
  have HP := Lib.hid (pickS g K n w h hK (by omega) (by omega))
  have HA := Lib.hid hA
  clear h hA
  go_enter Tryz.func78, Tryz.ntmps78
  go_wp2_with fail
  refine HP.out.mono ?_
  rintro e w1 ⟨r, rfl, r0, r1, hS, hG⟩
  obtain ⟨k, rfl⟩ : ∃ k : Nat, r = (k : Int) := ⟨r.toNat, by omega⟩
  have hA1 : IntsAt w1 A n zs := CellsAt.grown HA.out hG (fun a ha e => hfar a ha (Option.some.inj e).symm)
  obtain ⟨b, off, x, rfl, hb, hz, hc⟩ := hA1.at_ (k := k) (by omega)
  have HZ := Lib.hid (List.mem_of_getElem? hz)
  have HS := Lib.hid hS
  have HG := Lib.hid hG
  have hki : (k : Int) < (n : Int) := by omega
  clear hS hG hA1 hz
  go_wp2
  go_ret
  exact ⟨_, rfl, HZ.out, HS.out, HG.out⟩
set_option maxHeartbeats 1000000 in
theorem drawOkS (g K : Nat) (w : World) (h : Src w g K) (hK : K ≤ 900000) :
    Calls Tryz.prog 79 #[.pointer (some ⟨g, 0, none⟩)] w fun e w' => ∃ x : Int, e = .returned (.int .i64 x) ∧ 10000 ≤ x ∧ x ≤ 20000000 ∧ Src w' g (K + 4) ∧ w.grownBy w' (some g) := by
  have HP := Lib.hid (pickS g K 4 w h (by omega) (by omega) (by omega))
  have hlt := h.lt
  clear h
  go_enter Tryz.func79, Tryz.ntmps79
  go_wp2_with fail
  refine HP.out.mono ?_
  rintro e w1 ⟨r, rfl, r0, r1, hS, hG⟩
  have HG := Lib.hid hG
  have hl1 := hS.lt
  rcases (by omega : r = 0 ∨ r = 1 ∨ (r = 2 ∨ r = 3)) with rfl | rfl | hr
  · have HP1 := Lib.hid (pickS g (K + 2) 8 w1 hS (by omega) (by omega) (by omega))
    clear hS hG
    go_wp2_with fail
    refine HP1.out.mono ?_
    rintro e w2 ⟨r, rfl, s0, s1, hS2, hG2⟩
    have HS2 := Lib.hid hS2
    have HG2 := Lib.hid (HG.out.trans hG2)
    clear hS2 hG2
    go_wp2
    go_ret
    exact ⟨_, rfl, by omega, by omega, HS2.out, HG2.out⟩
  · have HS := Lib.hid hS
    clear hS hG
    go_wp2_with fail
    refine (amongS g (K + 2) _ 6 6 [10000, 20000000, 10001, 19999999, 440000, 523251] _ (HS.out.alloc _) (by omega) (IntsAt.new _ [10000, 20000000, 10001, 19999999, 440000, 523251] _) (fun a ha e => by cases ha; simp at e; omega) (by omega) (by omega)).mono ?_
    rintro e w2 ⟨x, rfl, hx, hS2, hG2⟩
    have HS2 := Lib.hid hS2
    have HG2 := Lib.hid ((HG.out.trans (World.grownBy_alloc w1 _ _)).trans hG2)
    have HX : 10000 ≤ x ∧ x ≤ 20000000 := by
      simp only [List.mem_cons, List.mem_nil_iff, or_false] at hx
      omega
    clear hS2 hG2 hx
    go_wp2
    go_ret
    exact ⟨_, rfl, HX.1, HX.2, HS2.out, HG2.out⟩
  · have HP1 := Lib.hid (pickS g (K + 2) 20000 w1 hS (by omega) (by omega) (by omega))
    clear hS hG
    rcases hr with rfl | rfl
    all_goals
      go_wp2_with fail
      refine HP1.out.mono ?_
      rintro e w2 ⟨r, rfl, s0, s1, hS2, hG2⟩
      have HS2 := Lib.hid hS2
      have HG2 := Lib.hid (HG.out.trans hG2)
      clear hS2 hG2
      go_wp2
      go_ret
      exact ⟨_, rfl, by omega, by omega, HS2.out, HG2.out⟩
set_option maxHeartbeats 1000000 in
theorem drawS (g K : Nat) (w : World) (h : Src w g K) (hK : K ≤ 800000) :
    Calls Tryz.prog 39 #[.pointer (some ⟨g, 0, none⟩)] w fun e w' => ∃ x : Int, e = .returned (.int .i64 x) ∧ -1 ≤ x ∧ x ≤ 20000001 ∧ Src w' g (K + 6) ∧ w.grownBy w' (some g) := by
  have HP := Lib.hid (oneS g K 12 w h (by omega) (by omega) (by omega))
  clear h
  go_enter Tryz.func39, Tryz.ntmps39
  go_wp2_with fail
  refine HP.out.mono ?_
  rintro e w1 ⟨b, rfl, hS, hG⟩
  have HG := Lib.hid hG
  have hl1 := hS.lt
  cases b
  · have HD := Lib.hid (drawOkS g (K + 2) w1 hS (by omega))
    clear hS hG
    go_wp2_with fail
    refine HD.out.mono ?_
    rintro e w2 ⟨x, rfl, x0, x1, hS2, hG2⟩
    have HS2 := Lib.hid hS2
    have HG2 := Lib.hid (HG.out.trans hG2)
    clear hS2 hG2
    go_wp2
    go_ret
    exact ⟨_, rfl, by omega, by omega, HS2.out, HG2.out⟩
  · have HS := Lib.hid hS
    clear hS hG
    go_wp2_with fail
    refine (amongS g (K + 2) _ 4 4 [9999, 0, -1, 20000001] _ (HS.out.alloc _) (by omega) (IntsAt.new _ [9999, 0, -1, 20000001] _) (fun a ha e => by cases ha; simp at e; omega) (by omega) (by omega)).mono ?_
    rintro e w2 ⟨x, rfl, hx, hS2, hG2⟩
    have HS2 := Lib.hid (hS2.mono (show K + 2 + 2 ≤ K + 6 by omega))
    have HG2 := Lib.hid ((HG.out.trans (World.grownBy_alloc w1 _ _)).trans hG2)
    have HX : -1 ≤ x ∧ x ≤ 20000001 := by
      simp only [List.mem_cons, List.mem_nil_iff, or_false] at hx
      omega
    clear hS2 hG2 hx
    go_wp2
    go_ret
    exact ⟨_, rfl, HX.1, HX.2, HS2.out, HG2.out⟩
/-- Two numbers in the memory's place of one call: whatever they are, they are no more than some millions. -/
def PairRet (w : World) (e : Ending) (w' : World) : Prop := ∃ x y : Int, e = .returned (.tuple #[.int .i64 x, .int .i64 y]) ∧ (-1000000000 ≤ x ∧ x ≤ 1000000000) ∧ (-1000000000 ≤ y ∧ y ≤ 1000000000) ∧ Below w.heap.size w w'
/-- What a source's making gives. -/
theorem fromS (A : Option Addr) (n c : Nat) (xs : List UInt8) (w : World) (hb : BytesAt w A n xs) :
    Calls Tryz.prog 27 #[.slice A n c] w fun e w' => ∃ g, e = .returned (.pointer (some ⟨g, 0, none⟩)) ∧ w.heap.size ≤ g ∧ Src w' g 0 ∧ Below w.heap.size w w' := by
  refine (from_is A n c xs w hb).mono ?_
  rintro e w' ⟨g, rfl, hg, hS, hb'⟩
  exact ⟨g, rfl, hg, ⟨A, n, c, xs, 0, 0, Nat.le_refl _, fun hn a ha => by obtain ⟨b, off, ea, hlt, _⟩ := hb.2 hn; rw [ea] at ha; cases ha; exact Nat.lt_of_lt_of_le hlt hg, hS⟩, hb'⟩
end Go.Proofs.YtkbfmjnekeipcaaGreatDoor
