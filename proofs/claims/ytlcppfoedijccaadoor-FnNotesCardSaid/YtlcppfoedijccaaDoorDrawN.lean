/- Contracts of the reference's drawn numbers: frequencies, intervals, pairs of them. Whatever the bytes, a number within bounds is drawn, and the source alone turns. -/
import Derived.Test.YtlcppfoedijccaaDoorFrom
namespace Go.Proofs.YtlcppfoedijccaaDoor
open Go.ChangeShapes Go.WideShapes Go.ChangeAt Go.RowKit
set_option maxRecDepth 100000

/-- A source at g, of which K numbers at the most have been taken. -/
def Src (w : World) (g K : Nat) : Prop := ∃ A n c xs k z, k ≤ K ∧ (0 < n → ∀ a : Addr, A = some a → a.block < g) ∧ SrcAt w g A n c xs k z
theorem Src.lt {w : World} {g K : Nat} (h : Src w g K) : g < w.heap.size := by
  obtain ⟨A, n, c, xs, k, z, _, _, h⟩ := h
  exact h.lt
theorem Src.mono {w : World} {g K K' : Nat} (h : Src w g K) (hK : K ≤ K') : Src w g K' := by
  obtain ⟨A, n, c, xs, k, z, hk, ha, h⟩ := h
  exact ⟨A, n, c, xs, k, z, Nat.le_trans hk hK, ha, h⟩
theorem Src.drewN {w : World} {g K : Nat} (h : Src w g K) (q : Nat) : Src (w.drewN q) g K := by
  obtain ⟨A, n, c, xs, k, z, hk, ha, h⟩ := h
  exact ⟨A, n, c, xs, k, z, hk, ha, src_drewN h q⟩
theorem SrcAt.below {w w' : World} {g : Nat} {A : Option Addr} {n c : Nat} {xs : List UInt8} {k : Nat} {z : Int} (h : SrcAt w g A n c xs k z) (hb : Below w.heap.size w w') : SrcAt w' g A n c xs k z :=
  ⟨Nat.lt_of_lt_of_le h.lt hb.size, (hb.cell (p := ⟨g, 0, none⟩) h.lt).trans h.c0, (hb.cell (p := ⟨g, 1, none⟩) h.lt).trans h.c1, (hb.cell (p := ⟨g, 2, none⟩) h.lt).trans h.c2, (hb.frozen (p := ⟨g, 1, none⟩) h.lt).trans h.f1, (hb.frozen (p := ⟨g, 2, none⟩) h.lt).trans h.f2, CellsAt.below h.bytes hb, h.far, h.z0, h.z1⟩
theorem Src.below {w w' : World} {g K : Nat} (h : Src w g K) (hb : Below w.heap.size w w') : Src w' g K := by
  obtain ⟨A, n, c, xs, k, z, hk, ha, h⟩ := h
  exact ⟨A, n, c, xs, k, z, hk, ha, h.below hb⟩
theorem Src.alloc {w : World} {g K : Nat} (h : Src w g K) (o : Obj) : Src (w.alloc o) g K := h.below ((Below.refl _ _).alloc (Nat.le_refl _) _)
theorem grown_below {w W W' : World} {g : Nat} (h : w.grownBy W (some g)) (hb : Below w.heap.size W W') : w.grownBy W' (some g) :=
  ⟨hb.os.trans h.os, hb.tape.trans h.tape, hb.output.trans h.output, Nat.le_trans h.size hb.size, fun i hi hne => (hb.block i hi).trans (h.block i hi hne)⟩
theorem below_grown {B : Nat} {w W W' : World} {g : Nat} (h : Below B w W) (hg : W.grownBy W' (some g)) (hB : B ≤ g) (hW : B ≤ W.heap.size) : Below B w W' :=
  ⟨hg.os.trans h.os, hg.tape.trans h.tape, hg.output.trans h.output, Nat.le_trans h.size hg.size, fun i hi => (hg.block i (Nat.lt_of_lt_of_le hi hW) (fun e => by have := Option.some.inj e; omega)).trans (h.block i hi)⟩

theorem pickS (g K : Nat) (m : Int) (w : World) (h : Src w g K) (hK : K ≤ 1000000) (hm : 1 ≤ m) (hm2 : m ≤ 1000000000) :
    Calls Tryd.prog 18 #[.pointer (some ⟨g, 0, none⟩), .int .i64 m] w fun e w' => ∃ r : Int, e = .returned (.int .i64 r) ∧ 0 ≤ r ∧ r < m ∧ Src w' g (K + 2) ∧ w.grownBy w' (some g) := by
  obtain ⟨A, n, c, xs, k, z, hk, ha, h⟩ := h
  refine (pick_is g A n c xs k z m w h (by omega) hm hm2).mono ?_
  rintro e w' ⟨r, k', z', rfl, r0, r1, _, hk', hS, hG⟩
  exact ⟨r, rfl, r0, r1, ⟨A, n, c, xs, k', z', by omega, ha, hS⟩, hG⟩
/-- Two numbers in the memory's place of one call: whatever they are, they are no more than some millions. -/
def PairRet (w : World) (e : Ending) (w' : World) : Prop := ∃ x y : Int, e = .returned (.tuple #[.int .i64 x, .int .i64 y]) ∧ (-1000000000 ≤ x ∧ x ≤ 1000000000) ∧ (-1000000000 ≤ y ∧ y ≤ 1000000000) ∧ Below w.heap.size w w'
/-- What a source's making gives. -/
theorem fromS (A : Option Addr) (n c : Nat) (xs : List UInt8) (w : World) (hb : BytesAt w A n xs) :
    Calls Tryd.prog 11 #[.slice A n c] w fun e w' => ∃ g, e = .returned (.pointer (some ⟨g, 0, none⟩)) ∧ w.heap.size ≤ g ∧ Src w' g 0 ∧ Below w.heap.size w w' := by
  refine (from_is A n c xs w hb).mono ?_
  rintro e w' ⟨g, rfl, hg, hS, hb'⟩
  exact ⟨g, rfl, hg, ⟨A, n, c, xs, 0, 0, Nat.le_refl _, fun hn a ha => by obtain ⟨b, off, ea, hlt, _⟩ := hb.2 hn; rw [ea] at ha; cases ha; exact Nat.lt_of_lt_of_le hlt hg, hS⟩, hb'⟩
end Go.Proofs.YtlcppfoedijccaaDoor
