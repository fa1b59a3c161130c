/- Rows of the call's own: small laws that later texts share. -/
import Derived.Test.YtlcppfoedijccaaDoorTail
import Derived.Deep.RegionHeld3
import Derived.Laws.Strings
import Derived.Deep.AppendLies
import Derived.Deep.DrawnRows
namespace Go.Proofs.YtlcppfoedijccaaDoor
open Go.ChangeShapes Go.WideShapes Go.ChangeAt Go.RowKit
set_option maxRecDepth 100000

theorem row_weaken {w : World} {b1 b2 : Nat} {e : TypeId} {size n : Nat} {v : Value} {xs : List Value} (h : w.ownsRow b1 e size v n xs) (hb : b2 ≤ b1) : w.ownsRow b2 e size v n xs := by
  refine ⟨h.1, ?_⟩
  rcases h.2 with h1 | ⟨g, cap, cur, hv, hg, r⟩
  · exact .inl h1
  · exact .inr ⟨g, cap, cur, hv, Nat.le_trans hb hg, r⟩
theorem row_drewN {w : World} {b : Nat} {e : TypeId} {size n : Nat} {v : Value} {xs : List Value} (h : w.ownsRow b e size v n xs) (k : Nat) : (w.drewN k).ownsRow b e size v n xs := h
theorem heap_new_drewN (w : World) (k : Nat) (o : Obj) : ((w.drewN k).alloc o).heap[w.heap.size]? = some o := heap_alloc_new (w.drewN k) o
theorem CellsAt.alloc {w : World} {A : Option Addr} {n size : Nat} {xs : List Value} (h : CellsAt w A n size xs) (o : Obj) : CellsAt (w.alloc o) A n size xs := h.below ((Below.refl _ _).alloc (Nat.le_refl _) o)
theorem IntsAt.alloc {w : World} {A : Option Addr} {n : Nat} {zs : List Int} (h : IntsAt w A n zs) (o : Obj) : IntsAt (w.alloc o) A n zs := CellsAt.alloc h o
theorem IntsAt.new_at (w : World) (zs : List Int) (t : TypeId) (g n : Nat) (hg : g = w.heap.size) (hn : zs.length = n) : IntsAt (w.alloc (.cells (zs.map (Value.int .i64)).toArray t)) (some ⟨g, 0, none⟩) n zs := by
  subst hg hn
  exact IntsAt.new w zs t
theorem IntsAt.grown_far {w w' : World} {g : Nat} {n : Nat} {zs : List Int} {row : Option Nat} (h : IntsAt w (some ⟨g, 0, none⟩) n zs) (hg : w.grownBy w' row) (hr : ∀ k, row = some k → g < k) : IntsAt w' (some ⟨g, 0, none⟩) n zs :=
  CellsAt.grown h hg (fun a ha e => by cases ha; have := hr _ e; simp at this)
theorem own_row_lt {w : World} {b : Nat} {e : TypeId} {size n : Nat} {v : Value} {xs : List Value} (h : w.ownsRow b e size v n xs) {g : Nat} (hg : g < b) : ∀ k, v.ownBlock = some k → g < k := fun k hk => Nat.lt_of_lt_of_le hg (h.lt k hk).1
theorem newInts_at (w w0 : World) (zs : List Int) (n g : Nat) (hn : zs.length = n) (h5 : n ≤ 64) (hg : g = w0.heap.size) (hb : Below w.heap.size w w0) :
    NewInts w n zs (.returned (.slice (some ⟨g, 0, none⟩) n n)) (w0.alloc (.cells (zs.map (Value.int .i64)).toArray 2)) := by
  subst hn hg
  refine ⟨w0.heap.size, _, rfl, hb.size, ⟨by simp, .inr ⟨w0.heap.size, zs.length, _, rfl, hb.size, heap_alloc_new w0 _, Nat.le_refl _, by unfold maxLen; omega, by simp, by rw [List.take_of_length_le (by simp)]⟩⟩, hb.alloc hb.size _⟩
theorem bytes_ext {s t : ByteArray} (h : s.data.toList = t.data.toList) : s = t := by
  cases s; cases t
  simp only [ByteArray.mk.injEq]
  exact Array.toList_inj.1 h
theorem str_ne {s t : ByteArray} (h : s ≠ t) : (s.toList == t.toList) = false := by
  rw [beq_eq_false_iff_ne, ByteArray.toList_eq, ByteArray.toList_eq]
  exact fun e => h (bytes_ext e)
theorem cells2 {w w' : World} {g : Nat} {a b : Value} (hb : Below w.heap.size w w') (hg : g < w.heap.size) (c0 : w.cell? ⟨g, 0, none⟩ = some a) (c1 : w.cell? ⟨g, 1, none⟩ = some b) :
    w'.cell? ⟨g, 0, none⟩ = some a ∧ w'.cell? ⟨g, 1, none⟩ = some b := ⟨(hb.cell (p := ⟨g, 0, none⟩) hg).trans c0, (hb.cell (p := ⟨g, 1, none⟩) hg).trans c1⟩
end Go.Proofs.YtlcppfoedijccaaDoor
