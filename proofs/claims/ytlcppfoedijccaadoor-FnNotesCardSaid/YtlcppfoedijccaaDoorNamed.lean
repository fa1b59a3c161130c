/- Contracts of the known temperaments: all of them, and the one with a name; in the program and in the reference. -/
import Derived.Test.YtlcppfoedijccaaDoorTemp
namespace Go.Proofs.YtlcppfoedijccaaDoor
open Go.ChangeShapes Go.WideShapes Go.ChangeAt Go.RowKit
set_option maxRecDepth 100000

def tName : Nat → ByteArray
  | 0 => ⟨#[101, 113, 117, 97, 108]⟩
  | 1 => ⟨#[106, 117, 115, 116]⟩
  | 2 => ⟨#[109, 101, 97, 110, 116, 111, 110, 101]⟩
  | _ => ⟨#[112, 121, 116, 104, 97, 103, 111, 114, 97, 115]⟩
def tOffs : Nat → List Int
  | 0 => [0, 0, 0, 0, 0, 0, 0, 0, 0, 0, 0, 0]
  | 1 => [0, 117, 39, 156, -137, -20, -98, 20, 137, -156, 176, -117]
  | 2 => [0, -240, -68, 103, -137, 34, -205, -34, -274, -103, 68, -171]
  | _ => [0, 137, 39, -59, 78, -20, 117, 20, 156, 59, -39, 98]
theorem tOffs_len (k : Nat) : (tOffs k).length = 12 := by
  unfold tOffs
  split <;> rfl
theorem row_new_at (w : World) (zs : List Int) (b g n : Nat) (hm : zs.length = n) (h64 : n ≤ 64) (hg : g = w.heap.size) (hb : b ≤ g) : (w.alloc (.cells (zs.map (Value.int .i64)).toArray 2)).ownsRow b 2 1 (.slice (some ⟨g, 0, none⟩) n n) n (zs.map (Value.int .i64)) := by
  subst hm hg
  exact row_weaken (ownsRow_new w zs (by unfold maxLen; omega)) hb
/-- The known temperaments, in new memory: the table's block g, the offsets' blocks from h on. -/
def TempsAt (b : Nat) (w : World) (g h : Nat) : Prop :=
  ∀ i, i < 4 → w.cell? ⟨g, i * 2, none⟩ = some (.string (tName i)) ∧ w.cell? ⟨g, i * 2 + 1, none⟩ = some (.slice (some ⟨h + i, 0, none⟩) 12 12) ∧ w.ownsRow b 2 1 (.slice (some ⟨h + i, 0, none⟩) 12 12) 12 ((tOffs i).map (Value.int .i64))

/-- A temperament in new memory and a code. -/
def TRet (w : World) (s : ByteArray) (zs : List Int) (code : Int) (e : Ending) (w' : World) : Prop :=
  ∃ A n c, e = .returned (.tuple #[.agg #[.string s, .slice A n c], .int .i64 code]) ∧ w'.ownsRow w.heap.size 2 1 (.slice A n c) n (zs.map (Value.int .i64)) ∧ Below w.heap.size w w'
theorem row_keepT {w w' : World} {b : Nat} {e : TypeId} {size n : Nat} {v : Value} {xs : List Value} (h : w.ownsRow b e size v n xs) (hb : Below w.heap.size w w') : w'.ownsRow b e size v n xs := by
  have hlt := h.lt
  refine ⟨h.1, ?_⟩
  rcases h.2 with h1 | ⟨g, cap, cur, rfl, hg, hh, r⟩
  · exact .inl h1
  · exact .inr ⟨g, cap, cur, rfl, hg, (hb.block g (hlt g rfl).2).trans hh, r⟩

theorem l03Offsets_any (k : Nat) (w : World) (hk : k < 4) : Calls Tryd.prog 20 #[.int .i64 k] w fun e w' => NewInts w 12 (tOffs k) e w' := by
  obtain ⟨i0, hi, hz0, hz1, hz2⟩ := info_parts infoInt
  rcases (show k = 0 ∨ k = 1 ∨ k = 2 ∨ k = 3 from by omega) with rfl | rfl | rfl | rfl
  · go_enter Tryd.func20, Tryd.ntmps20
    go_wp2_with (at_make; refine wpList_make_full _ rfl _ _ 24 rfl w.heap.size 2 i0 (.int .i64 0) 1 Tryd.underlying24 hi hz0 hz1 .i64 .i64 _ _ 12 rfl rfl rfl rfl (by rw [hz2]; omega) (by unfold maxLen; omega) (Nat.le_refl _) ?_; intro w1 hown hgr)
    go_ret
    have hE : (madeCells (Value.int .i64 0).cells (12 * 1)).toList = (tOffs 0).map (Value.int .i64) := by kernel_rfl
    rw [hE] at hown
    exact ⟨w.heap.size, _, rfl, Nat.le_refl _, hown, (Below.refl _ _).grown hgr (Nat.le_refl _) (by intro k hk; cases hk)⟩
  all_goals
    go_enter Tryd.func20, Tryd.ntmps20
    go_wp2
    go_ret
    exact newInts_at w w _ 12 _ rfl (by omega) rfl (Below.refl _ _)
def Strs4At (w : World) (g : Nat) : Prop := ∀ i, i < 4 → w.cell? ⟨g, i, none⟩ = some (.string (tName i))
theorem l03Names_any (w : World) : Calls Tryd.prog 19 #[] w fun e w' => e = .returned (.slice (some ⟨w.heap.size, 0, none⟩) 4 4) ∧ Strs4At w' w.heap.size ∧ Below w.heap.size w w' ∧ w'.heap.size = w.heap.size + 1 := by
  go_enter Tryd.func19, Tryd.ntmps19
  go_wp2
  go_ret
  refine ⟨rfl, ?_, by repeat (first | exact Below.refl _ _ | refine Below.alloc ?_ (by first | omega | (simp; omega) | simp) _), by simp⟩
  intro i hi
  rcases (show i = 0 ∨ i = 1 ∨ i = 2 ∨ i = 3 from by omega) with rfl | rfl | rfl | rfl <;> (go_simp; rfl)
end Go.Proofs.YtlcppfoedijccaaDoor
