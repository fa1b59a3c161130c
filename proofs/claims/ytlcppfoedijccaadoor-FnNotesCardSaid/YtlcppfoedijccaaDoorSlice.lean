/- Slices of 64-bit integers: how they read, and contracts of the functions that read, compare and copy them. Conditions: what memory holds. -/
import Derived.Test.YtlcppfoedijccaaDoorNum
import Derived.OwnWalk
import Derived.Laws.OwnMore
import Derived.Laws.Rows
namespace Go.Proofs.YtlcppfoedijccaaDoor
open Go.ChangeShapes Go.WideShapes Go.ChangeAt Go.RowKit
set_option maxRecDepth 100000

/-- The slice (A, n) holds the cells xs, 'size' cells an element, in a block that is there. -/
def CellsAt (w : World) (A : Option Addr) (n size : Nat) (xs : List Value) : Prop :=
  xs.length = n * size ∧ (0 < n → ∃ b off, A = some ⟨b, off, none⟩ ∧ b < w.heap.size ∧ ∀ j u, xs[j]? = some u → w.cell? ⟨b, off + j, none⟩ = some u)
/-- .. integers of 64 bits. -/
def IntsAt (w : World) (A : Option Addr) (n : Nat) (zs : List Int) : Prop := CellsAt w A n 1 (zs.map (Value.int .i64))

section
variable {w w' : World} {A : Option Addr} {n size : Nat} {xs : List Value} {zs : List Int}
theorem CellsAt.below (h : CellsAt w A n size xs) (hb : Below w.heap.size w w') : CellsAt w' A n size xs :=
  ⟨h.1, fun hn => by
    obtain ⟨b, off, e, hlt, hc⟩ := h.2 hn
    exact ⟨b, off, e, Nat.lt_of_lt_of_le hlt hb.size, fun j u hu => (hb.cell (p := ⟨b, off + j, none⟩) hlt).trans (hc j u hu)⟩⟩
theorem CellsAt.grown {row : Option Nat} (h : CellsAt w A n size xs) (hb : w.grownBy w' row) (hne : ∀ a, A = some a → row ≠ some a.block) : CellsAt w' A n size xs :=
  ⟨h.1, fun hn => by
    obtain ⟨b, off, e, hlt, hc⟩ := h.2 hn
    exact ⟨b, off, e, Nat.lt_of_lt_of_le hlt hb.size, fun j u hu => hb.cell (hc j u hu) (fun e' => hne _ e e'.symm)⟩⟩
theorem CellsAt.drewN (h : CellsAt w A n size xs) (k : Nat) : CellsAt (w.drewN k) A n size xs := h
theorem CellsAt.nil : CellsAt w A 0 size [] := ⟨by simp, fun h => absurd h (by omega)⟩
theorem CellsAt.of_own {base : Nat} {e : TypeId} {c : Nat} (h : w.ownsRow base e size (.slice A n c) n xs) : CellsAt w A n size xs := by
  refine ⟨h.1, fun hn => ?_⟩
  have h0 := h
  rcases h.2 with ⟨_, h1⟩ | ⟨g, cap, cur, hv, hg, hh, hnc, hcm, hcs, htake⟩
  · omega
  · simp only [Value.slice.injEq] at hv
    obtain ⟨rfl, _, rfl⟩ := hv
    refine ⟨g, 0, rfl, ?_, fun j u hu => ?_⟩
    · rcases Nat.lt_or_ge g w.heap.size with hlt | hge
      · exact hlt
      · rw [Array.getElem?_eq_none hge] at hh; cases hh
    · have hj : j < n * size := by rw [← h0.1]; exact (List.getElem?_eq_some_iff.1 hu).1
      rw [Nat.zero_add, h0.cellAt j hj]
      exact hu
theorem CellsAt.of_block {g : Nat} {cs : Array Value} {t : TypeId} {fr : Nat × Nat} (hh : w.heap[g]? = some (.cells cs t fr)) (hx : cs.toList = xs) (hl : xs.length = n * size) : CellsAt w (some ⟨g, 0, none⟩) n size xs := by
  refine ⟨hl, fun _ => ⟨g, 0, rfl, ?_, fun j u hu => ?_⟩⟩
  · rcases Nat.lt_or_ge g w.heap.size with hlt | hge
    · exact hlt
    · rw [Array.getElem?_eq_none hge] at hh; cases hh
  · rw [Nat.zero_add, cell_of_row w g j cs t fr hh, ← Array.getElem?_toList, hx]
    exact hu
theorem IntsAt.len (h : IntsAt w A n zs) : zs.length = n := by have := h.1; simpa using this
theorem IntsAt.at_ (h : IntsAt w A n zs) {k : Nat} (hk : k < n) : ∃ b off z, A = some ⟨b, off, none⟩ ∧ b < w.heap.size ∧ zs[k]? = some z ∧ w.cell? ⟨b, off + k, none⟩ = some (.int .i64 z) := by
  obtain ⟨b, off, e, hlt, hc⟩ := h.2 (by omega)
  have hl := h.len
  have hz : zs[k]? = some (zs[k]'(by omega)) := List.getElem?_eq_getElem (by omega)
  exact ⟨b, off, _, e, hlt, hz, hc k _ (by rw [List.getElem?_map, hz]; rfl)⟩
theorem IntsAt.below (h : IntsAt w A n zs) (hb : Below w.heap.size w w') : IntsAt w' A n zs := CellsAt.below h hb
theorem IntsAt.of_own {base : Nat} {e : TypeId} {c : Nat} (h : w.ownsRow base e 1 (.slice A n c) n (zs.map (Value.int .i64))) : IntsAt w A n zs := CellsAt.of_own h
/-- A new block of some numbers. -/
theorem IntsAt.new (w : World) (zs : List Int) (t : TypeId) : IntsAt (w.alloc (.cells (zs.map (Value.int .i64)).toArray t)) (some ⟨w.heap.size, 0, none⟩) zs.length zs :=
  CellsAt.of_block (heap_alloc_new w _) (by simp) (by simp)
end

theorem own_shape {w : World} {base : Nat} {e : TypeId} {size n : Nat} {v : Value} {xs : List Value} (h : w.ownsRow base e size v n xs) : ∃ A c, v = .slice A n c := by
  rcases h.2 with ⟨rfl, rfl⟩ | ⟨g, cap, cur, rfl, _⟩
  · exact ⟨_, _, rfl⟩
  · exact ⟨_, _, rfl⟩

/-- All are frequencies. -/
def allF (zs : List Int) : Bool := zs.all fun z => inB z 10000 20000000
theorem allF_false {zs : List Int} {k : Nat} {z : Int} (h : zs[k]? = some z) (hz : inB z 10000 20000000 = false) : allF zs = false := by
  unfold allF
  rw [List.all_eq_false]
  exact ⟨z, List.mem_of_getElem? h, by simp [hz]⟩
theorem allF_true {zs : List Int} {n : Nat} (hl : zs.length = n) (h : ∀ j z, j < n → zs[j]? = some z → inB z 10000 20000000 = true) : allF zs = true := by
  unfold allF
  rw [List.all_eq_true]
  intro z hz
  obtain ⟨j, hj, rfl⟩ := List.getElem_of_mem hz
  exact h j _ (by omega) (List.getElem?_eq_getElem hj)
theorem allF_succ {zs : List Int} {k : Nat} {z : Int} (h : ∀ j z, j < k → zs[j]? = some z → inB z 10000 20000000 = true) (hz : zs[k]? = some z) (hB : inB z 10000 20000000 = true) :
    ∀ j z, j < k + 1 → zs[j]? = some z → inB z 10000 20000000 = true := by
  intro j y hj hy
  rcases Nat.lt_or_eq_of_le (Nat.le_of_lt_succ hj) with h1 | rfl
  · exact h j y h1 hy
  · rw [hz] at hy; cases hy; exact hB

theorem isFreq_is {f : Int} {r : Bool} (h : inB f 10000 20000000 = r) (w : World) : Calls Tryd.prog 30 #[.int .i64 f] w fun e w' => e = .returned (.bool r) ∧ w = w' := by
  go_enter Tryd.func30, Tryd.ntmps30
  go_wp2_with (go_at_call 15; refine (within_is h _).mono ?_; rintro e w' ⟨rfl, rfl⟩)
  go_ret
  exact ⟨rfl, rfl⟩
theorem areFreq_any (A : Option Addr) (n c : Nat) (zs : List Int) (w : World) (h : IntsAt w A n zs) (hn : n ≤ 4611686018427387904) :
    Calls Tryd.prog 23 #[.slice A n c] w fun e w' => e = .returned (.bool (allF zs)) ∧ w = w' := by
  have hl := h.len
  go_enter Tryd.func23, Tryd.ntmps23
  go_wp2
  go_loop [4, 7] (fun _ i => ∃ k : Nat, k ≤ n ∧ i = .int .i64 k ∧ ∀ j z, j < k → zs[j]? = some z → inB z 10000 20000000 = true) (fun _ i => n - (intOf i).toNat)
  case atStart => exact ⟨0, Nat.zero_le _, rfl, fun j z hj => by omega⟩
  case round =>
    obtain ⟨k, hk, rfl, hall⟩ := hrel
    by_cases hlt : k < n
    · obtain ⟨b, off, z, rfl, hb, hz, hc⟩ := h.at_ hlt
      cases hB : inB z 10000 20000000
      · have H := Lib.hid (allF_false hz hB)
        clear hall hz
        go_wp2_with (go_at_call 30; refine (isFreq_is hB _).mono ?_; rintro e w' ⟨rfl, rfl⟩)
        go_ret
        exact ⟨ret_bool H.out.symm, rfl⟩
      · have H := Lib.hid (allF_succ hall hz hB)
        clear hall hz
        go_wp2_with (go_at_call 30; refine (isFreq_is hB _).mono ?_; rintro e w' ⟨rfl, rfl⟩)
        go_round
        case rel => exact ⟨k + 1, by omega, by go_num, H.out⟩
        case measure => simp [intOf]; omega
    · have H := Lib.hid (allF_true hl (fun j z hj => hall j z (by omega)))
      clear hall
      go_wp2
      go_ret
      exact ⟨ret_bool H.out.symm, rfl⟩

theorem infoInt : (Tryd.prog.info? 2).map (fun i => (i.zero, i.size, i.bytes)) = some (some (.int .i64 0), 1, 8) := by kernel_rfl

/-- A new row of these numbers. -/
def NewInts (w : World) (n : Nat) (zs : List Int) (e : Ending) (w' : World) : Prop :=
  ∃ g c, e = .returned (.slice (some ⟨g, 0, none⟩) n c) ∧ w.heap.size ≤ g ∧ w'.ownsRow w.heap.size 2 1 (.slice (some ⟨g, 0, none⟩) n c) n (zs.map (Value.int .i64)) ∧ Below w.heap.size w w'
theorem ownsRow_new (w : World) (zs : List Int) (hm : zs.length ≤ maxLen) : (w.alloc (.cells (zs.map (Value.int .i64)).toArray 2)).ownsRow w.heap.size 2 1 (.slice (some ⟨w.heap.size, 0, none⟩) zs.length zs.length) zs.length (zs.map (Value.int .i64)) := by
  refine ⟨by simp, .inr ⟨w.heap.size, zs.length, (zs.map (Value.int .i64)).toArray, rfl, Nat.le_refl _, heap_alloc_new w _, Nat.le_refl _, hm, by simp, ?_⟩⟩
  rw [List.take_of_length_le (by simp)]
theorem set_upto {zs : List Int} {xs : List Value} {n k : Nat} {z : Int} (hl : zs.length = n) (hx : xs.length = n) (hall : ∀ j, j < k → xs[j]? = (zs.map (Value.int .i64))[j]?) (hz : zs[k]? = some z) :
    ∀ j, j < k + 1 → (xs.set k (.int .i64 z))[j]? = (zs.map (Value.int .i64))[j]? := by
  intro j hj
  obtain ⟨hlt, hzz⟩ := List.getElem?_eq_some_iff.1 hz
  rcases Nat.lt_or_eq_of_le (Nat.le_of_lt_succ hj) with h1 | rfl
  · rw [List.getElem?_set_ne (by omega)]
    exact hall j h1
  · rw [List.getElem?_set_self (by omega), List.getElem?_map, hz]
    rfl
theorem list_of_upto {zs : List Int} {xs : List Value} {n : Nat} (hl : zs.length = n) (hx : xs.length = n) (hall : ∀ j, j < n → xs[j]? = (zs.map (Value.int .i64))[j]?) : xs = zs.map (Value.int .i64) := by
  apply List.ext_getElem?
  intro j
  by_cases h : j < n
  · exact hall j h
  · rw [List.getElem?_eq_none (by omega), List.getElem?_eq_none (by simp; omega)]
end Go.Proofs.YtlcppfoedijccaaDoor
