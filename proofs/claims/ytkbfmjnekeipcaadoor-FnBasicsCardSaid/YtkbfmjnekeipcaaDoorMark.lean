/- Contracts of the laws' marks on a slice of integers of their own: written, and found again. -/
import Derived.Test.YtkbfmjnekeipcaaDoorSlice
namespace Go.Proofs.YtkbfmjnekeipcaaDoor
open Go.ChangeShapes Go.WideShapes Go.ChangeAt Go.RowKit
set_option maxRecDepth 100000

/-- n numbers from k on. -/
def marks (k : Int) (n : Nat) : List Int := (List.range n).map fun (i : Nat) => k + (i : Int)
theorem marks_len (k : Int) (n : Nat) : (marks k n).length = n := by simp [marks]
theorem marks_get {k : Int} {n i : Nat} (h : i < n) : (marks k n)[i]? = some (k + i) := by simp [marks, h]

set_option maxHeartbeats 1000000 in
theorem mark_any (A : Option Addr) (n c base : Nat) (xs : List Int) (m : Int) (w : World) (ho : w.ownsRow base 2 1 (.slice A n c) n (xs.map (Value.int .i64))) (hn : n ≤ 1099511627776) (h0 : 0 ≤ m) (h1 : m ≤ 1099511627776) :
    Calls Tryd.prog 17 #[.slice A n c, .int .i64 m] w fun e w' => e = .returned (.int .i64 (m + n)) ∧ w'.ownsRow base 2 1 (.slice A n c) n ((marks m n).map (Value.int .i64)) ∧ w.grownBy w' (Value.slice A n c).ownBlock := by
  have hl := (IntsAt.of_own ho).len
  go_enter Tryd.func17, Tryd.ntmps17
  go_wp2
  go_loopw [1, 5] (fun q i wr => ∃ (k : Nat) (ys : List Value), k ≤ n ∧ i = .int .i64 k ∧ q = .int .i64 (m + k) ∧ ys.length = n ∧ wr.ownsRow base 2 1 (.slice A n c) n ys ∧ w.grownBy wr (Value.slice A n c).ownBlock ∧ (∀ j, j < k → ys[j]? = ((marks m n).map (Value.int .i64))[j]?)) (fun _ i _ => n - (intOf i).toNat)
  case atStart => exact ⟨0, _, Nat.zero_le _, rfl, by simp, by simpa using hl, ho, World.grownBy.refl _ _, fun j hj => by omega⟩
  case round =>
    obtain ⟨k, ys, hk, rfl, rfl, hy, hown, hgr, hall⟩ := hrel
    by_cases hlt : k < n
    · rcases hown.2 with ⟨_, h00⟩ | ⟨g, cap, cur, hv, _⟩
      · omega
      · simp only [Value.slice.injEq] at hv
        obtain ⟨rfl, _, rfl⟩ := hv
        have hd := hown.cellAt k (by omega)
        have hdv : ys[k]? = some (ys[k]'(by omega)) := List.getElem?_eq_getElem (by omega)
        rw [hdv] at hd
        have hdf := hown.frozenAt k
        have hst := Lib.hid (hown.stored k (.int .i64 (m + k)))
        have HA := Lib.hid (set_upto (marks_len m n) hy hall (marks_get hlt))
        have HX := Lib.hid hy
        have HG := Lib.hid hgr
        generalize ys[k]'(by omega) = old at hd
        clear hall hdv hy hgr ho hl
        go_wp2
        go_roundw
        case rel =>
          have hg2 := HG.out
          have hs := hst.out.2
          refine ⟨k + 1, _, by omega, by go_num, by go_num, by rw [List.length_set]; exact HX.out, hst.out.1, ?_, HA.out⟩
          exact ⟨hs.os.trans hg2.os, hs.tape.trans hg2.tape, hs.output.trans hg2.output, Nat.le_trans hg2.size hs.size, fun i hi hne => (hs.block i (Nat.lt_of_lt_of_le hi hg2.size) hne).trans (hg2.block i hi hne)⟩
        case measure => simp [intOf]; omega
    · obtain rfl : k = n := by omega
      have H := Lib.hid (list_of_upto (marks_len m k) hy hall)
      have HO := Lib.hid hown
      clear hall hy hown ho hl
      go_wp2
      go_ret
      exact ⟨rfl, by rw [← H.out]; exact HO.out, hgr⟩

set_option maxHeartbeats 1000000 in
theorem held_any (A : Option Addr) (n c : Nat) (m : Int) (w : World) (h : IntsAt w A n (marks m n)) (hn : n ≤ 1099511627776) (h0 : 0 ≤ m) (h1 : m ≤ 1099511627776) :
    Calls Tryd.prog 18 #[.slice A n c, .int .i64 m] w fun e w' => e = .returned (.int .i64 (m + n)) ∧ w = w' := by
  go_enter Tryd.func18, Tryd.ntmps18
  go_wp2
  go_loop [1, 5] (fun q i => ∃ (k : Nat), k ≤ n ∧ i = .int .i64 k ∧ q = .int .i64 (m + k)) (fun _ i => n - (intOf i).toNat)
  case atStart => exact ⟨0, Nat.zero_le _, rfl, by simp⟩
  case round =>
    obtain ⟨k, hk, rfl, rfl⟩ := hrel
    by_cases hlt : k < n
    · obtain ⟨b, off, z, rfl, hb, hz, hc⟩ := h.at_ hlt
      rw [marks_get hlt] at hz
      simp only [Option.some.injEq] at hz
      subst hz
      go_wp2
      go_round
      case rel => exact ⟨k + 1, by omega, by go_num, by go_num⟩
      case measure => simp [intOf]; omega
    · obtain rfl : k = n := by omega
      go_wp2
      go_ret
      exact ⟨rfl, rfl⟩
end Go.Proofs.YtkbfmjnekeipcaaDoor
