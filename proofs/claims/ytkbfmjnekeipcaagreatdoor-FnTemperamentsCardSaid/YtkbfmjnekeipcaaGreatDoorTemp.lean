/- Contracts on temperaments: the law's copy, comparison and measure; whether one is valid; whether two are the same. -/
import Derived.Test.YtkbfmjnekeipcaaGreatDoorOwn
import Derived.Test.YtkbfmjnekeipcaaGreatDoorName
namespace Go.Proofs.YtkbfmjnekeipcaaGreatDoor
open Go.ChangeShapes Go.WideShapes Go.ChangeAt Go.RowKit
set_option maxRecDepth 100000

theorem eq_no {xs ys : List Int} {k : Nat} {x y : Int} (hx : xs[k]? = some x) (hy : ys[k]? = some y) (h : x ≠ y) : decide (xs = ys) = false :=
  decide_eq_false fun e => by subst e; rw [hx] at hy; cases hy; exact h rfl
theorem eq_succ {xs ys : List Int} {k : Nat} {x y : Int} (hall : ∀ j, j < k → xs[j]? = ys[j]?) (hx : xs[k]? = some x) (hy : ys[k]? = some y) (h : x = y) : ∀ j, j < k + 1 → xs[j]? = ys[j]? := by
  intro j hj
  rcases Nat.lt_or_eq_of_le (Nat.le_of_lt_succ hj) with h1 | rfl
  · exact hall j h1
  · rw [hx, hy, h]
theorem eq_yes {xs ys : List Int} {n : Nat} (hx : xs.length = n) (hy : ys.length = n) (hall : ∀ j, j < n → xs[j]? = ys[j]?) : decide (xs = ys) = true := by
  apply decide_eq_true
  apply List.ext_getElem?
  intro j
  by_cases h : j < n
  · exact hall j h
  · rw [List.getElem?_eq_none (by omega), List.getElem?_eq_none (by omega)]
/-- A new temperament with these offsets. -/
def NewTemp (w : World) (s : ByteArray) (n : Nat) (zs : List Int) (e : Ending) (w' : World) : Prop :=
  ∃ g c, e = .returned (.agg #[.string s, .slice (some ⟨g, 0, none⟩) n c]) ∧ w.heap.size ≤ g ∧ w'.ownsRow w.heap.size 2 1 (.slice (some ⟨g, 0, none⟩) n c) n (zs.map (Value.int .i64)) ∧ Below w.heap.size w w'
def sameT (s s' : ByteArray) (xs ys : List Int) : Bool := decide (s = s') && decide (xs = ys)
set_option maxHeartbeats 1000000 in
theorem l00Same_any (A B : Option Addr) (n m c d : Nat) (xs ys : List Int) (w : World) (ha : IntsAt w A n xs) (hb : IntsAt w B m ys) (hn : n ≤ 4611686018427387904) (hm : m ≤ 4611686018427387904) :
    Calls Tryz.prog 35 #[.slice A n c, .slice B m d] w fun e w' => e = .returned (.bool (decide (xs = ys))) ∧ ∃ k, w' = w.drewN k := by
  have hl := ha.len
  have hl2 := hb.len
  by_cases hnm : n = m
  · subst hnm
    go_enter Tryz.func35, Tryz.ntmps35
    go_wp2
    go_loopw [5] (fun i wr => ∃ (k q : Nat), k ≤ n ∧ i = .int .i64 k ∧ wr = w.drewN q ∧ (∀ j, j < k → xs[j]? = ys[j]?)) (fun i _ => n - (intOf i).toNat)
    case atStart => exact ⟨0, 0, Nat.zero_le _, rfl, rfl, fun j hj => by omega⟩
    case round =>
      obtain ⟨k, q, hk, rfl, rfl, hall⟩ := hrel
      by_cases hlt : k < n
      · obtain ⟨b, off, x, rfl, _, hx, hcx⟩ := ha.at_ hlt
        obtain ⟨b', off', y, rfl, _, hy, hcy⟩ := hb.at_ hlt
        have hltI : (k : Int) < (n : Int) := by omega
        by_cases hxy : x = y
        · have H := Lib.hid (eq_succ hall hx hy hxy)
          have hd : (x == y) = true := by rw [beq_iff_eq]; exact hxy
          have HXY := Lib.hid hxy
          clear hall hx hy hxy
          go_wp2
          go_quiet (fail)
          go_wp2
          go_roundw
          case rel => exact ⟨k + 1, q + nq, by omega, by go_num, by first | rfl | rw [World.drewN_drewN], H.out⟩
          case measure => simp [intOf]; omega
        · have H := Lib.hid (eq_no hx hy hxy)
          have hd : (x == y) = false := by rw [beq_eq_false_iff_ne]; exact hxy
          clear hall hx hy hxy
          go_wp2
          go_quiet (fail)
          go_wp2
          go_ret
          exact ⟨ret_bool H.out.symm, q + nq, by first | rfl | rw [World.drewN_drewN]⟩
      · have H := Lib.hid (eq_yes hl hl2 (fun j hj => hall j (by omega)))
        clear hall
        go_wp2
        go_ret
        exact ⟨ret_bool H.out.symm, q, rfl⟩
  · have H : Hid (decide (xs = ys) = false) := decide_eq_false fun e => hnm (by rw [← hl, ← hl2, e])
    have hd : ((n : Int) == (m : Int)) = false := by rw [beq_eq_false_iff_ne]; omega
    go_enter Tryz.func35, Tryz.ntmps35
    go_wp2
    go_ret
    exact ⟨ret_bool H.out.symm, 0, rfl⟩
theorem same_spec (s s' : ByteArray) (A B : Option Addr) (n m c d : Nat) (xs ys : List Int) (w : World) (ha : IntsAt w A n xs) (hb : IntsAt w B m ys) (hn : n ≤ 1048576) (hm : m ≤ 1048576) :
    Calls Tryz.prog 11 #[.agg #[.string s, .slice A n c], .agg #[.string s', .slice B m d]] w fun e w' => e = .returned (.bool (sameT s s' xs ys)) ∧ Below w.heap.size w w' := by
  have h1 := Lib.hid ha
  have h2 := Lib.hid hb
  clear ha hb
  by_cases hss : s = s'
  · subst hss
    have H : Hid (sameT s s xs ys = decide (xs = ys)) := by show _ = _; simp [sameT]
    go_enter Tryz.func11, Tryz.ntmps11
    go_wp2_with fail
    refine (l00Same_any _ _ _ _ _ _ xs ys _ (by repeat (first | exact h1.out | refine IntsAt.alloc ?_ _)) (by repeat (first | exact h2.out | refine IntsAt.alloc ?_ _)) (by omega) (by omega)).mono ?_
    rintro e w' ⟨rfl, k, rfl⟩
    go_wp2
    go_ret
    exact ⟨ret_bool H.out.symm, below_drewN (by repeat (first | exact Below.refl _ _ | refine Below.alloc ?_ (by first | omega | (simp; omega) | simp) _)) k⟩
  · have H : Hid (sameT s s' xs ys = false) := by show _ = _; simp [sameT, hss]
    have hd := str_ne hss
    go_enter Tryz.func11, Tryz.ntmps11
    go_wp2_with fail
    go_ret
    exact ⟨ret_bool H.out.symm, by repeat (first | exact Below.refl _ _ | refine Below.alloc ?_ (by first | omega | (simp; omega) | simp) _)⟩
end Go.Proofs.YtkbfmjnekeipcaaGreatDoor
