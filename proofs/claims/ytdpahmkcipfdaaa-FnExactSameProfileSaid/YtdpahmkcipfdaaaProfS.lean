/- Contracts: whether two profiles are the same, in the program and in the reference. -/
import Derived.Test.YtdpahmkcipfdaaaRings
import Derived.Laws.StructEq
namespace Go.Proofs.Ytdpahmkcipfdaaa
open Go.ChangeShapes Go.WideShapes Go.ChangeAt Go.RowKit
set_option maxRecDepth 100000

/-- Two rings are alike. -/
def req3 (x y z x' y' z' : Int) : Bool := decide ((x, y, z) = (x', y', z'))
/-- Two rings are compared number by number. -/
theorem ring_neq (x y z x' y' z' : Int) (w : World) :
    (binOp .neq 79 (.agg #[.int .i64 x, .int .i64 y, .int .i64 z]) (.agg #[.int .i64 x', .int .i64 y', .int .i64 z'])).run Try.prog w = .ok (.bool (!req3 x y z x' y' z')) w := by
  unfold req3
  have u2 := Try.underlying2
  have hS : Try.prog.underlying 79 = some (.struct (Try.prog.fieldsOf 79)) := by kernel_rfl
  have hp : Try.prog.stoodInHeld 79 = false := by kernel_rfl
  rw [run_neq_struct, show (10000 : Nat) = 9999 + 1 from rfl, run_equalIn_agg w 9999 79 _ _ hS hp]
  simp only [Program.fieldsOf, Try.underlying79]
  go_simp
  by_cases h1 : x = x' <;> by_cases h2 : y = y' <;> by_cases h3 : z = z' <;> simp [h1, h2, h3]
theorem ring_guard (op : BinOp) (a b : Operand) (xs ys : Array Value) (w : World) : (eqGuard op 79 a b (.agg xs) (.agg ys)).run Try.prog w = .ok () w :=
  run_eqGuard_agg w op 79 a b xs ys (by kernel_rfl)
attribute [local go_sem ↓] ring_neq ring_guard

theorem req_no {xs ys : List R3} {k : Nat} {x y : R3} (hx : xs[k]? = some x) (hy : ys[k]? = some y) (h : x ≠ y) : decide (xs = ys) = false :=
  decide_eq_false fun e => by subst e; rw [hx] at hy; cases hy; exact h rfl
theorem req_succ {xs ys : List R3} {k : Nat} {x y : R3} (hall : ∀ j, j < k → xs[j]? = ys[j]?) (hx : xs[k]? = some x) (hy : ys[k]? = some y) (h : x = y) : ∀ j, j < k + 1 → xs[j]? = ys[j]? := by
  intro j hj
  rcases Nat.lt_or_eq_of_le (Nat.le_of_lt_succ hj) with h1 | rfl
  · exact hall j h1
  · rw [hx, hy, h]
theorem req_yes {xs ys : List R3} {n : Nat} (hx : xs.length = n) (hy : ys.length = n) (hall : ∀ j, j < n → xs[j]? = ys[j]?) : decide (xs = ys) = true := by
  apply decide_eq_true
  apply List.ext_getElem?
  intro j
  by_cases h : j < n
  · exact hall j h
  · rw [List.getElem?_eq_none (by omega), List.getElem?_eq_none (by omega)]
def sameP (s t : ByteArray) (xs ys : List R3) : Bool := decide (s = t) && decide (xs = ys)
set_option maxHeartbeats 2000000 in
theorem ringsEqual_any (A B : Option Addr) (n m c d : Nat) (xs ys : List R3) (w : World) (ha : RingsAt w A n xs) (hb : RingsAt w B m ys) (hn : n ≤ 1048576) (hm : m ≤ 1048576) :
    Calls Try.prog 69 #[.slice A n c, .slice B m d] w fun e w' => e = .returned (.bool (decide (xs = ys))) ∧ ∃ k, w' = w.drewN k := by
  have hl := ha.1
  have hl2 := hb.1
  by_cases hnm : n = m
  · subst hnm
    go_enter Try.func69, Try.ntmps69
    go_wp2
    go_loopw [5, 13] (fun _ i wr => ∃ (k q : Nat), k ≤ n ∧ i = .int .i64 k ∧ wr = w.drewN q ∧ (∀ j, j < k → xs[j]? = ys[j]?)) (fun _ i _ => n - (intOf i).toNat)
    case atStart => exact ⟨0, 0, Nat.zero_le _, rfl, rfl, fun j hj => by omega⟩
    case round =>
      obtain ⟨k, q, hk, rfl, rfl, hall⟩ := hrel
      by_cases hlt : k < n
      · obtain ⟨b, off, x, y, z, rfl, _, hx, c0, c1, c2⟩ := ha.at_ hlt
        obtain ⟨b', off', x', y', z', rfl, _, hy, d0, d1, d2⟩ := hb.at_ hlt
        have hltI : (k : Int) < (n : Int) := by omega
        by_cases hxy : (x, y, z) = (x', y', z')
        · have H := Lib.hid (req_succ hall hx hy hxy)
          have hd : req3 x y z x' y' z' = true := decide_eq_true hxy
          clear hall hx hy hxy ha hb
          go_wp2
          go_quiet (fail)
          go_wp2
          go_roundw
          case rel => exact ⟨k + 1, q + nq, by omega, by go_num, by first | rfl | rw [World.drewN_drewN], H.out⟩
          case measure => simp [intOf]; omega
        · have H := Lib.hid (req_no hx hy hxy)
          have hd : req3 x y z x' y' z' = false := decide_eq_false hxy
          clear hall hx hy hxy ha hb
          go_wp2
          go_quiet (fail)
          go_wp2
          go_ret
          exact ⟨ret_bool H.out.symm, q + nq, by first | rfl | rw [World.drewN_drewN]⟩
      · have H := Lib.hid (req_yes hl hl2 (fun j hj => hall j (by omega)))
        clear hall ha hb
        go_wp2
        go_ret
        exact ⟨ret_bool H.out.symm, q, rfl⟩
  · have H : Hid (decide (xs = ys) = false) := decide_eq_false fun e => hnm (by rw [← hl, ← hl2, e])
    have hd : ((n : Int) == (m : Int)) = false := by rw [beq_eq_false_iff_ne]; omega
    go_enter Try.func69, Try.ntmps69
    go_wp2
    go_ret
    exact ⟨ret_bool H.out.symm, 0, rfl⟩
theorem sameP_impl (s s' : ByteArray) (A B : Option Addr) (n m c d : Nat) (xs ys : List R3) (w : World) (ha : RingsAt w A n xs) (hb : RingsAt w B m ys) (hn : n ≤ 1048576) (hm : m ≤ 1048576) :
    Calls Try.prog 37 #[.agg #[.string s, .slice A n c], .agg #[.string s', .slice B m d]] w fun e w' => e = .returned (.bool (sameP s s' xs ys)) ∧ Below w.heap.size w w' := by
  have h1 := Lib.hid ha
  have h2 := Lib.hid hb
  clear ha hb
  by_cases hss : s = s'
  · subst hss
    have H : Hid (sameP s s xs ys = decide (xs = ys)) := by show _ = _; simp [sameP]
    go_enter Try.func37, Try.ntmps37
    go_wp2_with fail
    refine (ringsEqual_any _ _ _ _ _ _ xs ys _ (by repeat (first | exact h1.out | refine RingsAt.alloc ?_ _)) (by repeat (first | exact h2.out | refine RingsAt.alloc ?_ _)) (by omega) (by omega)).mono ?_
    rintro e w' ⟨rfl, k, rfl⟩
    go_wp2
    go_ret
    exact ⟨ret_bool H.out.symm, below_drewN (by repeat (first | exact Below.refl _ _ | refine Below.alloc ?_ (by first | omega | (simp; omega) | simp) _)) k⟩
  · have H : Hid (sameP s s' xs ys = false) := by show _ = _; simp [sameP, hss]
    have hd := str_ne hss
    go_enter Try.func37, Try.ntmps37
    go_wp2_with fail
    go_ret
    exact ⟨ret_bool H.out.symm, by repeat (first | exact Below.refl _ _ | refine Below.alloc ?_ (by first | omega | (simp; omega) | simp) _)⟩
set_option maxHeartbeats 4000000 in
theorem l05Same_any (s t : ByteArray) (A B : Option Addr) (n m c d : Nat) (xs ys : List R3) (g g' : Nat) (w : World) (ha : RingsAt w A n xs) (hb : RingsAt w B m ys) (hn : n ≤ 1048576) (hm : m ≤ 1048576)
    (g0 : w.cell? ⟨g, 0, none⟩ = some (.string s)) (g1 : w.cell? ⟨g, 1, none⟩ = some (.slice A n c)) (g2 : w.cell? ⟨g', 0, none⟩ = some (.string t)) (g3 : w.cell? ⟨g', 1, none⟩ = some (.slice B m d)) :
    Calls Try.prog 67 #[.pointer (some ⟨g, 0, none⟩), .pointer (some ⟨g', 0, none⟩)] w fun e w' => e = .returned (.bool (sameP s t xs ys)) ∧ ∃ k, w' = w.drewN k := by
  have hl := ha.1
  have hl2 := hb.1
  by_cases hss : s = t
  case neg =>
    have H : Hid (sameP s t xs ys = false) := by show _ = _; simp [sameP, hss]
    have hd := str_ne hss
    clear ha hb
    go_enter Try.func67, Try.ntmps67
    go_wp2
    go_quiet (fail)
    go_wp2
    go_ret
    exact ⟨ret_bool H.out.symm, nq, rfl⟩
  subst hss
  by_cases hnm : n = m
  case neg =>
    have H : Hid (sameP s s xs ys = false) := by
      show _ = _
      have : ¬ xs = ys := fun e => hnm (by rw [← hl, ← hl2, e])
      simp [sameP, this]
    have hd : ((n : Int) == (m : Int)) = false := by rw [beq_eq_false_iff_ne]; omega
    clear ha hb
    go_enter Try.func67, Try.ntmps67
    go_wp2
    go_quiet (fail)
    go_wp2
    go_ret
    exact ⟨ret_bool H.out.symm, nq, rfl⟩
  subst hnm
  have HS : Hid (sameP s s xs ys = decide (xs = ys)) := by show _ = _; simp [sameP]
  have hd0 : (s.toList == s.toList) = true := by simp
  have hd1 : ((n : Int) == (n : Int)) = true := by simp
  go_enter Try.func67, Try.ntmps67
  go_wp2
  go_quiet (fail)
  go_wp2
  go_loopw [5] (fun i wr => ∃ (k q : Nat), k ≤ n ∧ i = .int .i64 k ∧ wr = w.drewN q ∧ (∀ j, j < k → xs[j]? = ys[j]?)) (fun i _ => n - (intOf i).toNat)
  case atStart => exact ⟨0, nq, Nat.zero_le _, rfl, rfl, fun j hj => by omega⟩
  case round =>
    obtain ⟨k, q, hk, rfl, rfl, hall⟩ := hrel
    by_cases hlt : k < n
    · obtain ⟨b, off, x, y, z, rfl, _, hx, c0, c1, c2⟩ := ha.at_ hlt
      obtain ⟨b', off', x', y', z', rfl, _, hy, d0, d1, d2⟩ := hb.at_ hlt
      have hltI : (k : Int) < (n : Int) := by omega
      by_cases hxy : (x, y, z) = (x', y', z')
      · have H := Lib.hid (req_succ hall hx hy hxy)
        have hd : req3 x y z x' y' z' = true := decide_eq_true hxy
        clear hall hx hy hxy ha hb
        go_wp2
        go_quiet (fail)
        go_wp2
        go_roundw
        case rel => exact ⟨k + 1, q + nq, by omega, by go_num, by first | rfl | rw [World.drewN_drewN], H.out⟩
        case measure => simp [intOf]; omega
      · have H := Lib.hid (HS.out.trans (req_no hx hy hxy))
        have hd : req3 x y z x' y' z' = false := decide_eq_false hxy
        clear hall hx hy hxy ha hb
        go_wp2
        go_quiet (fail)
        go_wp2
        go_ret
        exact ⟨ret_bool H.out.symm, q + nq, by first | rfl | rw [World.drewN_drewN]⟩
    · have H := Lib.hid (HS.out.trans (req_yes hl hl2 (fun j hj => hall j (by omega))))
      clear hall ha hb
      go_wp2
      go_ret
      exact ⟨ret_bool H.out.symm, q, rfl⟩
theorem sameP_spec (s t : ByteArray) (A B : Option Addr) (n m c d : Nat) (xs ys : List R3) (w : World) (ha : RingsAt w A n xs) (hb : RingsAt w B m ys) (hn : n ≤ 1048576) (hm : m ≤ 1048576) :
    Calls Try.prog 35 #[.agg #[.string s, .slice A n c], .agg #[.string t, .slice B m d]] w fun e w' => e = .returned (.bool (sameP s t xs ys)) ∧ Below w.heap.size w w' := by
  have h1 := Lib.hid ha
  have h2 := Lib.hid hb
  clear ha hb
  go_enter Try.func35, Try.ntmps35
  go_wp2_with fail
  refine (l05Same_any s t A B n m c d xs ys _ _ _ (by repeat (first | exact h1.out | refine RingsAt.alloc ?_ _)) (by repeat (first | exact h2.out | refine RingsAt.alloc ?_ _)) hn hm (by go_simp) (by go_simp) (by go_simp) (by go_simp)).mono ?_
  rintro e w' ⟨rfl, k, rfl⟩
  go_wp2
  go_ret
  exact ⟨rfl, below_drewN (by repeat (first | exact Below.refl _ _ | refine Below.alloc ?_ (by first | omega | (simp; omega) | simp) _)) k⟩
end Go.Proofs.Ytdpahmkcipfdaaa
