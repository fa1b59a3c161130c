/- Contracts: whether a text is a name, in the program and in the reference: one and the same test. No condition but that the text is one that memory holds. -/
import Derived.Test.YtlcppfoedijccaaDoorNum
import Derived.Laws.IdiomStrings
import Derived.Laws.Rows
import Derived.Lib.Strings
namespace Go.Proofs.YtlcppfoedijccaaDoor
open Go.ChangeShapes Go.WideShapes Go.ChangeAt Go.RowKit
set_option maxRecDepth 100000

def letterP (c : UInt8) : Prop := 97 ≤ (c.toNat : Int) ∧ (c.toNat : Int) ≤ 122
def digitP (c : UInt8) : Prop := 48 ≤ (c.toNat : Int) ∧ (c.toNat : Int) ≤ 57
instance (c : UInt8) : Decidable (letterP c) := by unfold letterP; infer_instance
instance (c : UInt8) : Decidable (digitP c) := by unfold digitP; infer_instance
/-- The byte at k fits a name. -/
def goodAt (s : ByteArray) (k : Nat) : Prop := ∀ h : k < s.size, letterP s[k] ∨ (0 < k ∧ digitP s[k])
def nameP (s : ByteArray) : Prop := 1 ≤ s.size ∧ s.size ≤ 10 ∧ ∀ k, k < s.size → goodAt s k
/-- s is a name. -/
noncomputable def nameB (s : ByteArray) : Bool := @decide (nameP s) (Classical.propDecidable _)
theorem nameB_true {s : ByteArray} (h : nameP s) : nameB s = true := @decide_eq_true _ (Classical.propDecidable _) h
theorem nameB_false {s : ByteArray} (h : ¬ nameP s) : nameB s = false := @decide_eq_false _ (Classical.propDecidable _) h

theorem good_letter {s : ByteArray} {k : Nat} {h : k < s.size} (hl : 97 ≤ (s[k].toNat : Int)) (hh : (s[k].toNat : Int) ≤ 122) : goodAt s k := fun _ => .inl ⟨hl, hh⟩
theorem good_digit {s : ByteArray} {k : Nat} {h : k < s.size} (hk : 0 < k) (hl : 48 ≤ (s[k].toNat : Int)) (hh : (s[k].toNat : Int) ≤ 57) : goodAt s k := fun _ => .inr ⟨hk, hl, hh⟩
theorem bad_other {s : ByteArray} {k : Nat} {h : k < s.size} (h1 : ¬ letterP s[k]) (h2 : ¬ digitP s[k]) : ¬ nameP s := fun hn => by
  rcases hn.2.2 k h h with h3 | h3
  · exact h1 h3
  · exact h2 h3.2
theorem bad_first {s : ByteArray} {h : 0 < s.size} (h1 : ¬ letterP s[0]) : ¬ nameP s := fun hn => by
  rcases hn.2.2 0 h h with h3 | h3
  · exact h1 h3
  · omega
theorem all_succ {s : ByteArray} {k : Nat} (h : ∀ j, j < k → goodAt s j) (hk : goodAt s k) : ∀ j, j < k + 1 → goodAt s j := fun j hj => by
  rcases Nat.lt_or_eq_of_le (Nat.le_of_lt_succ hj) with h1 | rfl
  · exact h j h1
  · exact hk

/-- The bytes of a string, made a slice. -/
theorem conv_str (s : ByteArray) (w : World) : ∃ cap wc, (convert 9 22 (.string s)).run Tryd.prog w = .ok (.slice (some ⟨w.heap.size, 0, none⟩) s.size cap) wc ∧
    (∀ k (h : k < s.size), wc.cell? ⟨w.heap.size, k, none⟩ = some (.int .u8 (s[k].toNat : Int))) ∧ Below w.heap.size w wc := by
  refine ⟨_, _, run_bytes_of_string w 9 22 5 s Tryd.underlying9 Tryd.underlying22 Tryd.underlying5, ?_, ?_⟩
  · intro k h
    rw [cell_of_row _ w.heap.size k _ _ _ (heap_alloc_new w.drew _)]
    exact bytesRow_at s _ k h
  · exact (Below.refl _ _).drew.alloc (Nat.le_refl _) _

set_option maxHeartbeats 2000000 in
theorem isName_impl (s : ByteArray) (w : World) (hs : s.size ≤ maxLen) : Calls Tryd.prog 28 #[.string s] w fun e w' => e = .returned (.bool (nameB s)) ∧ Below w.heap.size w w' := by
  unfold maxLen at hs
  by_cases h1 : 1 ≤ s.size
  · by_cases h2 : s.size ≤ 10
    · obtain ⟨cap, wc, hconv, hcells, hbel⟩ := conv_str s w
      go_enter Tryd.func28, Tryd.ntmps28
      go_wp2
      go_loop [3, 4, 5, 6, 18] (fun _ _ _ _ x => ∃ k : Nat, k ≤ s.size ∧ x = .int .i64 k ∧ ∀ j, j < k → goodAt s j) (fun _ _ _ _ x => s.size - (intOf x).toNat)
      case atStart => exact ⟨0, Nat.zero_le _, rfl, fun j hj => by omega⟩
      case round =>
        obtain ⟨k, hk, rfl, hall⟩ := hrel
        by_cases hlt : k < s.size
        · have hcell := hcells k hlt
          clear hcells
          rcases (show (97 ≤ (s[k].toNat : Int) ∧ (s[k].toNat : Int) ≤ 122) ∨ (48 ≤ (s[k].toNat : Int) ∧ (s[k].toNat : Int) ≤ 57) ∨ (s[k].toNat : Int) < 48 ∨ (57 < (s[k].toNat : Int) ∧ (s[k].toNat : Int) < 97) ∨ 122 < (s[k].toNat : Int) from by omega) with ⟨a, b⟩ | ⟨a, b⟩ | a | ⟨a, b⟩ | a
          · have H := Lib.hid (all_succ hall (good_letter (h := hlt) a b))
            clear hall
            go_wp2
            go_round
            case rel => exact ⟨k + 1, by omega, by go_num, H.out⟩
            case measure => simp [intOf]; omega
          · by_cases hk0 : 0 < k
            · have H := Lib.hid (all_succ hall (good_digit (h := hlt) hk0 a b))
              have e0 : ((k : Int) == 0) = false := by rw [beq_eq_false_iff_ne]; omega
              clear hall
              go_wp2
              go_round
              case rel => exact ⟨k + 1, by omega, by go_num, H.out⟩
              case measure => simp [intOf]; omega
            · obtain rfl : k = 0 := by omega
              have H := Lib.hid (nameB_false (bad_first (h := hlt) (by unfold letterP; omega)))
              clear hall
              go_wp2
              go_ret
              exact ⟨ret_bool H.out.symm, hbel⟩
          · have H := Lib.hid (nameB_false (bad_other (h := hlt) (by unfold letterP; omega) (by unfold digitP; omega)))
            clear hall
            by_cases hk0 : 0 < k
            · have e0 : ((k : Int) == 0) = false := by rw [beq_eq_false_iff_ne]; omega
              go_wp2
              go_ret
              exact ⟨ret_bool H.out.symm, hbel⟩
            · have e0 : ((k : Int) == 0) = true := by rw [beq_iff_eq]; omega
              go_wp2
              go_ret
              exact ⟨ret_bool H.out.symm, hbel⟩
          · have H := Lib.hid (nameB_false (bad_other (h := hlt) (by unfold letterP; omega) (by unfold digitP; omega)))
            have d2 : decide ((s[k].toNat : Int) ≤ 57) = false := decide_eq_false (by omega)
            clear hall
            by_cases hk0 : 0 < k
            · have e0 : ((k : Int) == 0) = false := by rw [beq_eq_false_iff_ne]; omega
              go_wp2
              go_ret
              exact ⟨ret_bool H.out.symm, hbel⟩
            · have e0 : ((k : Int) == 0) = true := by rw [beq_iff_eq]; omega
              go_wp2
              go_ret
              exact ⟨ret_bool H.out.symm, hbel⟩
          · have H := Lib.hid (nameB_false (bad_other (h := hlt) (by unfold letterP; omega) (by unfold digitP; omega)))
            have d1 : decide ((s[k].toNat : Int) ≤ 122) = false := decide_eq_false (by omega)
            have d2 : decide ((s[k].toNat : Int) ≤ 57) = false := decide_eq_false (by omega)
            clear hall
            by_cases hk0 : 0 < k
            · have e0 : ((k : Int) == 0) = false := by rw [beq_eq_false_iff_ne]; omega
              go_wp2
              go_ret
              exact ⟨ret_bool H.out.symm, hbel⟩
            · have e0 : ((k : Int) == 0) = true := by rw [beq_iff_eq]; omega
              go_wp2
              go_ret
              exact ⟨ret_bool H.out.symm, hbel⟩
        · have H := Lib.hid (nameB_true (s := s) ⟨h1, h2, fun j hj => hall j (by omega)⟩)
          clear hcells hall
          go_wp2
          go_ret
          exact ⟨ret_bool H.out.symm, hbel⟩
    · have H := Lib.hid (nameB_false (s := s) (fun hn => h2 hn.2.1))
      go_enter Tryd.func28, Tryd.ntmps28
      go_wp2
      go_ret
      exact ⟨ret_bool H.out.symm, Below.refl _ _⟩
  · have H := Lib.hid (nameB_false (s := s) (fun hn => h1 hn.1))
    go_enter Tryd.func28, Tryd.ntmps28
    go_wp2
    go_ret
    exact ⟨ret_bool H.out.symm, Below.refl _ _⟩

end Go.Proofs.YtlcppfoedijccaaDoor
