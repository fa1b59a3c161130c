/- Contracts of the note with a name. -/
import Derived.Test.YtlcppfoedijccaaDoorNoteT
namespace Go.Proofs.YtlcppfoedijccaaDoor
open Go.ChangeShapes Go.WideShapes Go.ChangeAt Go.RowKit
set_option maxRecDepth 100000

theorem note_least (s : ByteArray) : ∃ K : Nat, K ≤ 128 ∧ (∀ j : Nat, j < K → noteT (j : Int) ≠ s) ∧ (K < 128 → noteT (K : Int) = s) := by
  have key : ∀ n : Nat, n ≤ 128 → (∃ K : Nat, K < n ∧ (∀ j : Nat, j < K → noteT (j : Int) ≠ s) ∧ noteT (K : Int) = s) ∨ (∀ j : Nat, j < n → noteT (j : Int) ≠ s) := by
    intro n
    induction n with
    | zero => intro _; right; intro j hj; omega
    | succ n ih =>
      intro hn
      rcases ih (by omega) with ⟨K, h1, h2, h3⟩ | h
      · exact .inl ⟨K, by omega, h2, h3⟩
      · by_cases hs : noteT (n : Int) = s
        · exact .inl ⟨n, by omega, h, hs⟩
        · right
          intro j hj
          rcases Nat.lt_or_ge j n with hlt | hge
          · exact h j hlt
          · rw [show j = n by omega]; exact hs
  rcases key 128 (Nat.le_refl _) with ⟨K, h1, h2, h3⟩ | h
  · exact ⟨K, by omega, h2, fun _ => h3⟩
  · exact ⟨128, Nat.le_refl _, h, fun h0 => by omega⟩
def nnV (K : Nat) : Int := if K < 128 then K else 0
def nnB' (K : Nat) : Bool := decide (K < 128)

theorem noteN_ok (n : Int) (h : inB n 0 127 = true) (w : World) (ht : Tab w) : Calls Tryd.prog 8 #[.int .i64 n] w fun e w' => e = .returned (.string (noteT n)) ∧ Below w.heap.size w w' := by
  have := noteN_any n w ht
  unfold noteS at this
  rw [if_pos h] at this
  exact this
set_option maxHeartbeats 4000000 in
theorem noteNm_impl (s : ByteArray) (K : Nat) (w : World) (ht : Tab w) (hK : K ≤ 128) (hne : ∀ j : Nat, j < K → noteT (j : Int) ≠ s) (he : K < 128 → noteT (K : Int) = s) :
    Calls Tryd.prog 7 #[.string s] w fun e w' => e = .returned (.tuple #[.int .i64 (nnV K), .bool (nnB' K)]) ∧ Below w.heap.size w w' := by
  have HTab := Lib.hid ht
  clear ht
  have HNE := Lib.hid hne
  have HE := Lib.hid he
  clear hne he
  go_enter Tryd.func7, Tryd.ntmps7
  go_wp2
  go_loopw [4, 5] (fun _ i wr => ∃ j : Nat, j ≤ K ∧ i = .int .i64 j ∧ Below w.heap.size w wr) (fun _ i _ => 128 - (intOf i).toNat)
  case atStart => exact ⟨0, by omega, rfl, Below.refl _ _⟩
  case round =>
    obtain ⟨j, hj, rfl, hbr⟩ := hrel
    have HBR := Lib.hid hbr
    by_cases h4 : j < 128
    · have hjI : (j : Int) < 128 := by omega
      have hj0 : (0 : Int) ≤ (j : Int) := Int.natCast_nonneg _
      have hin : inB (j : Int) 0 127 = true := inB_iff.2 ⟨by omega, by omega⟩
      have HL := Lib.hid (noteN_ok (j : Int) hin wr (HTab.out.below HBR.out))
      clear hbr
      by_cases hjk : j < K
      · have hd := str_ne (HNE.out j hjk)
        generalize noteT (j : Int) = t at *
        go_wp2_with fail
        refine HL.out.mono ?_
        rintro e w1 ⟨rfl, hb1⟩
        have HB1 := Lib.hid (below_two HBR.out hb1 (Nat.le_refl _))
        clear hb1
        go_wp2
        go_roundw
        case rel => exact ⟨j + 1, by omega, by go_num, HB1.out⟩
        case measure => simp [intOf]; omega
      · obtain rfl : j = K := by omega
        rw [HE.out h4] at HL
        have HV : Hid (nnV j = (j : Int) ∧ nnB' j = true) := by show _ ∧ _; simp [nnV, nnB', h4]
        go_wp2_with fail
        refine HL.out.mono ?_
        rintro e w1 ⟨rfl, hb1⟩
        have HB1 := Lib.hid (below_two HBR.out hb1 (Nat.le_refl _))
        clear hb1
        go_wp2
        go_ret2
        exact ⟨ret_ib HV.out.1.symm HV.out.2.symm, HB1.out⟩
    · obtain rfl : j = K := by omega
      have hjI : ¬ (j : Int) < 128 := by omega
      have HV : Hid (nnV j = 0 ∧ nnB' j = false) := by show _ ∧ _; simp [nnV, nnB', h4]
      go_wp2
      go_ret2
      exact ⟨ret_ib HV.out.1.symm HV.out.2.symm, HBR.out⟩
end Go.Proofs.YtlcppfoedijccaaDoor
