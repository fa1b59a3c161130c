/- Intervals add up; a raised note is its own nearest note; a temperament's text is read back. Plain mathematics. -/
import Derived.Test.YtkbfmjnekeipcaaGreatDoorNearN
import Derived.Test.YtkbfmjnekeipcaaGreatDoorNoteF
import Derived.Test.YtkbfmjnekeipcaaGreatDoorStep
import Derived.Test.YtkbfmjnekeipcaaGreatDoorTmpP
namespace Go.Proofs.YtkbfmjnekeipcaaGreatDoor
open Go.ChangeShapes Go.WideShapes Go.ChangeAt Go.RowKit
set_option maxRecDepth 100000

theorem interval_add (zs : List Int) (x y z : Int) : intervalV zs x y + intervalV zs y z = intervalV zs x z := by unfold intervalV; omega
theorem off_small {zs : List Int} (h : ∀ z ∈ zs, -300 ≤ z ∧ z ≤ 300) (k : Nat) : -300 ≤ zs.getD k 0 ∧ zs.getD k 0 ≤ 300 := by
  rw [List.getD_eq_getElem?_getD]
  cases hz : zs[k]? with
  | none => simp
  | some z => exact h z (List.mem_of_getElem? hz)
theorem dev_far {zs : List Int} (h : ∀ z ∈ zs, -300 ≤ z ∧ z ≤ 300) {p f x k : Int} (hx : 0 ≤ devV zs p x f ∧ devV zs p x f ≤ 2) (hk : k ≠ x) : absI (devV zs p x f) < absI (devV zs p k f) := by
  have o1 := off_small h (k % 12).toNat
  have o2 := off_small h (x % 12).toNat
  unfold devV intervalV at hx ⊢
  generalize zs.getD (k % 12).toNat 0 = a at *
  generalize zs.getD (x % 12).toNat 0 = b at *
  generalize zs.getD ((69 : Int) % 12).toNat 0 = c at *
  generalize tenthsV f = F at *
  generalize tenthsV p = P at *
  rcases absI_cases (F - P - (1000 * (x - 69) + b - c)) with ⟨_, e⟩ | ⟨_, e⟩ <;> rcases absI_cases (F - P - (1000 * (k - 69) + a - c)) with ⟨_, e'⟩ | ⟨_, e'⟩ <;> omega
theorem near_is {d : Int → Int} {x : Nat} (h : ∀ k : Int, k ≠ (x : Int) → absI (d x) < absI (d k)) : ∀ n, x < n → bestU d n = x := by
  intro n
  induction n with
  | zero => intro hn; omega
  | succ k ih =>
    intro hn
    rcases Nat.lt_or_eq_of_le (Nat.le_of_lt_succ hn) with hlt | rfl
    · have hm := ih hlt
      have h1 := h k (by omega)
      have := bestU_no (d := d) (k := k) (m := (x : Int)) (by rw [hm]) (by omega)
      omega
    · by_cases h0 : x = 0
      · have := bestU_first (d := d) h0
        omega
      · have hb := bestU_lt d (n := x) x (Nat.le_refl _) (by omega)
        have h1 := h (bestU d x : Nat) (by omega)
        have := bestU_yes (d := d) (k := x) (m := (bestU d x : Nat)) rfl h1
        omega
theorem tmp_back {s : ByteArray} {zs : List Int} (h : tempB s zs = true) : (tempS s zs).size ≤ 1048576 ∧ tmN (tempS s zs) = s ∧ tmZ (tempS s zs) = zs ∧ tmOK (tempS s zs) = true := by
  have e : tempS s zs = tempT s zs := by unfold tempS; rw [if_pos h]
  refine ⟨?_, tmp_yes (s := tempS s zs) ⟨h, e.symm⟩⟩
  obtain ⟨v1, v2, _⟩ := temp_vals h
  have h1 := temp_name h
  have h2 := listT_size v1 v2
  rw [e]
  unfold tempT
  rw [ByteArray.size_append, ByteArray.size_append]
  have e1 : (⟨#[32]⟩ : ByteArray).size = 1 := rfl
  omega
/-- What a note's frequency is: a frequency at its interval, or none. -/
theorem freq_law {s : ByteArray} {zs : List Int} {p k : Int} (hT : tempB s zs = true) :
    (nfC s zs p k = 2) ∨ (nfC s zs p k = 0 ∧ inB p 10000 20000000 = true ∧ inB k 0 127 = true ∧ inB (nfV s zs p k) 10000 20000000 = true ∧ 0 ≤ devV zs p k (nfV s zs p k) ∧ devV zs p k (nfV s zs p k) ≤ 2) := by
  unfold nfC nfV
  rw [if_pos hT, hT, Bool.true_and]
  by_cases hc : (nfB p k && raiseB p (intervalV zs 69 k)) = true
  · right
    rw [if_pos hc, if_pos hc]
    simp only [Bool.and_eq_true] at hc
    obtain ⟨hn, hr⟩ := hc
    unfold nfB at hn
    simp only [Bool.and_eq_true] at hn
    obtain ⟨r1, r2, r3⟩ := raiseB_yes hr
    have hs := raise_step r2 r3 rfl
    have hcn := raise_cents r2 r3 rfl
    refine ⟨rfl, hn.1, hn.2, inB_true hs.1 hs.2.1, ?_, ?_⟩ <;> unfold devV <;> omega
  · left
    rw [if_neg hc]
end Go.Proofs.YtkbfmjnekeipcaaGreatDoor
