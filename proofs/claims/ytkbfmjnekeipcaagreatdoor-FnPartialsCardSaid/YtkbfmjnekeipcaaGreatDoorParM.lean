/- An ideal sound's deviations; a changed partial is changed alone; a sound's text is read back. Plain mathematics. -/
import Derived.Test.YtkbfmjnekeipcaaGreatDoorIdealS
import Derived.Test.YtkbfmjnekeipcaaGreatDoorWith
import Derived.Test.YtkbfmjnekeipcaaGreatDoorDev
import Derived.Test.YtkbfmjnekeipcaaGreatDoorStep
import Derived.Test.YtkbfmjnekeipcaaGreatDoorSndR
namespace Go.Proofs.YtkbfmjnekeipcaaGreatDoor
open Go.ChangeShapes Go.WideShapes Go.ChangeAt Go.RowKit
set_option maxRecDepth 100000

theorem rs_pair {f t : Int} (h : raiseB f t = true) : inB f 10000 20000000 = true ∧ inB (raiseV (goalV f t)) 10000 20000000 = true ∧ t ≤ tenthsV (raiseV (goalV f t)) - tenthsV f ∧ tenthsV (raiseV (goalV f t)) - tenthsV f ≤ t + 2 := by
  obtain ⟨h1, h2, h3⟩ := raiseB_yes h
  have hc := raise_cents h2 h3 rfl
  have hs := raise_step h2 h3 rfl
  exact ⟨h1, inB_true hs.1 hs.2.1, hc.1, hc.2⟩
theorem rs_at {fs ts : List Int} {n : Nat} (h : raisedB fs ts n = true) {j : Nat} (hj : j < n) : raiseB (fs.getD j 0) (ts.getD j 0) = true := by
  unfold raisedB at h
  rw [List.all_eq_true] at h
  exact h j (List.mem_range.2 hj)
theorem dev_one {x y t : Int} (h1 : t ≤ x - y) (h2 : x - y ≤ t + 2) : 0 ≤ x - y - t ∧ x - y - t ≤ 2 := by omega
theorem dev_law {s : Int} {fs ts : List Int} (hfs : [s, s, s, s, s] = fs) (hr : raisedB fs ts 5 = true) :
    ∀ (j : Nat) (z : Int), (devU s [rG fs ts 0, rG fs ts 1, rG fs ts 2, rG fs ts 3, rG fs ts 4] ts 5)[j]? = some z → 0 ≤ z ∧ z ≤ 2 := by
  intro j z hz
  have hj : j < 5 := by have := (List.getElem?_eq_some_iff.1 hz).1; rw [devU_len] at this; exact this
  subst hfs
  unfold devU at hz
  rw [List.getElem?_map, List.getElem?_range hj] at hz
  simp only [Option.map_some, Option.some.injEq] at hz
  have hp := rs_pair (rs_at hr hj)
  rw [← hz]
  rcases (by omega : j = 0 ∨ j = 1 ∨ j = 2 ∨ j = 3 ∨ j = 4) with rfl | rfl | rfl | rfl | rfl
  all_goals
    have h1 := hp.2.2.1
    have h2 := hp.2.2.2
    clear hp hz hr
    exact dev_one h1 h2
/-- The partial that was changed, and the others. -/
theorem upd_nth {a b c d e k f a' b' c' d' e' i : Int} (hu : upd5 a b c d e k f a' b' c' d' e') (hi : inB i 1 5 = true) : nth5 a' b' c' d' e' i = if i = k then f else nth5 a b c d e i := by
  unfold upd5 at hu
  rcases five_cases hi with rfl | rfl | rfl | rfl | rfl
  all_goals
    unfold nth5
    rcases hu with ⟨rfl, rfl, rfl, rfl, rfl, rfl⟩ | ⟨rfl, rfl, rfl, rfl, rfl, rfl⟩ | ⟨rfl, rfl, rfl, rfl, rfl, rfl⟩ | ⟨rfl, rfl, rfl, rfl, rfl, rfl⟩ | ⟨rfl, rfl, rfl, rfl, rfl, rfl⟩ <;> simp
theorem snd_back {a b c d e : Int} (h : sB a b c d e = true) : (sndS a b c d e).size ≤ 1048576 ∧ (sdF (sndS a b c d e) 0 = a ∧ sdF (sndS a b c d e) 1 = b ∧ sdF (sndS a b c d e) 2 = c ∧ sdF (sndS a b c d e) 3 = d ∧ sdF (sndS a b c d e) 4 = e) ∧ sdOK (sndS a b c d e) = true := by
  have e0 : sndS a b c d e = sndL [a, b, c, d, e] := by unfold sndS; rw [if_pos h]
  have hy := sd_yes (s := sndS a b c d e) ⟨h, e0.symm⟩
  refine ⟨?_, hy⟩
  have := sndL_size (zs := [a, b, c, d, e]) (k := 5) (five_get h) (Nat.le_refl _)
  rw [e0]
  exact Nat.le_trans this (by omega)
end Go.Proofs.YtkbfmjnekeipcaaGreatDoor
