/- Texts of a frequency and of an interval are read back. Plain mathematics. -/
import Derived.Test.YtkbfmjnekeipcaaDoorStep
import Derived.Test.YtkbfmjnekeipcaaDoorCtT
namespace Go.Proofs.YtkbfmjnekeipcaaDoor

theorem app_size (a b : ByteArray) : (a ++ b).size = a.size + b.size := ByteArray.size_append
theorem dec_small {n : Int} (h0 : -1000000000000000000 ≤ n) (h1 : n ≤ 1000000000000000000) : (decS n).size ≤ 20 := decS_size (by omega)
theorem hz_back {g : Int} (hg : inB g 10000 20000000 = true) : (hertzS g).size ≤ 1048576 ∧ hzV (hertzS g) = g ∧ hzB (hertzS g) = true := by
  have e : hertzS g = hertzT g := by unfold hertzS; rw [if_pos hg]
  obtain ⟨y1, y2⟩ := hz_yes (s := hertzS g) ⟨hg, e.symm⟩
  refine ⟨?_, y2, y1⟩
  have hb := inB_iff.1 hg
  have hq : g.tdiv 1000 = g / 1000 := Int.tdiv_eq_ediv_of_nonneg (by omega)
  rw [e]
  unfold hertzT
  rw [app_size, app_size, pad3_size (by omega) (by omega)]
  have := dec_small (n := g.tdiv 1000) (by omega) (by omega)
  have e1 : (⟨#[46]⟩ : ByteArray).size = 1 := rfl
  omega
theorem ct_back {t : Int} (ht : inB t (-120000) 120000 = true) : (centsS t).size ≤ 1048576 ∧ ctV (centsS t) = t ∧ ctB (centsS t) = true := by
  obtain ⟨y1, y2⟩ := ct_yes (s := centsS t) ⟨ht, rfl⟩
  refine ⟨?_, y1, y2⟩
  have hb := inB_iff.1 ht
  have key : ∀ (sg : ByteArray) (m : Int), sg.size = 1 → 0 ≤ m → m ≤ 120000 → (centsT sg m).size ≤ 1048576 := by
    intro sg m h1 h2 h3
    have hq : m.tdiv 10 = m / 10 := Int.tdiv_eq_ediv_of_nonneg h2
    unfold centsT
    rw [app_size, app_size, app_size]
    have := dec_small (n := m.tdiv 10) (by omega) (by omega)
    have := dec_small (n := m % 10) (by omega) (by omega)
    have e1 : (⟨#[46]⟩ : ByteArray).size = 1 := rfl
    omega
  unfold centsS
  rw [if_pos ht]
  split
  · exact key _ _ rfl (by omega) (by omega)
  · exact key _ _ rfl (by omega) (by omega)
end Go.Proofs.YtkbfmjnekeipcaaDoor
