/- What a raised sound's partials are, and that the worst deviation is the worst one. Plain mathematics. -/
import Derived.Test.YtajlgclodjgiiaaWorst
import Derived.Test.YtajlgclodjgiiaaShiftS
import Derived.Test.YtajlgclodjgiiaaPart
import Derived.Test.YtajlgclodjgiiaaStepO
namespace Go.Proofs.Ytajlgclodjgiiaa

theorem worst_max (zs : List Int) : ∀ k i, i < k → absI (zs.getD i 0) ≤ absI (zs.getD (worstN zs k) 0) := by
  intro k
  induction k with
  | zero => intro i hi; omega
  | succ k ih =>
    intro i hi
    have e : worstN zs (k + 1) = if absI (zs.getD (worstN zs k) 0) < absI (zs.getD k 0) then k else worstN zs k := rfl
    rw [e]
    rcases Nat.lt_or_eq_of_le (Nat.le_of_lt_succ hi) with hlt | rfl
    · have := ih i hlt
      split
      · omega
      · exact this
    · split
      · exact Int.le_refl _
      · omega
theorem raise_pair {f t : Int} (h : raiseB f t = true) : inB f 10000 20000000 = true ∧ inB (raiseV (goalV f t)) 10000 20000000 = true ∧ t ≤ tenthsV (raiseV (goalV f t)) - tenthsV f ∧ tenthsV (raiseV (goalV f t)) - tenthsV f ≤ t + 2 := by
  obtain ⟨h1, h2, h3⟩ := raiseB_yes h
  have hc := raise_cents h2 h3 rfl
  have hs := raise_step h2 h3 rfl
  exact ⟨h1, inB_true hs.1 hs.2.1, hc.1, hc.2⟩
theorem raised_at {fs ts : List Int} {n : Nat} (h : raisedB fs ts n = true) {j : Nat} (hj : j < n) : raiseB (fs.getD j 0) (ts.getD j 0) = true := by
  unfold raisedB at h
  rw [List.all_eq_true] at h
  exact h j (List.mem_range.2 hj)
theorem shift_law {a b c d e t k : Int} {fs ts : List Int} (hfs : [a, b, c, d, e] = fs) (hts : [t, t, t, t, t] = ts) (hr : raisedB fs ts 5 = true) (hk : inB k 1 5 = true) :
    inB (nth5 a b c d e k) 10000 20000000 = true ∧ inB (nth5 (rG fs ts 0) (rG fs ts 1) (rG fs ts 2) (rG fs ts 3) (rG fs ts 4) k) 10000 20000000 = true ∧
    t ≤ tenthsV (nth5 (rG fs ts 0) (rG fs ts 1) (rG fs ts 2) (rG fs ts 3) (rG fs ts 4) k) - tenthsV (nth5 a b c d e k) ∧ tenthsV (nth5 (rG fs ts 0) (rG fs ts 1) (rG fs ts 2) (rG fs ts 3) (rG fs ts 4) k) - tenthsV (nth5 a b c d e k) ≤ t + 2 := by
  subst hfs hts
  rcases five_cases hk with rfl | rfl | rfl | rfl | rfl
  · exact raise_pair (raised_at hr (show 0 < 5 by omega))
  · exact raise_pair (raised_at hr (show 1 < 5 by omega))
  · exact raise_pair (raised_at hr (show 2 < 5 by omega))
  · exact raise_pair (raised_at hr (show 3 < 5 by omega))
  · exact raise_pair (raised_at hr (show 4 < 5 by omega))
end Go.Proofs.Ytajlgclodjgiiaa
