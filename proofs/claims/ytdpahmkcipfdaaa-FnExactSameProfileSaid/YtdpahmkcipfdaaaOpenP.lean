/- A profile as an argument opened: its name and its rings. -/
import Derived.Test.YtdpahmkcipfdaaaOpen
import Derived.Test.YtdpahmkcipfdaaaRings
namespace Go.Proofs.Ytdpahmkcipfdaaa
open Go.Joins Go.ChangeShapes Go.WideShapes Go.RowKit Go.Deep
set_option maxRecDepth 100000
section
variable {H : Type} {enc : TypeId × Value → H} {w : World} {base b0 : Nat} {spare : Nat → Bool} {held : Bool}
theorem cellsProf : Try.prog.cellsOf 46 = 2 := by kernel_rfl
/-- Three cells that read as a ring are three numbers. -/
theorem ring_cells {fuel : Nat} {cs : List Value} {x : DataW H × List MemPlace} (h : DataW.trod enc Try.prog w base spare held fuel 97 cs = some x) : ∃ a b c : Int, cs = [.int .i64 a, .int .i64 b, .int .i64 c] := by
  obtain ⟨ys, n, _, _, hlen, hyl, hf⟩ := DataW.trod_struct Try.underlying97 h
  rw [cellsRing] at hlen
  match cs, hlen, ys, hyl with
  | [v0, v1, v2], _, [y0, y1, y2], _ =>
    have h0 := hf 0 _ rfl
    have h1 := hf 1 _ rfl
    have h2 := hf 2 _ rfl
    have hc : Try.prog.cellsOf 2 = 1 := cellsInt
    simp [hc] at h0 h1 h2
    obtain ⟨a, e0, _, _⟩ := DataW.trod_int Try.underlying2 h0
    obtain ⟨b, e1, _, _⟩ := DataW.trod_int Try.underlying2 h1
    obtain ⟨c, e2, _, _⟩ := DataW.trod_int Try.underlying2 h2
    simp only [List.cons.injEq, and_true] at e0 e1 e2
    subst e0 e1 e2
    exact ⟨a, b, c, rfl⟩
theorem open_profile {W : World} {r : Reach} {v : Value} {d : DataW H} {p : List MemPlace} (hv : Value.okWide Try.prog W r b0 46 v) (h : DataW.Trod enc Try.prog W 0 (fun _ => true) true 46 v d p)
    (hlt : ∀ x ∈ p, x.block < W.heap.size) : ∃ (s : ByteArray) (A : Option Addr) (n c : Nat) (rs : List R3), v = .agg #[.string s, .slice A n c] ∧ s.size ≤ maxLen ∧ RingsAt W A n rs ∧ n ≤ maxLen := by
  obtain ⟨v0, v1, y0, y1, n, rfl, rfl, rfl, h0, h1⟩ := open_agg2 Try.underlying46 (by kernel_rfl) cellsProf hv h
  obtain ⟨s, e0, e1, ws⟩ := DataW.trod_string Try.underlying9 h0
  simp only [List.cons.injEq, and_true] at e0
  subst e0
  rcases open_slice Try.underlying44 h1 with ⟨hcs, hx⟩ | ⟨a, len', cap', m, n', D, Pl, hcs, _, hl, hm, hmm, hx, hi⟩
  · simp only [List.cons.injEq, and_true] at hcs
    subst hcs
    exact ⟨s, none, 0, 0, [], rfl, ws, RingsAt.nil, Nat.zero_le _⟩
  · simp only [List.cons.injEq, and_true] at hcs
    subst hcs
    simp only [if_true] at hmm
    subst hmm
    rw [cellsRing] at hi hx
    have each : ∀ i, i < len' → ∃ r : R3, W.cell? (a.add (i * 3)) = some (.int .i64 r.1) ∧ W.cell? (a.add (i * 3 + 1)) = some (.int .i64 r.2.1) ∧ W.cell? (a.add (i * 3 + 2)) = some (.int .i64 r.2.2) := by
      intro i hil
      obtain ⟨cs, hc, ht⟩ := hi i (by omega)
      obtain ⟨x, y, z, rfl⟩ := ring_cells ht
      obtain ⟨_, _, hat⟩ := World.cells?_some hc
      have a0 := hat 0 (by omega)
      have a1 := hat 1 (by omega)
      have a2 := hat 2 (by omega)
      rw [Go.Deep.add_add] at a0 a1 a2
      exact ⟨(x, y, z), a0, a1, a2⟩
    obtain ⟨f, hf⟩ := choose_lt each
    obtain ⟨b, off, spot⟩ := a
    refine ⟨s, some ⟨b, off, spot⟩, len', m, (List.range len').map f, rfl, ws, ⟨by simp, fun hn => ?_⟩, by omega⟩
    have h00 := (hf 0 hn).1
    have hspot : spot = none := by simpa [Addr.add] using World.cell?_spot h00
    subst hspot
    refine ⟨b, off, rfl, ?_, fun k x y z hk => ?_⟩
    · refine hlt (.cell b off) ?_
      rw [hx]
      refine List.mem_append.2 (.inr (List.mem_append.2 (.inl (MemPlace.mem_row.2 ⟨0, by omega, by simp⟩))))
    · have hk2 : k < len' := by
        have := (List.getElem?_eq_some_iff.1 hk).1
        simpa using this
      rw [List.getElem?_map, List.getElem?_range hk2] at hk
      simp only [Option.map_some, Option.some.injEq] at hk
      obtain ⟨f0, f1, f2⟩ := hf k hk2
      rw [hk, add_plain] at f0 f1 f2
      rw [Nat.add_assoc, Nat.add_assoc]
      exact ⟨f0, f1, f2⟩
end
end Go.Proofs.Ytdpahmkcipfdaaa
