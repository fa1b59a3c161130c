/- Slices of rings: how they read; contracts of the law's copy, comparison and measure of profiles. -/
import Derived.Test.YtdpahmkcipfdaaaOwn
import Derived.Test.YtdpahmkcipfdaaaRing
import Derived.Laws.Rows
namespace Go.Proofs.Ytdpahmkcipfdaaa
open Go.ChangeShapes Go.WideShapes Go.ChangeAt Go.RowKit
set_option maxRecDepth 100000

abbrev R3 := Int × Int × Int
/-- The slice (A, n) holds these rings. -/
def RingsAt (w : World) (A : Option Addr) (n : Nat) (rs : List R3) : Prop :=
  rs.length = n ∧ (0 < n → ∃ b off, A = some ⟨b, off, none⟩ ∧ b < w.heap.size ∧ ∀ k x y z, rs[k]? = some (x, y, z) →
    w.cell? ⟨b, off + k * 3, none⟩ = some (.int .i64 x) ∧ w.cell? ⟨b, off + k * 3 + 1, none⟩ = some (.int .i64 y) ∧ w.cell? ⟨b, off + k * 3 + 2, none⟩ = some (.int .i64 z))
section
variable {w w' : World} {A : Option Addr} {n : Nat} {rs : List R3}
theorem RingsAt.below (h : RingsAt w A n rs) (hb : Below w.heap.size w w') : RingsAt w' A n rs :=
  ⟨h.1, fun hn => by
    obtain ⟨b, off, e, hlt, hc⟩ := h.2 hn
    refine ⟨b, off, e, Nat.lt_of_lt_of_le hlt hb.size, fun k x y z hk => ?_⟩
    obtain ⟨h1, h2, h3⟩ := hc k x y z hk
    exact ⟨(hb.cell (p := ⟨b, off + k * 3, none⟩) hlt).trans h1, (hb.cell (p := ⟨b, off + k * 3 + 1, none⟩) hlt).trans h2, (hb.cell (p := ⟨b, off + k * 3 + 2, none⟩) hlt).trans h3⟩⟩
theorem RingsAt.alloc (h : RingsAt w A n rs) (o : Obj) : RingsAt (w.alloc o) A n rs := h.below ((Below.refl _ _).alloc (Nat.le_refl _) o)
theorem RingsAt.nil : RingsAt w A 0 [] := ⟨rfl, fun h => absurd h (by omega)⟩
theorem RingsAt.at_ (h : RingsAt w A n rs) {k : Nat} (hk : k < n) : ∃ b off x y z, A = some ⟨b, off, none⟩ ∧ b < w.heap.size ∧ rs[k]? = some (x, y, z) ∧
    w.cell? ⟨b, off + k * 3, none⟩ = some (.int .i64 x) ∧ w.cell? ⟨b, off + k * 3 + 1, none⟩ = some (.int .i64 y) ∧ w.cell? ⟨b, off + k * 3 + 2, none⟩ = some (.int .i64 z) := by
  obtain ⟨b, off, e, hlt, hc⟩ := h.2 (by omega)
  have hl := h.1
  obtain ⟨⟨x, y, z⟩, hr⟩ : ∃ r, rs[k]? = some r := ⟨_, List.getElem?_eq_getElem (by omega)⟩
  obtain ⟨h1, h2, h3⟩ := hc k x y z hr
  exact ⟨b, off, x, y, z, e, hlt, hr, h1, h2, h3⟩
end
/-- The cells of some rings. -/
def flat : List R3 → List Value
  | [] => []
  | (x, y, z) :: rs => .int .i64 x :: .int .i64 y :: .int .i64 z :: flat rs
theorem flat_len : ∀ rs : List R3, (flat rs).length = rs.length * 3
  | [] => rfl
  | (x, y, z) :: rs => by
    simp only [flat, List.length_cons, flat_len rs]
    omega
theorem flat_get : ∀ (rs : List R3) (k : Nat) (x y z : Int), rs[k]? = some (x, y, z) → (flat rs)[k * 3]? = some (.int .i64 x) ∧ (flat rs)[k * 3 + 1]? = some (.int .i64 y) ∧ (flat rs)[k * 3 + 2]? = some (.int .i64 z)
  | [], k, x, y, z, h => by simp at h
  | (a, b, c) :: rs, 0, x, y, z, h => by
    simp only [List.getElem?_cons_zero, Option.some.injEq, Prod.mk.injEq] at h
    obtain ⟨rfl, rfl, rfl⟩ := h
    exact ⟨rfl, rfl, rfl⟩
  | (a, b, c) :: rs, k + 1, x, y, z, h => by
    have ih := flat_get rs k x y z (by simpa using h)
    have e1 : (k + 1) * 3 = k * 3 + 3 := by omega
    rw [e1]
    exact ih
theorem RingsAt.of_own {w : World} {base : Nat} {e : TypeId} {A : Option Addr} {n c : Nat} {rs : List R3} (h : w.ownsRow base e 3 (.slice A n c) n (flat rs)) : RingsAt w A n rs := by
  have hl := h.1
  rw [flat_len] at hl
  refine ⟨by omega, fun hn => ?_⟩
  have h0 := h
  rcases h.2 with ⟨_, h1⟩ | ⟨g, cap, cur, hv, hg, hh, hnc, hcm, hcs, htake⟩
  · omega
  · simp only [Value.slice.injEq] at hv
    obtain ⟨rfl, _, rfl⟩ := hv
    refine ⟨g, 0, rfl, (h0.lt g rfl).2, fun k x y z hk => ?_⟩
    obtain ⟨f1, f2, f3⟩ := flat_get rs k x y z hk
    have hk3 : k < rs.length := (List.getElem?_eq_some_iff.1 hk).1
    rw [Nat.zero_add, h0.cellAt (k * 3) (by omega), h0.cellAt (k * 3 + 1) (by omega), h0.cellAt (k * 3 + 2) (by omega)]
    exact ⟨f1, f2, f3⟩
theorem row_keep {w w' : World} {b : Nat} {e : TypeId} {size n : Nat} {v : Value} {xs : List Value} (h : w.ownsRow b e size v n xs) (hb : Below w.heap.size w w') : w'.ownsRow b e size v n xs := by
  have hlt := h.lt
  refine ⟨h.1, ?_⟩
  rcases h.2 with h1 | ⟨g, cap, cur, rfl, hg, hh, r⟩
  · exact .inl h1
  · exact .inr ⟨g, cap, cur, rfl, hg, (hb.block g (hlt g rfl).2).trans hh, r⟩

theorem szRings_ok (A : Option Addr) (n c L : Nat) (w : World) (h : n ≤ L) (hL : L ≤ 1048576) : Calls Try.prog 66 #[.slice A n c, .int .i64 L] w fun e w' => e = .returned (.int .i64 ((L - n : Nat) : Int)) ∧ w = w' := by
  have e : ((L - n : Nat) : Int) = (L : Int) - n := by omega
  rw [e]
  go_enter Try.func66, Try.ntmps66
  go_wp2
  go_ret
  exact ⟨rfl, rfl⟩
theorem szRings_no (A : Option Addr) (n c L : Nat) (w : World) (h : ¬ n ≤ L) (hL : L ≤ 1048576) (hn : n ≤ 9223372036854775807) : Calls Try.prog 66 #[.slice A n c, .int .i64 L] w fun e w' => e = .returned (.int .i64 (-1)) ∧ w = w' := by
  go_enter Try.func66, Try.ntmps66
  go_wp2
  go_ret
  exact ⟨rfl, rfl⟩
theorem szP_ok (s : ByteArray) (A : Option Addr) (n c L : Nat) (l : Int) (w : World) (hl : l = L) (h : s.size + n ≤ L) (hL : L ≤ 1048576) :
    Calls Try.prog 34 #[.agg #[.string s, .slice A n c], .int .i64 l] w fun e w' => ∃ r : Nat, r = L - s.size - n ∧ e = .returned (.int .i64 (r : Int)) ∧ Below w.heap.size w w' := by
  subst hl
  have e : (L : Int) - s.size = ((L - s.size : Nat) : Int) := by omega
  have hs : ¬ ((L - s.size : Nat) : Int) < 0 := by omega
  have hs2 : ¬ ((L - s.size - n : Nat) : Int) < 0 := by omega
  have H := Lib.hid (fun w1 => szRings_ok A n c (L - s.size) w1 (by omega) (by omega))
  go_enter Try.func34, Try.ntmps34
  go_wp2_with fail
  refine (H.out _).mono ?_
  rintro e w' ⟨rfl, rfl⟩
  go_wp2
  go_ret
  exact ⟨_, rfl, rfl, (Below.refl _ _).alloc (Nat.le_refl _) _⟩
theorem szP_no (s : ByteArray) (A : Option Addr) (n c L : Nat) (l : Int) (w : World) (hl : l = L) (h : ¬ s.size + n ≤ L) (hL : L ≤ 1048576) (hs : s.size ≤ maxLen) (hn : n ≤ maxLen) :
    Calls Try.prog 34 #[.agg #[.string s, .slice A n c], .int .i64 l] w fun e w' => e = .returned (.int .i64 (-1)) ∧ Below w.heap.size w w' := by
  subst hl
  unfold maxLen at hs hn
  by_cases h1 : s.size ≤ L
  · have e : (L : Int) - s.size = ((L - s.size : Nat) : Int) := by omega
    have hs : ¬ ((L - s.size : Nat) : Int) < 0 := by omega
    have H := Lib.hid (fun w1 => szRings_no A n c (L - s.size) w1 (by omega) (by omega) (by omega))
    go_enter Try.func34, Try.ntmps34
    go_wp2_with fail
    refine (H.out _).mono ?_
    rintro e w' ⟨rfl, rfl⟩
    go_wp2
    go_ret
    exact ⟨rfl, (Below.refl _ _).alloc (Nat.le_refl _) _⟩
  · go_enter Try.func34, Try.ntmps34
    go_wp2
    go_ret
    exact ⟨rfl, (Below.refl _ _).alloc (Nat.le_refl _) _⟩
theorem infoRing : (Try.prog.info? 79).map (fun i => (i.zero, i.size, i.bytes)) = some (some (.agg #[.int .i64 0, .int .i64 0, .int .i64 0]), 3, 24) := by kernel_rfl
/-- A new row of these rings. -/
def NewRings (w : World) (n : Nat) (rs : List R3) (e : Ending) (w' : World) : Prop :=
  ∃ g c, e = .returned (.slice (some ⟨g, 0, none⟩) n c) ∧ w.heap.size ≤ g ∧ w'.ownsRow w.heap.size 79 3 (.slice (some ⟨g, 0, none⟩) n c) n (flat rs) ∧ Below w.heap.size w w'
theorem flat_upto {rs : List R3} {xs : List Value} {n : Nat} (hl : rs.length = n) (hx : xs.length = n * 3) (hall : ∀ j, j < n * 3 → xs[j]? = (flat rs)[j]?) : xs = flat rs := by
  apply List.ext_getElem?
  intro j
  by_cases h : j < n * 3
  · exact hall j h
  · rw [List.getElem?_eq_none (by omega), List.getElem?_eq_none (by rw [flat_len]; omega)]
theorem flat_set {rs : List R3} {xs : List Value} {n k : Nat} {x y z : Int} (hl : rs.length = n) (hx : xs.length = n * 3) (hall : ∀ j, j < k * 3 → xs[j]? = (flat rs)[j]?) (hr : rs[k]? = some (x, y, z)) :
    ∀ j, j < (k + 1) * 3 → (((xs.set (k * 3) (.int .i64 x)).set (k * 3 + 1) (.int .i64 y)).set (k * 3 + 2) (.int .i64 z))[j]? = (flat rs)[j]? := by
  intro j hj
  have hk : k < n := by rw [← hl]; exact (List.getElem?_eq_some_iff.1 hr).1
  obtain ⟨f1, f2, f3⟩ := flat_get rs k x y z hr
  by_cases h2 : j = k * 3 + 2
  · subst h2
    rw [List.getElem?_set_self (by simp; omega), f3]
  rw [List.getElem?_set_ne (by omega)]
  by_cases h1 : j = k * 3 + 1
  · subst h1
    rw [List.getElem?_set_self (by simp; omega), f2]
  rw [List.getElem?_set_ne (by omega)]
  by_cases h0 : j = k * 3
  · subst h0
    rw [List.getElem?_set_self (by omega), f1]
  rw [List.getElem?_set_ne (by omega)]
  exact hall j (by omega)
set_option maxHeartbeats 4000000 in
theorem toRings_any (A : Option Addr) (n c : Nat) (rs : List R3) (w : World) (h : RingsAt w A n rs) (hn : n ≤ 1048576) :
    Calls Try.prog 68 #[.slice A n c] w fun e w' => NewRings w n rs e w' := by
  have hl := h.1
  obtain ⟨i0, hi, hz0, hz1, hz2⟩ := info_parts infoRing
  have hz2' := Lib.hid hz2
  go_enter Try.func68, Try.ntmps68
  go_wp2_with (at_make; refine wpList_make_full _ rfl _ _ 49 rfl w.heap.size 79 i0 (.agg #[.int .i64 0, .int .i64 0, .int .i64 0]) 3 Try.underlying49 hi hz0 hz1 .i64 .i64 _ _ n rfl rfl rfl rfl (by rw [hz2'.out]; omega) (by unfold maxLen; omega) (Nat.le_refl _) ?_; intro w1 hown hgr)
  have hb1 : Below w.heap.size w w1 := (Below.refl _ _).grown hgr (Nat.le_refl _) (by intro k hk; cases hk)
  have hx1 := hown.1
  go_loopw [4] (fun i wr => ∃ (k : Nat) (xs : List Value), k ≤ n ∧ i = .int .i64 k ∧ xs.length = n * 3 ∧ wr.ownsRow w.heap.size 79 3 (.slice (some ⟨w.heap.size, 0, none⟩) n n) n xs ∧ Below w.heap.size w wr ∧ (∀ j, j < k * 3 → xs[j]? = (flat rs)[j]?)) (fun i _ => n - (intOf i).toNat)
  case atStart => exact ⟨0, _, Nat.zero_le _, rfl, hx1, hown, hb1, fun j hj => by omega⟩
  case round =>
    clear hown hgr hb1 hx1
    obtain ⟨k, xs, hk, rfl, hx, hown, hnx, hall⟩ := hrel
    by_cases hlt : k < n
    · obtain ⟨b, off, x, y, z, rfl, hb, hr, c0, c1, c2⟩ := h.at_ hlt
      have d0 := (hnx.cell (p := ⟨b, off + k * 3, none⟩) hb).trans c0
      have d1 := (hnx.cell (p := ⟨b, off + k * 3 + 1, none⟩) hb).trans c1
      have d2 := (hnx.cell (p := ⟨b, off + k * 3 + 2, none⟩) hb).trans c2
      have HA := Lib.hid (flat_set hl hx hall hr)
      have HX := Lib.hid hx
      have HO := Lib.hid hown
      have HN := Lib.hid hnx
      have hltI : (k : Int) < (n : Int) := by omega
      have hxx := hx
      clear hall hr c0 c1 c2 hown hx
      go_wp2_with fail
      refine (toRing_any x y z _).mono ?_
      rintro e w2 ⟨rfl, hb2⟩
      have o2 := row_keep HO.out hb2
      have q0 := o2.cellAt (k * 3) (by omega)
      have q1 := o2.cellAt (k * 3 + 1) (by omega)
      have q2 := o2.cellAt (k * 3 + 2) (by omega)
      have v0 : xs[k * 3]? = some (xs[k * 3]'(by omega)) := List.getElem?_eq_getElem (by omega)
      have v1 : xs[k * 3 + 1]? = some (xs[k * 3 + 1]'(by omega)) := List.getElem?_eq_getElem (by omega)
      have v2 : xs[k * 3 + 2]? = some (xs[k * 3 + 2]'(by omega)) := List.getElem?_eq_getElem (by omega)
      rw [v0] at q0
      rw [v1] at q1
      rw [v2] at q2
      have z0 := o2.frozenAt (k * 3)
      have z1 := o2.frozenAt (k * 3 + 1)
      have z2 := o2.frozenAt (k * 3 + 2)
      have s1 := o2.stored (k * 3) (.int .i64 x)
      have s2 := s1.1.stored (k * 3 + 1) (.int .i64 y)
      have s3 := s2.1.stored (k * 3 + 2) (.int .i64 z)
      have S1 := Lib.hid s1.2
      have S2 := Lib.hid s2.2
      have S3 := Lib.hid s3
      have HB2 := Lib.hid hb2
      generalize xs[k * 3]'(by omega) = u0 at q0
      generalize xs[k * 3 + 1]'(by omega) = u1 at q1
      generalize xs[k * 3 + 2]'(by omega) = u2 at q2
      clear v0 v1 v2 s1 s2 s3 o2 hb2 d0 d1 d2 hxx
      go_wp2
      go_roundw
      case rel =>
        have hB := HN.out.trans (HB2.out.mono HN.out.size)
        have g1 := hB.grown S1.out hB.size (fun g hg => by cases hg; exact Nat.le_refl _)
        have g2 := g1.grown S2.out g1.size (fun g hg => by cases hg; exact Nat.le_refl _)
        have g3 := g2.grown S3.out.2 g2.size (fun g hg => by cases hg; exact Nat.le_refl _)
        exact ⟨k + 1, _, by omega, by go_num, by rw [List.length_set, List.length_set, List.length_set]; exact HX.out, S3.out.1, g3, HA.out⟩
      case measure => simp [intOf]; omega
    · obtain rfl : k = n := by omega
      have H := Lib.hid (flat_upto hl hx hall)
      have HO := Lib.hid hown
      clear hall hx hown
      go_wp2
      go_ret
      exact ⟨w.heap.size, _, rfl, Nat.le_refl _, by rw [← H.out]; exact HO.out, hnx⟩
end Go.Proofs.Ytdpahmkcipfdaaa
