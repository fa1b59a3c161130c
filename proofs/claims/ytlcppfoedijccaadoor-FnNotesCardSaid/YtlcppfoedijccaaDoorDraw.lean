/- Contract of the reference's drawn temperament: it is valid, its offsets are at most three hundred tenths of a cent. -/
import Derived.Test.YtlcppfoedijccaaDoorDrawN
import Derived.Test.YtlcppfoedijccaaDoorNamed
import Derived.Test.YtlcppfoedijccaaDoorTempV
import Derived.Deep.RegionLaw
import Derived.Deep.RegionHeld3
import Derived.Deep.AppendLies
import Derived.Deep.DrawnRows
namespace Go.Proofs.YtlcppfoedijccaaDoor
open Go.ChangeShapes Go.WideShapes Go.ChangeAt Go.RowKit
set_option maxRecDepth 100000

theorem grown_setO {w w' : World} {g : Nat} (h : w.grownBy w' (some g)) (p : Addr) (v : Value) (hp : w.heap.size ≤ p.block) : w.grownBy (w'.setCell p v) (some g) :=
  ⟨h.os, h.tape, h.output, by simpa using h.size, fun i hi hne => (heap_setCell_other w' p i v (fun e => by omega)).trans (h.block i hi hne)⟩
/-- A cell of a later block is written: the source stays. -/
theorem Src.setO {w : World} {g K : Nat} (h : Src w g K) (p : Addr) (v : Value) (hp : g < p.block) : Src (w.setCell p v) g K := by
  obtain ⟨A, n, c, xs, k, z, hk, ha, h⟩ := h
  have hn : ∀ b o, b ≤ g → (w.setCell p v).cell? ⟨b, o, none⟩ = w.cell? ⟨b, o, none⟩ := fun b o hb => World.cell?_setCell_other _ _ _ _ (fun e => by have := congrArg Addr.block e; simp at this; omega)
  refine ⟨A, n, c, xs, k, z, hk, ha, by simpa using h.lt, (hn g 0 (Nat.le_refl _)).trans h.c0, (hn g 1 (Nat.le_refl _)).trans h.c1, (hn g 2 (Nat.le_refl _)).trans h.c2, by simpa using h.f1, by simpa using h.f2, ⟨h.bytes.1, fun hn0 => ?_⟩, h.far, h.z0, h.z1⟩
  obtain ⟨b, off, rfl, hlt, hcc⟩ := h.bytes.2 hn0
  exact ⟨b, off, rfl, by simpa using hlt, fun j u hu => (hn b _ (Nat.le_of_lt (ha hn0 _ rfl))).trans (hcc j u hu)⟩
theorem Src.rowO {w w' : World} {g K : Nat} {row : Option Nat} (h : Src w g K) (hG : w.grownBy w' row) (hr : ∀ r, row = some r → g < r) : Src w' g K := by
  obtain ⟨A, n, c, xs, k, z, hk, ha, h⟩ := h
  have hne : ∀ b, b ≤ g → some b ≠ row := fun b hb e => by have := hr b e.symm; omega
  refine ⟨A, n, c, xs, k, z, hk, ha, Nat.lt_of_lt_of_le h.lt hG.size, hG.cell h.c0 (hne g (Nat.le_refl _)), hG.cell h.c1 (hne g (Nat.le_refl _)), hG.cell h.c2 (hne g (Nat.le_refl _)), (hG.frozen_far ⟨g, 1, none⟩ h.lt (hne g (Nat.le_refl _))).trans h.f1, (hG.frozen_far ⟨g, 2, none⟩ h.lt (hne g (Nat.le_refl _))).trans h.f2, ⟨h.bytes.1, fun hn => ?_⟩, h.far, h.z0, h.z1⟩
  obtain ⟨b, off, rfl, hlt, hc⟩ := h.bytes.2 hn
  exact ⟨b, off, rfl, Nat.lt_of_lt_of_le hlt hG.size, fun j u hu => hG.cell (hc j u hu) (hne b (Nat.le_of_lt (ha hn _ rfl)))⟩
theorem tName_ok (k : Nat) (hk : k < 4) : tempB (tName k) (tOffs k) = true := by
  have hn : nameB (tName k) = true := by
    apply nameB_true
    rcases (show k = 0 ∨ k = 1 ∨ k = 2 ∨ k = 3 from by omega) with rfl | rfl | rfl | rfl <;>
    · refine ⟨by decide, by decide, fun j hj h => ?_⟩
      left
      unfold letterP
      revert j
      decide
  unfold tempB
  rw [hn]
  rcases (show k = 0 ∨ k = 1 ∨ k = 2 ∨ k = 3 from by omega) with rfl | rfl | rfl | rfl <;> decide
theorem tOffs_small (k : Nat) (hk : k < 4) : ∀ z ∈ tOffs k, -300 ≤ z ∧ z ≤ 300 := by
  rcases (show k = 0 ∨ k = 1 ∨ k = 2 ∨ k = 3 from by omega) with rfl | rfl | rfl | rfl <;> decide
/-- A valid temperament in new memory; the source alone has turned. -/
def DrawRet (w : World) (g : Nat) (e : Ending) (w' : World) : Prop :=
  ∃ s gg c zs, e = .returned (.agg #[.string s, .slice (some ⟨gg, 0, none⟩) 12 c]) ∧ tempB s zs = true ∧ (∀ z ∈ zs, -300 ≤ z ∧ z ≤ 300) ∧ w'.ownsRow w.heap.size 2 1 (.slice (some ⟨gg, 0, none⟩) 12 c) 12 (zs.map (Value.int .i64)) ∧ w.grownBy w' (some g)
theorem box_keep {w' w'' : World} {b : Nat} (hb : Below w'.heap.size w' w'')
    (h : w'.cell? ⟨b, 0, none⟩ = some (.string ⟨#[]⟩) ∧ w'.cell? ⟨b, 1, none⟩ = some (.slice none 0 0) ∧ w'.frozen? ⟨b, 0, none⟩ = false ∧ w'.frozen? ⟨b, 1, none⟩ = false ∧ b < w'.heap.size) :
    w''.cell? ⟨b, 0, none⟩ = some (.string ⟨#[]⟩) ∧ w''.cell? ⟨b, 1, none⟩ = some (.slice none 0 0) ∧ w''.frozen? ⟨b, 0, none⟩ = false ∧ w''.frozen? ⟨b, 1, none⟩ = false ∧ b < w''.heap.size :=
  ⟨(hb.cell (p := ⟨b, 0, none⟩) h.2.2.2.2).trans h.1, (hb.cell (p := ⟨b, 1, none⟩) h.2.2.2.2).trans h.2.1, (hb.frozen (p := ⟨b, 0, none⟩) h.2.2.2.2).trans h.2.2.1, (hb.frozen (p := ⟨b, 1, none⟩) h.2.2.2.2).trans h.2.2.2.1, Nat.lt_of_lt_of_le h.2.2.2.2 hb.size⟩
theorem row_setCellD {w : World} {b : Nat} {e : TypeId} {size n : Nat} {v : Value} {xs : List Value} (h : w.ownsRow b e size v n xs) {p : Addr} (hp : p.block < b) (u : Value) : (w.setCell p u).ownsRow b e size v n xs := ownsRow_setCell_below h hp u
theorem row_keepG {w w' : World} {b : Nat} {e : TypeId} {size n g : Nat} {v : Value} {xs : List Value} (h : w.ownsRow b e size v n xs) (hb : w.grownBy w' (some g)) (hg : g < b) : w'.ownsRow b e size v n xs := by
  have hlt := h.lt
  refine ⟨h.1, ?_⟩
  rcases h.2 with h1 | ⟨j, cap, cur, rfl, hj, hh, r⟩
  · exact .inl h1
  · refine .inr ⟨j, cap, cur, rfl, hj, ?_, r⟩
    rw [hb.block j (hlt j rfl).2 (fun e => by have := Option.some.inj e; omega)]
    exact hh
/-- What the own temperament's loop holds: its box at t, the row of its offsets, the source, and the result's box. -/
structure OwnInv (w : World) (t g : Nat) (k : Nat) (v : Value) (zs : List Int) (wr : World) : Prop where
  t0 : wr.cell? ⟨t, 0, none⟩ = some (.string ⟨#[111, 119, 110]⟩)
  t1 : wr.cell? ⟨t, 1, none⟩ = some v
  tf : wr.frozen? ⟨t, 1, none⟩ = false
  own : wr.ownsRow (t + 1) 2 1 v k (zs.map (Value.int .i64))
  all : ∀ x ∈ zs, -300 ≤ x ∧ x ≤ 299
  src : Src wr g (2 + 2 * k)
  grown : w.grownBy wr (some g)
  box : wr.cell? ⟨w.heap.size, 0, none⟩ = some (.string ⟨#[]⟩) ∧ wr.cell? ⟨w.heap.size, 1, none⟩ = some (.slice none 0 0) ∧ wr.frozen? ⟨w.heap.size, 0, none⟩ = false ∧ wr.frozen? ⟨w.heap.size, 1, none⟩ = false ∧ w.heap.size < wr.heap.size
  lt : t < wr.heap.size
/-- One round: a number is taken, appended, and the row stored. -/
theorem OwnInv.next {w wr w3 w4 : World} {t g k gg cap : Nat} {v : Value} {zs : List Int} {x : Int} (h : OwnInv w t g k v zs wr) (hG : wr.grownBy w3 (some g)) (hS : Src w3 g (2 + 2 * k + 2)) (hg : g < w.heap.size) (ht : w.heap.size < t)
    (o : Obj) (hgrow : (w3.alloc o).grownBy w4 v.ownBlock) (hown : w4.ownsRow (t + 1) 2 1 (.slice (some ⟨gg, 0, none⟩) (k + 1) cap) (k + 1) (zs.map (Value.int .i64) ++ [.int .i64 x])) (hx : -300 ≤ x ∧ x ≤ 299) :
    OwnInv w t g (k + 1) (.slice (some ⟨gg, 0, none⟩) (k + 1) cap) (zs ++ [x]) (w4.setCell ⟨t, 1, none⟩ (.slice (some ⟨gg, 0, none⟩) (k + 1) cap)) := by
  have hrow : ∀ q, v.ownBlock = some q → t + 1 ≤ q := fun q e => (h.own.lt q e).1
  have ha : Below w3.heap.size w3 (w3.alloc o) := (Below.refl _ _).alloc (Nat.le_refl _) o
  have hlt3 : t < w3.heap.size := Nat.lt_of_lt_of_le h.lt hG.size
  have hne : ∀ b, b ≤ t → some b ≠ v.ownBlock := fun b hb e => by have := hrow b e.symm; omega
  have cellK : ∀ b o' u, b ≤ t → b ≠ g → wr.cell? ⟨b, o', none⟩ = some u → w4.cell? ⟨b, o', none⟩ = some u := fun b o' u hb hbg hc =>
    hgrow.cell ((ha.cell (p := ⟨b, o', none⟩) (show b < w3.heap.size by omega)).trans (hG.cell hc (fun e => hbg (Option.some.inj e)))) (hne b hb)
  have frozK : ∀ b o', b ≤ t → b ≠ g → wr.frozen? ⟨b, o', none⟩ = false → w4.frozen? ⟨b, o', none⟩ = false := fun b o' hb hbg hc => by
    have hltr := h.lt
    have h1 : w3.frozen? ⟨b, o', none⟩ = false := (hG.frozen_far ⟨b, o', none⟩ (show b < wr.heap.size by omega) (fun e => hbg (Option.some.inj e))).trans hc
    have h2 : (w3.alloc o).frozen? ⟨b, o', none⟩ = false := (ha.frozen (p := ⟨b, o', none⟩) (show b < w3.heap.size by omega)).trans h1
    exact (hgrow.frozen_far ⟨b, o', none⟩ (show b < (w3.alloc o).heap.size by simp; omega) (hne b hb)).trans h2
  have hs4 : t < w4.heap.size := by have := hgrow.size; simp at this; omega
  obtain ⟨x0, x1, x2, x3, x4⟩ := h.box
  have oth : ∀ b o', (⟨b, o', none⟩ : Addr) ≠ ⟨t, 1, none⟩ → ∀ u, w4.cell? ⟨b, o', none⟩ = some u → (w4.setCell ⟨t, 1, none⟩ (.slice (some ⟨gg, 0, none⟩) (k + 1) cap)).cell? ⟨b, o', none⟩ = some u :=
    fun b o' hb u hu => (World.cell?_setCell_other _ _ _ _ (fun e => hb e.symm)).trans hu
  refine ⟨oth t 0 (by simp) _ (cellK t 0 _ (Nat.le_refl _) (by omega) h.t0), World.cell?_setCell_same _ _ _ (cellK t 1 _ (Nat.le_refl _) (by omega) h.t1), by simpa using frozK t 1 (Nat.le_refl _) (by omega) h.tf,
    row_setCellD (by rw [List.map_append]; exact hown) (show t < t + 1 by omega) _, ?_, ?_, ?_, ⟨oth _ 0 (by first | (simp; done) | (simp; omega)) _ (cellK _ 0 _ (by omega) (by omega) x0), oth _ 1 (by first | (simp; done) | (simp; omega)) _ (cellK _ 1 _ (by omega) (by omega) x1), by simpa using frozK _ 0 (by omega) (by omega) x2, by simpa using frozK _ 1 (by omega) (by omega) x3, by simp; omega⟩, by simpa using hs4⟩
  · intro y hy
    rcases List.mem_append.1 hy with hy | hy
    · exact h.all y hy
    · obtain rfl : y = x := by simpa using hy
      exact hx
  · exact (((hS.alloc o).rowO hgrow (fun q e => by have := hrow q e; omega)).mono (by omega)).setO _ _ (by simp; omega)
  · have h1 : w.grownBy w3 (some g) := h.grown.trans hG
    have h2 : w.grownBy (w3.alloc o) (some g) := h1.trans (World.grownBy_alloc w3 o (some g))
    have h3 : w.grownBy w4 (some g) := ⟨hgrow.os.trans h2.os, hgrow.tape.trans h2.tape, hgrow.output.trans h2.output, Nat.le_trans h2.size hgrow.size, fun i hi hne' => (hgrow.block i (Nat.lt_of_lt_of_le hi h2.size) (fun e => by have := hrow i e.symm; omega)).trans (h2.block i hi hne')⟩
    exact grown_setO h3 _ _ (by simp; omega)
theorem own_valid {zs : List Int} (hl : zs.length = 12) (h : ∀ x ∈ zs, -300 ≤ x ∧ x ≤ 299) : tempB ⟨#[111, 119, 110]⟩ zs = true := by
  have hn : nameB ⟨#[111, 119, 110]⟩ = true := by
    apply nameB_true
    refine ⟨by decide, by decide, fun j hj h => ?_⟩
    left
    unfold letterP
    revert j
    decide
  unfold tempB
  rw [hn, hl]
  simp only [Bool.true_and, decide_true, List.all_eq_true]
  intro x hx
  have := h x hx
  exact inB_true (by omega) (by omega)
set_option maxRecDepth 100000 in
set_option maxHeartbeats 8000000 in
theorem draw_is (g : Nat) (w : World) (h : Src w g 0) : Calls Tryd.prog 12 #[.pointer (some ⟨g, 0, none⟩)] w fun e w' => DrawRet w g e w' := by
  obtain ⟨i0, hi, hz0, hz1, hz2⟩ := info_parts infoInt
  have hg := h.lt
  have HP := Lib.hid (pickS g 0 5 (w.alloc (.cells #[.string ⟨#[]⟩, .slice none 0 0] 26)) (h.alloc _) (by omega) (by omega) (by omega))
  have HG0 := Lib.hid (World.grownBy_alloc w (.cells #[.string ⟨#[]⟩, .slice none 0 0] 26) (some g))
  clear h
  go_enter Tryd.func12, Tryd.ntmps12
  go_wp2_with fail
  refine HP.out.mono ?_
  rintro e w1 ⟨r, rfl, hr0, hr1, hS1, hG1⟩
  have hgne : some w.heap.size ≠ some g := fun e => by have := Option.some.inj e; omega
  have q0 : w1.cell? ⟨w.heap.size, 0, none⟩ = some (.string ⟨#[]⟩) := hG1.cell (by go_simp) hgne
  have q1 : w1.cell? ⟨w.heap.size, 1, none⟩ = some (.slice none 0 0) := hG1.cell (by go_simp) hgne
  have f0 : w1.frozen? ⟨w.heap.size, 0, none⟩ = false := (hG1.frozen_far ⟨w.heap.size, 0, none⟩ (by simp) hgne).trans (by go_simp)
  have f1 : w1.frozen? ⟨w.heap.size, 1, none⟩ = false := (hG1.frozen_far ⟨w.heap.size, 1, none⟩ (by simp) hgne).trans (by go_simp)
  have hz1' : w.heap.size < w1.heap.size := by have := hG1.size; simp at this; omega
  have HG1 := Lib.hid (HG0.out.trans hG1)
  have HS1 := Lib.hid hS1
  clear hS1 hG1
  by_cases h4 : r < 4
  · obtain ⟨k, rfl⟩ : ∃ k : Nat, r = (k : Int) := ⟨r.toNat, by omega⟩
    have hk4 : k < 4 := by omega
    have HN := Lib.hid (fun w1 => l03Names_any w1)
    have HO := Lib.hid (fun w1 => l03Offsets_any k w1 hk4)
    have hk0 : (0 : Int) ≤ (k : Int) := Int.natCast_nonneg _
    have hki : (k : Int) < 4 := h4
    go_wp2
    go_region_with (first
      | (go_at_call 19; refine (HN.out _).mono ?_; rintro x wA ⟨rfl, hTA, hbA, hsA⟩; (first | (have dA : wA.cell? ⟨w1.heap.size, k, none⟩ = some (.string (tName k)) := hTA k hk4) | (have dA : wA.cell? ⟨wB.heap.size, k, none⟩ = some (.string (tName k)) := hTA k hk4)); (first | (have kA := box_keep hbA ⟨q0, q1, f0, f1, hz1'⟩) | (have kA := box_keep hbA kB)); have ⟨c0A, c1A, e0A, e1A, _⟩ := kA)
      | (go_at_call 20; refine (HO.out _).mono ?_; rintro x wB ⟨gB, cB, rfl, hgB, hoB, hbB⟩; try (have dB : wB.cell? ⟨w1.heap.size, k, none⟩ = some (.string (tName k)) := (hbB.cell (p := ⟨w1.heap.size, k, none⟩) (by rw [hsA]; exact Nat.lt_succ_self _)).trans dA); (first | (have kB := box_keep hbB ⟨q0, q1, f0, f1, hz1'⟩) | (have kB := box_keep hbB kA)); have ⟨c0B, c1B, e0B, e1B, _⟩ := kB))
    all_goals
      go_wp2
      refine bodyPost_ret (v := .agg #[.string (tName k), .slice (some ⟨gB, 0, none⟩) 12 cB]) (by simp [results, Tryd.results12, go_sem, c0B, c1B]) rfl ?_
      refine ⟨tName k, _, cB, tOffs k, rfl, tName_ok k hk4, tOffs_small k hk4, ?_, ?_⟩
      · first
          | exact row_weaken (row_setCellD (row_setCellD hoB (show w.heap.size < wA.heap.size from kA.2.2.2.2) _) (show w.heap.size < wA.heap.size from kA.2.2.2.2) _) (Nat.le_of_lt kA.2.2.2.2)
          | exact row_weaken (row_setCellD (row_setCellD (row_keepL hoB hbA) (show w.heap.size < w1.heap.size from hz1') _) (show w.heap.size < w1.heap.size from hz1') _) (Nat.le_of_lt hz1')
      · have hbd := (Below.refl w.heap.size w1).drew
        first
          | exact grown_below HG1.out (((hbd.trans ((hbA.mono (Nat.le_of_lt hz1')).trans (hbB.mono (Nat.le_of_lt kA.2.2.2.2)))).setCell (Nat.le_refl _) _).setCell (Nat.le_refl _) _)
          | exact grown_below HG1.out (((hbd.trans ((hbB.mono (Nat.le_of_lt hz1')).trans (hbA.mono (Nat.le_of_lt kB.2.2.2.2)))).setCell (Nat.le_refl _) _).setCell (Nat.le_refl _) _)
  · obtain rfl : r = 4 := by omega
    have hbT : Below w1.heap.size w1 (w1.alloc (.cells #[.string ⟨#[111, 119, 110]⟩, .slice none 0 0] 26)) := (Below.refl _ _).alloc (Nat.le_refl _) _
    have hg1 : g < w1.heap.size := HS1.out.lt
    have HI0 := Lib.hid (show OwnInv w w1.heap.size g 0 (.slice none 0 0) [] (w1.alloc (.cells #[.string ⟨#[111, 119, 110]⟩, .slice none 0 0] 26)) from
      ⟨by go_simp, by go_simp, by go_simp, World.ownsRow_nil _ _ _ _, (fun x hx => by cases hx), HS1.out.alloc _, HG1.out.trans (World.grownBy_alloc w1 _ (some g)), box_keep hbT ⟨q0, q1, f0, f1, hz1'⟩, by simp⟩)
    clear hbT q0 q1 f0 f1
    go_wp2
    go_loopw [5] (fun i wr => ∃ (k : Nat) (v : Value) (zs : List Int), k ≤ 12 ∧ i = .int .i64 k ∧ OwnInv w w1.heap.size g k v zs wr) (fun i _ => 12 - (intOf i).toNat)
    case atStart => exact ⟨0, _, _, Nat.zero_le _, rfl, HI0.out⟩
    case round =>
      obtain ⟨k, v, zs, hk, rfl, hinv⟩ := hrel
      have HI := Lib.hid hinv
      by_cases h12 : k < 12
      · have HP2 := Lib.hid (pickS g (2 + 2 * k) 600 wr.drew (hinv.src.drewN 1) (by omega) (by omega) (by omega))
        have hkI : (k : Int) < 12 := by omega
        have t1 := hinv.t1
        have tf := hinv.tf
        have hgt : g ≠ w1.heap.size := by omega
        clear hinv HI0
        go_wp2
        go_region_law (first
          | ((refine step_append_lies _ (by rfl) _ _ _ (by rfl) (w1.heap.size + 1) 2 i0 _ 1 8 Tryd.underlying24 hi hz0 hz1 hz2 rfl (by omega) _ (k) _ (by rfl) ((hown3.alloc _)) ⟨w3.heap.size, 0, none⟩ 1 1 [.int .i64 (r - 300)] (by rfl) (by rfl) (World.news_of_block (cs := #[.int .i64 (r - 300)]) (t := 2) (fr := (0, 0)) (heap_alloc_new w3 _)) (by simp [Value.oneCell']) (by omega) (by unfold maxLen; omega) (by omega) (by simp; omega) (w3.heap.size + 1) (by simp) ?_; intro gg cap w3 hown1 hgrow hat hlt'); have hnt : some w1.heap.size ≠ v.ownBlock := (fun e0 => by have := (hown3.lt _ e0.symm).1; omega); have t4 : w3.cell? ⟨w1.heap.size, 1, none⟩ = some v := hgrow.cell (by go_simp) hnt; have f4 : w3.frozen? ⟨w1.heap.size, 1, none⟩ = false := (hgrow.frozen_far ⟨w1.heap.size, 1, none⟩ (by simp; omega) hnt).trans (by go_simp))
          | (go_simp; go_at_call 18; refine HP2.out.mono ?_; rintro x w3 ⟨r, rfl, hr0', hr1', hS3, hG3⟩; have hG3' : wr.grownBy w3 (some g) := (grown_drewN wr 1 g).trans hG3; have hown3 := row_keepG HI.out.own hG3' (by omega); have HS3 := Lib.hid hS3; have HG3 := Lib.hid hG3'; have t3 : w3.cell? ⟨w1.heap.size, 1, none⟩ = some v := hG3'.cell t1 (fun e => hgt (Option.some.inj e).symm); have f3 : w3.frozen? ⟨w1.heap.size, 1, none⟩ = false := (hG3'.frozen_far ⟨w1.heap.size, 1, none⟩ HI.out.lt (fun e => hgt (Option.some.inj e).symm)).trans tf; have hww : IntKind.i64.wrap (r - 300) = r - 300 := IntWalk.i64_in _ (by omega); have hsz3 := hG3.size; have hlt3 : w1.heap.size < w3.heap.size := Nat.lt_of_lt_of_le HI.out.lt hG3'.size; clear hS3 hG3 hG3'; go_wp2_with fail))
        all_goals
          have HN := Lib.hid (HI.out.next HG3.out HS3.out hg hz1' _ hgrow hown1 (x := r - 300) ⟨by omega, by omega⟩)
          clear hgrow hown1 hown3 t1 tf t3 f3 t4 f4 hnt
          go_wp2
          go_roundw
          case rel => exact ⟨k + 1, _, _, by omega, by go_num, HN.out⟩
          case measure => simp [intOf]; omega
      · obtain rfl : k = 12 := by omega
        have hl12 : zs.length = 12 := by have := hinv.own.1; simpa using this
        obtain ⟨gg, cap, rfl, hgg, hgl⟩ := hinv.own.form (by omega)
        obtain ⟨t0, t1, tf, hown, hall, hsrc, hgr, ⟨x0, x1, x2, x3, x4⟩, hlt⟩ := hinv
        have HV := Lib.hid (own_valid hl12 hall)
        have HSm := Lib.hid (fun z hz => (⟨(hall z hz).1, by have := (hall z hz).2; omega⟩ : -300 ≤ z ∧ z ≤ 300))
        have HO := Lib.hid hown
        have HGr := Lib.hid hgr
        clear hl12 hall hown hgr hsrc HI HI0 hgl
        go_wp2
        refine bodyPost_ret (v := .agg #[.string ⟨#[111, 119, 110]⟩, .slice (some ⟨gg, 0, none⟩) 12 cap]) (by simp [results, Tryd.results12, go_sem, x0, x1]) rfl ?_
        refine ⟨_, gg, cap, zs, rfl, HV.out, HSm.out, row_weaken (row_setCellD (row_setCellD HO.out (show w.heap.size < w1.heap.size + 1 by omega) _) (show w.heap.size < w1.heap.size + 1 by omega) _) (by omega), ?_⟩
        exact grown_setO (grown_setO HGr.out _ _ (by simp)) _ _ (by simp)
theorem r8Temp (A : Option Addr) (n cc : Nat) (xs : List UInt8) (w : World) (hb : BytesAt w A n xs) :
    Calls Tryd.prog 5 #[.slice A n cc] w fun e w' => ∃ s A' c zs, e = .returned (.agg #[.string s, .slice A' 12 c]) ∧ tempB s zs = true ∧ (∀ z ∈ zs, -300 ≤ z ∧ z ≤ 300) ∧ IntsAt w' A' 12 zs ∧ Below w.heap.size w w' := by
  have hbA : Below w.heap.size w (w.alloc (.cells #[.string ⟨#[]⟩, .slice none 0 0] 26)) := (Below.refl _ _).alloc (Nat.le_refl _) _
  have HF := Lib.hid (fromS A n cc xs _ (CellsAt.below hb hbA))
  have HB0 := Lib.hid hbA
  clear hb hbA
  go_enter Tryd.func5, Tryd.ntmps5
  go_wp2_with fail
  refine HF.out.mono ?_
  rintro x w1 ⟨g, rfl, hg, hS1, hb1⟩
  simp only [World.size_alloc] at hg
  have HB1 := Lib.hid (HB0.out.trans (hb1.mono HB0.out.size))
  have q0 : w1.cell? ⟨w.heap.size, 0, none⟩ = some (.string ⟨#[]⟩) := (hb1.cell (p := ⟨w.heap.size, 0, none⟩) (by simp)).trans (by go_simp)
  have q1 : w1.cell? ⟨w.heap.size, 1, none⟩ = some (.slice none 0 0) := (hb1.cell (p := ⟨w.heap.size, 1, none⟩) (by simp)).trans (by go_simp)
  have f0 : w1.frozen? ⟨w.heap.size, 0, none⟩ = false := (hb1.frozen (p := ⟨w.heap.size, 0, none⟩) (by simp)).trans (by go_simp)
  have f1 : w1.frozen? ⟨w.heap.size, 1, none⟩ = false := (hb1.frozen (p := ⟨w.heap.size, 1, none⟩) (by simp)).trans (by go_simp)
  have hlt1 : w.heap.size < w1.heap.size := by have := hb1.size; simp at this; omega
  have HD := Lib.hid (draw_is g w1 hS1)
  clear hb1 hS1 HF HB0
  go_wp2_with fail
  refine HD.out.mono ?_
  rintro x w2 ⟨s, gg, c, zs, rfl, hT, hsm, hown, hG⟩
  have hgne : some w.heap.size ≠ some g := fun e => by have := Option.some.inj e; omega
  have p0 : w2.cell? ⟨w.heap.size, 0, none⟩ = some (.string ⟨#[]⟩) := hG.cell q0 hgne
  have p1 : w2.cell? ⟨w.heap.size, 1, none⟩ = some (.slice none 0 0) := hG.cell q1 hgne
  have k0 : w2.frozen? ⟨w.heap.size, 0, none⟩ = false := (hG.frozen_far ⟨w.heap.size, 0, none⟩ hlt1 hgne).trans f0
  have k1 : w2.frozen? ⟨w.heap.size, 1, none⟩ = false := (hG.frozen_far ⟨w.heap.size, 1, none⟩ hlt1 hgne).trans f1
  have HT := Lib.hid hT
  have HSm := Lib.hid hsm
  have HO := Lib.hid hown
  have HB2 := Lib.hid (below_grown HB1.out hG (by omega) HB1.out.size)
  clear hT hsm hown hG q0 q1 f0 f1 HD HB1
  go_wp2
  refine bodyPost_ret (v := .agg #[.string s, .slice (some ⟨gg, 0, none⟩) 12 c]) (by simp [results, Tryd.results5, go_sem, p0, p1]) rfl ?_
  exact ⟨s, _, c, zs, rfl, HT.out, HSm.out, IntsAt.of_own (row_setCellD (row_setCellD HO.out hlt1 _) hlt1 _), (HB2.out.setCell (by simp) _).setCell (by simp) _⟩
end Go.Proofs.YtlcppfoedijccaaDoor
