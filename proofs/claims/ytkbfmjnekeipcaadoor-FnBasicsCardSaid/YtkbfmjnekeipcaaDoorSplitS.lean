/- Contracts of a text divided at each byte of one kind: the reference's loop, and the library's Split. -/
import Derived.Test.YtkbfmjnekeipcaaDoorSplitP
namespace Go.Proofs.YtkbfmjnekeipcaaDoor
open Go.ChangeShapes Go.WideShapes Go.ChangeAt Go.RowKit
set_option maxRecDepth 100000

def StrsAt (w : World) (A : Option Addr) (n : Nat) (xs : List ByteArray) : Prop := CellsAt w A n 1 (xs.map Value.string)
section
variable {w w' : World} {A : Option Addr} {n : Nat} {xs : List ByteArray}
theorem StrsAt.len (h : StrsAt w A n xs) : xs.length = n := by have := h.1; simpa using this
theorem StrsAt.at_ (h : StrsAt w A n xs) {k : Nat} (hk : k < n) : ∃ b off x, A = some ⟨b, off, none⟩ ∧ b < w.heap.size ∧ xs[k]? = some x ∧ w.cell? ⟨b, off + k, none⟩ = some (.string x) := by
  obtain ⟨b, off, e, hlt, hc⟩ := h.2 (by omega)
  have hl := h.len
  have hz : xs[k]? = some (xs[k]'(by omega)) := List.getElem?_eq_getElem (by omega)
  exact ⟨b, off, _, e, hlt, hz, hc k _ (by rw [List.getElem?_map, hz]; rfl)⟩
theorem StrsAt.below (h : StrsAt w A n xs) (hb : Below w.heap.size w w') : StrsAt w' A n xs := CellsAt.below h hb
theorem StrsAt.alloc (h : StrsAt w A n xs) (o : Obj) : StrsAt (w.alloc o) A n xs := h.below ((Below.refl _ _).alloc (Nat.le_refl _) o)
theorem StrsAt.of_own {base : Nat} {e : TypeId} {c : Nat} (h : w.ownsRow base e 1 (.slice A n c) n (xs.map Value.string)) : StrsAt w A n xs := CellsAt.of_own h
theorem StrsAt.grown {row : Option Nat} (h : StrsAt w A n xs) (hb : w.grownBy w' row) (hne : ∀ a, A = some a → row ≠ some a.block) : StrsAt w' A n xs := CellsAt.grown h hb hne
end
/-- New memory of the call's own that holds these texts. -/
def NewStrs (w : World) (xs : List ByteArray) (e : Ending) (w' : World) : Prop :=
  ∃ A c, e = .returned (.slice A xs.length c) ∧ w'.ownsRow w.heap.size 9 1 (.slice A xs.length c) xs.length (xs.map Value.string) ∧ Below w.heap.size w w'
theorem infoStrS : (Tryd.prog.info? 9).map (fun i => (i.zero, i.size, i.bytes)) = some (some (.string ⟨#[]⟩), 1, 16) := by kernel_rfl
theorem sV_new (w : World) (base g : Nat) (hg : g = w.heap.size) (hb : base ≤ g) : (w.alloc (.cells #[] 9)).ownsRow base 9 1 (.slice (some ⟨g, 0, none⟩) 0 0) 0 ([] : List Value) := by
  subst hg
  exact ⟨by simp, .inr ⟨w.heap.size, 0, #[], rfl, hb, heap_alloc_new w _, Nat.le_refl _, by unfold maxLen; omega, by simp, by simp⟩⟩
theorem mapS_snoc (os : List ByteArray) (x : ByteArray) : os.map Value.string ++ [.string x] = (os ++ [x]).map Value.string := by simp
theorem len_snoc (os : List ByteArray) (x : ByteArray) : os.length + 1 = (os ++ [x]).length := by simp
theorem row_snoc {w : World} {base : Nat} {A : Option Addr} {c : Nat} {os : List ByteArray} {x : ByteArray} (h : w.ownsRow base 9 1 (.slice A (os.length + 1) c) (os.length + 1) (os.map Value.string ++ [.string x])) :
    w.ownsRow base 9 1 (.slice A (os ++ [x]).length c) (os ++ [x]).length ((os ++ [x]).map Value.string) := by
  rw [← mapS_snoc, ← len_snoc]
  exact h
theorem row_snocV {w : World} {base : Nat} {v : Value} {os : List ByteArray} {x : ByteArray} (h : w.ownsRow base 9 1 v (os.length + 1) (os.map Value.string ++ [.string x])) :
    w.ownsRow base 9 1 v (os ++ [x]).length ((os ++ [x]).map Value.string) := by
  rw [← mapS_snoc, ← len_snoc]
  exact h
theorem sp_lens {c : UInt8} {s : ByteArray} {f : Nat} {os : List ByteArray} (h : splitS c s = os ++ [s.extract f s.size]) : (splitS c s).length = os.length + 1 := by rw [h]; simp
set_option maxHeartbeats 4000000 in
theorem l01Split_is (c : UInt8) (cn : Int) (hcn : cn = (c.toNat : Int)) (s : ByteArray) (w : World) (hs : s.size ≤ 1048576) : Calls Tryd.prog 52 #[.string s, .int .u8 cn] w fun e w' => NewStrs w (splitS c s) e w' := by
  subst hcn
  obtain ⟨i0, hi, hz0, hz1, hz2⟩ := info_parts infoStrS
  go_enter Tryd.func52, Tryd.ntmps52
  go_wp2
  go_loopw [5, 6, 7] (fun v f i wr => ∃ (k ff : Nat) (os : List ByteArray), i = .int .i64 k ∧ f = .int .i64 ff ∧ SpInv c s k ff os ∧ wr.ownsRow w.heap.size 9 1 v os.length (os.map Value.string) ∧ Below w.heap.size w wr) (fun _ _ i _ => s.size - (intOf i).toNat)
  case atStart => exact ⟨0, 0, [], rfl, rfl, SpInv.start c s, sV_new w _ _ rfl (Nat.le_refl _), (Below.refl _ _).alloc (Nat.le_refl _) _⟩
  case round =>
    obtain ⟨k, ff, os, rfl, rfl, hinv, hown, hbr⟩ := hrel
    have HBR := Lib.hid hbr
    have hbs := hbr.size
    have hk1 := hinv.1
    have hk2 := hinv.2.1
    have hk3 := hinv.2.2.1
    by_cases hlt : k < s.size
    · by_cases hc : s[k] = c
      · have HI := Lib.hid (hinv.hit hlt hc)
        have hbe : ((s[k].toNat : Int) == (c.toNat : Int)) = true := by rw [beq_iff_eq, hc]
        have hf0 : (0 : Int) ≤ (ff : Int) := Int.natCast_nonneg _
        have hf1 : (ff : Int) ≤ (k : Int) := by omega
        have hf2 : (k : Int) ≤ (s.size : Int) := by omega
        clear hinv hbr hc
        go_wp2_with (at_builtin; refine wpList_append_lies _ rfl _ _ _ rfl (w.heap.size) 9 i0 _ 1 16 Tryd.underlying59 hi hz0 hz1 hz2 rfl (by omega) _ (os.length) _ rfl ((hown.alloc _)) ⟨wr.heap.size, 0, none⟩ 1 1 [.string ((s.extract ff k))] rfl rfl (World.news_of_block (cs := #[.string ((s.extract ff k))]) (t := 9) (fr := (0, 0)) (heap_alloc_new wr _)) (by simp [Value.oneCell']) (by omega) (by unfold maxLen; omega) (by omega) (by simp; omega) (wr.heap.size + 1) (by simp) ?_; intro gg cap w3 hown1 hgrow hat hlt')
        go_roundw
        case rel =>
          refine ⟨k + 1, k + 1, _, by go_num, by go_num, HI.out, row_snocV hown1, ?_⟩
          exact (HBR.out.alloc hbs _).grown hgrow (by simp; omega) (by intro g hg; exact (hown.lt g hg).1)
        case measure => simp [intOf]; omega
      · have HI := Lib.hid (hinv.miss hlt hc)
        have hbe : ((s[k].toNat : Int) == (c.toNat : Int)) = false := by
          rw [beq_eq_false_iff_ne]
          intro e
          exact hc (UInt8.toNat_inj.1 (by omega))
        have HO := Lib.hid hown
        clear hinv hbr hc hown
        go_wp2
        go_roundw
        case rel => exact ⟨k + 1, ff, os, by go_num, rfl, HI.out, HO.out, HBR.out⟩
        case measure => simp [intOf]; omega
    · obtain rfl : k = s.size := by omega
      have HI := Lib.hid hinv.end_
      have hf0 : (0 : Int) ≤ (ff : Int) := Int.natCast_nonneg _
      have hf1 : (ff : Int) ≤ (s.size : Int) := by omega
      clear hinv hbr
      go_wp2_with (at_builtin; refine wpList_append_lies _ rfl _ _ _ rfl (w.heap.size) 9 i0 _ 1 16 Tryd.underlying59 hi hz0 hz1 hz2 rfl (by omega) _ (os.length) _ rfl ((hown.alloc _)) ⟨wr.heap.size, 0, none⟩ 1 1 [.string ((s.extract ff s.size))] rfl rfl (World.news_of_block (cs := #[.string ((s.extract ff s.size))]) (t := 9) (fr := (0, 0)) (heap_alloc_new wr _)) (by simp [Value.oneCell']) (by omega) (by unfold maxLen; omega) (by omega) (by simp; omega) (wr.heap.size + 1) (by simp) ?_; intro gg cap w3 hown1 hgrow hat hlt')
      have hb2 := (HBR.out.alloc hbs (.cells #[.string (s.extract ff s.size)] 9)).grown hgrow (by simp; omega) (by intro g hg; exact (hown.lt g hg).1)
      go_ret
      unfold NewStrs
      rw [HI.out]
      exact ⟨_, _, by rw [← len_snoc]; rfl, row_snoc hown1, hb2⟩
theorem split_call (c : UInt8) (s : ByteArray) (w : World) (hm : ∃ m, w.cell? ⟨0, 0, none⟩ = some (.int .i64 m)) (hs : s.size ≤ 1048576) : Calls Tryd.prog 55 #[.string s, .string ⟨#[c]⟩] w fun e w' =>
    ∃ n, e = .returned (.slice (some ⟨w.heap.size, 0, none⟩) n n) ∧ n ≤ 1048577 ∧ StrsAt w' (some ⟨w.heap.size, 0, none⟩) n (splitS c s) ∧ Below w.heap.size w w' := by
  obtain ⟨m, hm⟩ := hm
  refine (Tryd.strings_Split s ⟨#[c]⟩ m w (by omega) hm (Nat.le_refl _)).mono ?_
  rintro e w' ⟨rfl, rfl⟩
  rw [split_is, count_is]
  have hl := splitS_len c s
  refine ⟨_, rfl, by omega, ?_, (Below.refl _ _).alloc (Nat.le_refl _) _⟩
  exact CellsAt.of_block (heap_alloc_new w _) (by simp) (by simp)
/-- The library's variable holds some number: carried from the first world. -/
def MaxLenIs (w : World) : Prop := ∃ m, w.cell? ⟨0, 0, none⟩ = some (.int .i64 m)
theorem MaxLenIs.below {w w' : World} (h : MaxLenIs w) (hb : Below w.heap.size w w') : MaxLenIs w' := by
  obtain ⟨m, hm⟩ := h
  refine ⟨m, ?_⟩
  have hlt : 0 < w.heap.size := by
    rcases Nat.lt_or_ge 0 w.heap.size with h' | h'
    · exact h'
    · unfold World.cell? at hm
      simp only at hm
      rw [Array.getElem?_eq_none h'] at hm
      cases hm
  exact (hb.cell (p := ⟨0, 0, none⟩) hlt).trans hm
end Go.Proofs.YtkbfmjnekeipcaaDoor
