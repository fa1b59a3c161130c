/- Contracts of the decimal text of a number: the reference's own loops, and the library's FormatInt, whose table of powers of ten the row lists. -/
import Derived.Test.YtdmfmpfdkfijeaaDoorOwn
import Derived.Test.YtdmfmpfdkfijeaaDoorBytes
import Derived.Test.YtdmfmpfdkfijeaaDoorShelf
import Derived.Laws.IdiomStrings
import Derived.Lib.ItoaNum
import Derived.Lib.AppendIntMem
import Derived.Lib.LaidTab
import Derived.MakeChecks
namespace Go.Proofs.YtdmfmpfdkfijeaaDoor
open Go.ChangeShapes Go.WideShapes Go.ChangeAt Go.RowKit
set_option maxRecDepth 100000

/-! ### The library's table, from the row's condition -/
/-- The table of the powers of ten stands in this world. -/
def Tab (w : World) : Prop := Lib.TabIs Tryd.prog w "internal/strconv.uint64pow10" .u64 Lib.pow10Tab
theorem gT : Tryd.prog.globalNamed "internal/strconv.uint64pow10" = some 0 := by kernel_rfl
theorem Tab.below {w w' : World} (h : Tab w) (hb : Below w.heap.size w w') : Tab w' := by
  unfold Tab Lib.TabIs World.var? at h ⊢
  rw [gT] at h ⊢
  simp only [Option.bind_some] at h ⊢
  have hlt : 0 < w.heap.size := by
    rcases Nat.lt_or_ge 0 w.heap.size with h' | h'
    · exact h'
    · rw [Array.getElem?_eq_none h'] at h; cases h
  rw [hb.block _ hlt]
  exact h
theorem tab_of {W : World} {rest : List (String × DataW Unit)}
    (h : laidMet Tryd.prog (("math/bits.deBruijn32tab", Rows.laid_math_bits_deBruijn32tab) :: ("math/bits.deBruijn64tab", Rows.laid_math_bits_deBruijn64tab) :: ("internal/strconv.uint64pow10", Rows.laid_internal_strconv_uint64pow10) :: rest) W) : Tab W := by
  obtain ⟨ps, ⟨_, _, _, _, _, _, _, _, _, _, ⟨_, _, _, _, _, _, _, _, _, _, ⟨g', t', cs, fuel, p, q, hg', ht', hvar, hd, _, _⟩, _⟩, _⟩, _⟩ := h
  obtain rfl := Option.some.inj (gT.symm.trans hg')
  obtain rfl := Option.some.inj ((show (Tryd.prog.globals[0]?).map (·.type) = some 129 by kernel_rfl).symm.trans ht')
  unfold Tab Lib.TabIs
  rw [hvar, ← Lib.cells_of_tab (k := .u64) (zs := Lib.pow10Tab) (show Tryd.prog.underlying 129 = some (.array 20 88) by kernel_rfl) (show Tryd.prog.underlying 88 = some (.int .u64) by kernel_rfl) (by kernel_rfl) (by kernel_rfl) hd]
theorem tab_row {W : World} (h : laidMetH Tryd.prog Rows.fnExactDecimalRow.laid W) : Tab W := by
  rw [MakeChecks.laidMetH_plain _ _ _ (by kernel_rfl)] at h
  exact tab_of h

/-! ### The library's decimal text -/
def decS (n : Int) : ByteArray := ⟨(Lib.itoa n).toArray⟩
theorem decimal_impl (n : Int) (wn : (Lit.int .i64 n).wf = true) (w : World) (ht : Tab w) : Calls Tryd.prog 15 #[.int .i64 n] w fun e w' => e = .returned (.string (decS n)) ∧ Below w.heap.size w w' := by
  have hb := wf_lo wn
  have H := Lib.hid ht
  clear ht
  go_enter Tryd.func15, Tryd.ntmps15
  go_wp2_with fail
  refine (Tryd.strconv_FormatInt_10 n (by omega) (by omega) _ H.out).mono ?_
  rintro e w' ⟨rfl, k, os, rfl⟩
  go_wp2
  go_ret
  exact ⟨rfl, Go.Lib.below_grow _ _ (Nat.le_refl _) _ _⟩

/-! ### The reference's decimal text -/
theorem infoB : (Tryd.prog.info? 5).map (fun i => (i.zero, i.size, i.bytes)) = some (some (.int .u8 0), 1, 1) := by kernel_rfl
/-- The digits that are still ahead. -/
def tailD (m : Nat) : List UInt8 := if m = 0 then [] else Lib.decDigits m
theorem tailD_step {m : Nat} (h : m ≠ 0) : tailD m = tailD (m / 10) ++ [UInt8.ofNat (48 + m % 10)] := by
  unfold tailD
  rw [if_neg h]
  by_cases h1 : m < 10
  · rw [if_pos (by omega), Lib.decDigits, dif_pos h1, show m % 10 = m by omega]; rfl
  · rw [if_neg (by omega), Lib.decDigits, dif_neg h1]
theorem dig_nat {m : Nat} : ((UInt8.ofNat (48 + m % 10)).toNat : Int) = 48 + (m : Int) % 10 := by
  have : (UInt8.ofNat (48 + m % 10)).toNat = 48 + m % 10 := by
    rw [UInt8.toNat_ofNat']; omega
  rw [this]; omega
/-- What the first loop holds. -/
structure DecInv (n m : Int) (k : Nat) (L : List UInt8) : Prop where
  len : L.length = k
  le : k ≤ 19
  pos : 0 < n → 0 ≤ m
  neg : n < 0 → m ≤ 0
  abs : m.natAbs * 10 ^ k ≤ n.natAbs
  text : Lib.decDigits n.natAbs = tailD m.natAbs ++ L.reverse
theorem DecInv.start {n : Int} (hn : n ≠ 0) : DecInv n n 0 [] :=
  ⟨rfl, by omega, fun h => by omega, fun h => by omega, by simp, by simp [tailD]; omega⟩
theorem DecInv.lt {n m : Int} {k : Nat} {L : List UInt8} (h : DecInv n m k L) (hb : n.natAbs ≤ 9223372036854775808) (hm : m ≠ 0) : k ≤ 18 := by
  apply Classical.byContradiction
  intro hk
  have h1 : 10 ^ 19 ≤ 10 ^ k := Nat.pow_le_pow_right (by omega) (by omega)
  have h2 : 1 * 10 ^ k ≤ m.natAbs * 10 ^ k := Nat.mul_le_mul_right _ (by omega)
  have := h.abs
  have h3 : (10 : Nat) ^ 19 = 10000000000000000000 := by rfl
  omega
theorem DecInv.step {n m : Int} {k : Nat} {L : List UInt8} (h : DecInv n m k L) (hb : n.natAbs ≤ 9223372036854775808) (hm : m ≠ 0) :
    DecInv n (m.tdiv 10) (k + 1) (L ++ [UInt8.ofNat (48 + m.natAbs % 10)]) := by
  have hk := h.lt hb hm
  have ha : (m.tdiv 10).natAbs = m.natAbs / 10 := by rw [Int.natAbs_tdiv]; rfl
  refine ⟨by simp [h.len], by omega, fun hp => ?_, fun hp => ?_, ?_, ?_⟩
  · have := h.pos hp
    exact Int.tdiv_nonneg this (by omega)
  · have := h.neg hp
    have h1 : m = -(-m) := by omega
    rw [h1, Int.neg_tdiv]
    have : 0 ≤ (-m).tdiv 10 := Int.tdiv_nonneg (by omega) (by omega)
    omega
  · rw [ha, Nat.pow_succ]
    have h1 : m.natAbs / 10 * (10 ^ k * 10) = (m.natAbs / 10 * 10) * 10 ^ k := by rw [Nat.mul_comm (10 ^ k) 10, Nat.mul_assoc]
    rw [h1]
    exact Nat.le_trans (Nat.mul_le_mul_right _ (Nat.div_mul_le_self _ _)) h.abs
  · rw [h.text, ha, tailD_step (m := m.natAbs) (by omega)]
    simp
theorem DecInv.all {n : Int} {k : Nat} {L : List UInt8} (h : DecInv n 0 k L) : Lib.decDigits n.natAbs = L.reverse := by
  have := h.text
  simpa [tailD] using this
theorem itoa_pos {n : Int} (h : 0 < n) : Lib.itoa n = Lib.decDigits n.natAbs := by
  unfold Lib.itoa
  rw [if_neg (by omega), show n.toNat = n.natAbs by omega]
theorem itoa_neg' {n : Int} (h : n < 0) : Lib.itoa n = 45 :: Lib.decDigits n.natAbs := by
  unfold Lib.itoa
  rw [if_pos h]
theorem itoa_zero : Lib.itoa 0 = [48] := by
  unfold Lib.itoa
  rw [if_neg (by omega), Lib.decDigits, dif_pos (by decide)]
  rfl
end Go.Proofs.YtdmfmpfdkfijeaaDoor
