/- Plain laws of the text of a list of numbers. -/
import Derived.Test.YtkbfmjnekeipcaaGreatDoorCents
import Derived.Lib.Join
namespace Go.Proofs.YtkbfmjnekeipcaaGreatDoor
open Go.ChangeShapes Go.WideShapes Go.ChangeAt Go.RowKit
set_option maxRecDepth 100000

def toB (l : List UInt8) : ByteArray := ⟨l.toArray⟩
def ofB (b : ByteArray) : List UInt8 := b.data.toList
theorem toB_append (a b : List UInt8) : toB a ++ toB b = toB (a ++ b) := by
  apply ByteArray.ext
  simp [toB, ByteArray.data_append]
theorem toB_ofB (b : ByteArray) : toB (ofB b) = b := rfl
theorem ofB_len (b : ByteArray) : (ofB b).length = b.size := rfl
theorem nil_app (b : ByteArray) : (⟨#[]⟩ : ByteArray) ++ b = b := by
  apply ByteArray.ext
  simp [ByteArray.data_append]
/-- A list of texts, joined. -/
def joinB (xs : List ByteArray) (sep : ByteArray) : ByteArray := toB (Lib.join (xs.map ofB) (ofB sep))
theorem joinTail_append (sep : List UInt8) (r r' : List (List UInt8)) : Lib.joinTail sep (r ++ r') = Lib.joinTail sep r ++ Lib.joinTail sep r' := by simp [Lib.joinTail]
theorem joinB_one (x sep : ByteArray) : joinB [x] sep = x := by
  unfold joinB
  rw [List.map_cons, List.map_nil, Lib.join_one]
  exact toB_ofB x
theorem joinB_succ {xs : List ByteArray} (h : xs ≠ []) (y sep : ByteArray) : joinB xs sep ++ sep ++ y = joinB (xs ++ [y]) sep := by
  cases xs with
  | nil => exact absurd rfl h
  | cons x r =>
    unfold joinB
    conv => lhs; rw [← toB_ofB sep, ← toB_ofB y]
    rw [toB_append, toB_append]
    simp only [List.cons_append, List.map_cons, List.map_append, Lib.join_cons, joinTail_append, toB_ofB, List.map_nil]
    simp [Lib.joinTail, List.append_assoc]
theorem joinTail_len (sep : List UInt8) (m : Nat) : ∀ (r : List (List UInt8)), (∀ x ∈ r, x.length ≤ m) → (Lib.joinTail sep r).length ≤ (sep.length + m) * r.length := by
  intro r
  induction r with
  | nil => intro _; simp [Lib.joinTail]
  | cons x r ih =>
    intro h
    have h1 := ih fun y hy => h y (List.mem_cons_of_mem _ hy)
    have h2 := h x List.mem_cons_self
    have h3 : Lib.joinTail sep (x :: r) = sep ++ x ++ Lib.joinTail sep r := by simp [Lib.joinTail]
    rw [h3]
    simp only [List.length_append, List.length_cons, Nat.mul_add, Nat.mul_one]
    omega
theorem join_len (xs : List ByteArray) (sep : ByteArray) (m : Nat) (h : ∀ x ∈ xs, x.size ≤ m) : (Lib.join (xs.map ofB) (ofB sep)).length ≤ (sep.size + m) * xs.length := by
  cases xs with
  | nil => simp [Lib.join_nil]
  | cons x r =>
    rw [List.map_cons, Lib.join_cons, List.length_append]
    have h1 := joinTail_len (ofB sep) m (r.map ofB) (fun y hy => by
      obtain ⟨z, hz, rfl⟩ := List.mem_map.1 hy
      exact h z (List.mem_cons_of_mem _ hz))
    have h2 := h x List.mem_cons_self
    rw [List.length_map] at h1
    have h3 : (ofB x).length = x.size := rfl
    have h4 : (ofB sep).length = sep.size := rfl
    rw [h4] at h1
    simp only [List.length_cons, Nat.mul_add, Nat.mul_one]
    omega
theorem joinB_size (xs : List ByteArray) (sep : ByteArray) (m : Nat) (h : ∀ x ∈ xs, x.size ≤ m) : (joinB xs sep).size ≤ (sep.size + m) * xs.length := join_len xs sep m h

/-! ### Numbers -/
def valB (z : Int) : Bool := inB z (-1000000000000) 1000000000000
def fitsB (zs : List Int) : Bool := zs.all valB && decide (zs.length ≤ 64)
def listL (zs : List Int) : ByteArray := joinB (zs.map decS) ⟨#[44]⟩
def listT (zs : List Int) : ByteArray := if zs = [] then ⟨#[45]⟩ else listL zs
def listS (zs : List Int) : ByteArray := if fitsB zs then listT zs else ⟨#[]⟩
theorem listL_one {zs : List Int} {z : Int} (h : zs[0]? = some z) : decS z = listL (zs.take 1) := by
  cases zs with
  | nil => cases h
  | cons a r =>
    simp at h
    subst h
    exact (joinB_one _ _).symm
theorem listL_succ {zs : List Int} {k : Nat} {z : Int} (h : zs[k]? = some z) (hk : 0 < k) : listL (zs.take k) ++ ⟨#[44]⟩ ++ decS z = listL (zs.take (k + 1)) := by
  unfold listL
  rw [List.take_add_one, h, List.map_append]
  refine joinB_succ (fun h0 => ?_) _ _
  have hl : ((zs.take k).map decS).length = 0 := by rw [h0]; rfl
  have : k < zs.length := (List.getElem?_eq_some_iff.1 h).1
  rw [List.length_map, List.length_take] at hl
  omega
theorem listL_size {zs : List Int} {k : Nat} (h : ∀ j z, j < k → zs[j]? = some z → valB z = true) (hk : k ≤ 64) : (listL (zs.take k)).size ≤ 1400 := by
  have h1 := joinB_size ((zs.take k).map decS) ⟨#[44]⟩ 20 (fun x hx => by
    obtain ⟨z, hz, rfl⟩ := List.mem_map.1 hx
    obtain ⟨j, hj, rfl⟩ := List.getElem_of_mem hz
    rw [List.length_take] at hj
    have hv := h j (zs.take k)[j] (by omega) (by rw [List.getElem_take]; exact List.getElem?_eq_getElem (by omega))
    have := inB_iff.1 hv
    exact decS_size (by omega))
  have h2 : ((zs.take k).map decS).length ≤ 64 := by simp; omega
  have h3 : (⟨#[44]⟩ : ByteArray).size = 1 := rfl
  rw [h3] at h1
  show (joinB _ _).size ≤ 1400
  omega
theorem val_any {zs : List Int} {k : Nat} {z : Int} (h : zs[k]? = some z) (hz : valB z = false) : zs.all valB = false := by
  rw [List.all_eq_false]
  exact ⟨z, List.mem_of_getElem? h, by simp [hz]⟩
theorem val_all {zs : List Int} {n : Nat} (hl : zs.length = n) (h : ∀ j z, j < n → zs[j]? = some z → valB z = true) : zs.all valB = true := by
  rw [List.all_eq_true]
  intro z hz
  obtain ⟨j, hj, rfl⟩ := List.getElem_of_mem hz
  exact h j _ (by omega) (List.getElem?_eq_getElem hj)
theorem val_succ {zs : List Int} {k : Nat} {z : Int} (h : ∀ j z, j < k → zs[j]? = some z → valB z = true) (hz : zs[k]? = some z) (hB : valB z = true) : ∀ j z, j < k + 1 → zs[j]? = some z → valB z = true := by
  intro j y hj hy
  rcases Nat.lt_or_eq_of_le (Nat.le_of_lt_succ hj) with h1 | rfl
  · exact h j y h1 hy
  · rw [hz] at hy; cases hy; exact hB
theorem val_get {zs : List Int} (h : zs.all valB = true) : ∀ (j : Nat) z, zs[j]? = some z → valB z = true := fun _ _ hz => List.all_eq_true.1 h _ (List.mem_of_getElem? hz)
theorem val_wf {z : Int} (h : valB z = true) : (Lit.int .i64 z).wf = true := wf_of (by have := inB_iff.1 h; omega)
theorem row_keepL {w w' : World} {b : Nat} {e : TypeId} {size n : Nat} {v : Value} {xs : List Value} (h : w.ownsRow b e size v n xs) (hb : Below w.heap.size w w') : w'.ownsRow b e size v n xs := by
  have hlt := h.lt
  refine ⟨h.1, ?_⟩
  rcases h.2 with h1 | ⟨g, cap, cur, rfl, hg, hh, r⟩
  · exact .inl h1
  · refine .inr ⟨g, cap, cur, rfl, hg, ?_, r⟩
    rw [hb.block g (hlt g rfl).2]
    exact hh
end Go.Proofs.YtkbfmjnekeipcaaGreatDoor
