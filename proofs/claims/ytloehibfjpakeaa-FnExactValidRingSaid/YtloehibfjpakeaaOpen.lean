/- Arguments of the laws opened: structs of integers by value, slices, structs that hold a slice. No condition. -/
import Derived.Test.YtloehibfjpakeaaBase
import Derived.Lib.SmallJoins
import Derived.Deep.Slices
import Derived.Deep.Fields
import Derived.ChangeSame
namespace Go.Proofs.Ytloehibfjpakeaa
open Go.Joins Go.ChangeShapes Go.WideShapes Go.RowKit Go.Deep
section
variable {H : Type} {enc : TypeId × Value → H} {w : World} {base b0 : Nat} {spare : Nat → Bool} {held : Bool}
theorem cellsRing : Try.prog.cellsOf 26 = 3 := by kernel_rfl
theorem open_ring {r : Reach} {v : Value} {d : DataW H} {p : List MemPlace} (hv : Value.okWide Try.prog w r b0 26 v) (h : DataW.Trod enc Try.prog w base spare held 26 v d p) :
    ∃ x y z : Int, v = .agg #[.int .i64 x, .int .i64 y, .int .i64 z] ∧ (Lit.int .i64 x).wf = true ∧ (Lit.int .i64 y).wf = true ∧ (Lit.int .i64 z).wf = true := by
  obtain ⟨v0, v1, v2, y0, y1, y2, n, rfl, _, _, h0, h1, h2⟩ := open_agg3 Try.underlying26 (by kernel_rfl) cellsRing hv h
  obtain ⟨x, e0, _, wx⟩ := DataW.trod_int Try.underlying2 h0
  obtain ⟨y, e1, _, wy⟩ := DataW.trod_int Try.underlying2 h1
  obtain ⟨z, e2, _, wz⟩ := DataW.trod_int Try.underlying2 h2
  simp only [List.cons.injEq, and_true] at e0 e1 e2
  subst e0 e1 e2
  exact ⟨x, y, z, rfl, wx, wy, wz⟩
end
end Go.Proofs.Ytloehibfjpakeaa
