/- A tail that comes in. -/
import Derived.Test.YtllbemdeimgiiaaOpen
import Derived.Test.YtllbemdeimgiiaaTailRight
import Derived.Lib.SmallJoins
namespace Go.Proofs.Ytllbemdeimgiiaa
set_option linter.unusedVariables false
open Go.ChangeShapes Go.WideShapes Go.ChangeAt Go.RowKit Go.Joins
section
variable {H : Type} {enc : TypeId × Value → H} {w : World} {base b0 : Nat} {spare : Nat → Bool} {held : Bool} {r : Reach}
theorem cellsTail : Try.prog.cellsOf 30 = 3 := by kernel_rfl
theorem open_tail {v : Value} {d : DataW H} {p : List MemPlace} (hv : Value.okWide Try.prog w r b0 30 v) (h : DataW.Trod enc Try.prog w base spare held 30 v d p) :
    ∃ (count sum : Int) (A : Option Addr) (c : Nat) (l : List Int), v = .agg #[.int .i64 count, .int .u32 sum, .slice A l.length c] ∧ SeesI w A l ∧ l.length ≤ c ∧ c ≤ maxLen := by
  obtain ⟨c0, c1, c2, y0, y1, y2, m, rfl, _, _, h0, h1, h2⟩ := open_agg3 Try.underlying30 (by kernel_rfl) cellsTail hv h
  obtain ⟨count, rfl, _⟩ := int_raw Try.underlying3 h0
  obtain ⟨sum, rfl, _⟩ := int_raw Try.underlying27 h1
  obtain ⟨A, c, l, rfl, hs, hc1, hc2, _⟩ := ints_raw Try.underlying28 Try.underlying3 (by kernel_rfl) h2
  exact ⟨count, sum, A, c, l, rfl, hs, hc1, hc2⟩
theorem open_tail2 {v : Value} {d : DataW H} {p : List MemPlace} (hv : Value.okWide Try.prog w r b0 30 v) (h : DataW.Trod enc Try.prog w base spare held 30 v d p) :
    ∃ (count sum : Int) (A : Option Addr) (c : Nat) (l : List Int), v = .agg #[.int .i64 count, .int .u32 sum, .slice A l.length c] ∧ SeesI w A l ∧ l.length ≤ c ∧ c ≤ maxLen ∧ 0 ≤ sum ∧ sum < 4294967296 := by
  obtain ⟨c0, c1, c2, y0, y1, y2, m, rfl, _, _, h0, h1, h2⟩ := open_agg3 Try.underlying30 (by kernel_rfl) cellsTail hv h
  obtain ⟨count, rfl, _⟩ := int_raw Try.underlying3 h0
  obtain ⟨sum, rfl, hw⟩ := int_raw Try.underlying27 h1
  obtain ⟨A, c, l, rfl, hs, hc1, hc2, _⟩ := ints_raw Try.underlying28 Try.underlying3 (by kernel_rfl) h2
  have := wf_u32 hw
  exact ⟨count, sum, A, c, l, rfl, hs, hc1, hc2, this.1, this.2⟩
end
end Go.Proofs.Ytllbemdeimgiiaa
