/- A head that comes in. -/
import Derived.Test.YtffcebjamichdaaProg
import Derived.Test.YtffcebjamichdaaOpen
import Derived.Lib.SmallJoins
namespace Go.Proofs.Ytffcebjamichdaa
set_option linter.unusedVariables false
open Go.ChangeShapes Go.WideShapes Go.ChangeAt Go.RowKit Go.Joins
section
variable {H : Type} {enc : TypeId × Value → H} {w : World} {base b0 : Nat} {spare : Nat → Bool} {held : Bool} {r : Reach}
theorem cellsHead : Try.prog.cellsOf 24 = 8 := by kernel_rfl
theorem cellsInt : Try.prog.cellsOf 3 = 1 := by kernel_rfl
theorem cellsBool : Try.prog.cellsOf 4 = 1 := by kernel_rfl
theorem cellsU32 : Try.prog.cellsOf 22 = 1 := by kernel_rfl
theorem open_head {v : Value} {d : DataW H} {p : List MemPlace} (hv : Value.okWide Try.prog w r b0 24 v) (h : DataW.Trod enc Try.prog w base spare held 24 v d p) :
    ∃ (k idx len stp bnd : Int) (lst : Bool) (lnk siz : Int), v = .agg #[.int .i64 k, .int .i64 idx, .int .i64 len, .int .i64 stp, .int .i64 bnd, .bool lst, .int .u32 lnk, .int .i64 siz] ∧ 0 ≤ lnk ∧ lnk < 4294967296 := by
  obtain ⟨cs, rfl, hsz⟩ := okWide_struct Try.underlying24 hv
  obtain ⟨l⟩ := cs
  match l, hsz.trans cellsHead with
  | [v0, v1, v2, v3, v4, v5, v6, v7], _ =>
    obtain ⟨fuel, hf⟩ := h
    obtain ⟨xs, n, _, hx, _, hlen, hg⟩ := DataW.trod_struct Try.underlying24 hf
    match xs, hlen with
    | [y0, y1, y2, y3, y4, y5, y6, y7], _ =>
      have h0 := hg 0 _ rfl
      have h1 := hg 1 _ rfl
      have h2 := hg 2 _ rfl
      have h3 := hg 3 _ rfl
      have h4 := hg 4 _ rfl
      have h5 := hg 5 _ rfl
      have h6 := hg 6 _ rfl
      have h7 := hg 7 _ rfl
      simp [Value.cells, cellsInt, cellsBool, cellsU32] at h0 h1 h2 h3 h4 h5 h6 h7
      obtain ⟨k, rfl, _⟩ := int_raw Try.underlying3 h0
      obtain ⟨idx, rfl, _⟩ := int_raw Try.underlying3 h1
      obtain ⟨len, rfl, _⟩ := int_raw Try.underlying3 h2
      obtain ⟨stp, rfl, _⟩ := int_raw Try.underlying3 h3
      obtain ⟨bnd, rfl, _⟩ := int_raw Try.underlying3 h4
      obtain ⟨lst, hlst, _⟩ := DataW.trod_bool Try.underlying4 h5
      injection hlst with hlst _
      subst hlst
      obtain ⟨lnk, rfl, hw⟩ := int_raw Try.underlying22 h6
      obtain ⟨siz, rfl, _⟩ := int_raw Try.underlying3 h7
      have := wf_u32 hw
      exact ⟨k, idx, len, stp, bnd, lst, lnk, siz, rfl, this.1, this.2⟩
end
end Go.Proofs.Ytffcebjamichdaa
