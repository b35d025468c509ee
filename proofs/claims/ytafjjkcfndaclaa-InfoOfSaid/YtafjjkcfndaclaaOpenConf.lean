/- Formats and settings that come in. -/
import Derived.Test.YtafjjkcfndaclaaOpenInfo
namespace Go.Proofs.Ytafjjkcfndaclaa
set_option linter.unusedVariables false
open Go.ChangeShapes Go.WideShapes Go.ChangeAt Go.RowKit Go.Joins
section
variable {H : Type} {enc : TypeId × Value → H} {w : World} {base b0 : Nat} {spare : Nat → Bool} {held : Bool} {r : Reach}
theorem cellsConfig : Try.prog.cellsOf 37 = 6 := by kernel_rfl
theorem open_format {v : Value} {d : DataW H} {p : List MemPlace} (hv : Value.okWide Try.prog w r b0 23 v) (h : DataW.Trod enc Try.prog w base spare held 23 v d p) :
    ∃ (ch bi ra : Int), v = .agg #[.int .i64 ch, .int .i64 bi, .int .i64 ra] ∧ True := by
  obtain ⟨cs, rfl, hsz⟩ := okWide_struct Try.underlying23 hv
  obtain ⟨l⟩ := cs
  match l, hsz.trans cellsFormat with
  | [v0, v1, v2], _ =>
    obtain ⟨fuel, hf⟩ := h
    obtain ⟨xs, n, _, hx, _, hlen, hg⟩ := DataW.trod_struct Try.underlying23 hf
    match xs, hlen with
    | [y0, y1, y2], _ =>
      have h0 := hg 0 _ rfl
      have h1 := hg 1 _ rfl
      have h2 := hg 2 _ rfl
      simp [cellsInt] at h0 h1 h2
      obtain ⟨ch, rfl, _⟩ := int_raw Try.underlying3 h0
      obtain ⟨bi, rfl, _⟩ := int_raw Try.underlying3 h1
      obtain ⟨ra, rfl, _⟩ := int_raw Try.underlying3 h2
      exact ⟨ch, bi, ra, rfl, trivial⟩
theorem open_config {v : Value} {d : DataW H} {p : List MemPlace} (hv : Value.okWide Try.prog w r b0 37 v) (h : DataW.Trod enc Try.prog w base spare held 37 v d p) :
    ∃ (blk ord win shp tgt res : Int), v = .agg #[.int .i64 blk, .int .i64 ord, .int .i64 win, .int .i64 shp, .int .i64 tgt, .int .i64 res] ∧ True := by
  obtain ⟨cs, rfl, hsz⟩ := okWide_struct Try.underlying37 hv
  obtain ⟨l⟩ := cs
  match l, hsz.trans cellsConfig with
  | [v0, v1, v2, v3, v4, v5], _ =>
    obtain ⟨fuel, hf⟩ := h
    obtain ⟨xs, n, _, hx, _, hlen, hg⟩ := DataW.trod_struct Try.underlying37 hf
    match xs, hlen with
    | [y0, y1, y2, y3, y4, y5], _ =>
      have h0 := hg 0 _ rfl
      have h1 := hg 1 _ rfl
      have h2 := hg 2 _ rfl
      have h3 := hg 3 _ rfl
      have h4 := hg 4 _ rfl
      have h5 := hg 5 _ rfl
      simp [cellsInt] at h0 h1 h2 h3 h4 h5
      obtain ⟨x0, rfl, _⟩ := int_raw Try.underlying3 h0
      obtain ⟨x1, rfl, _⟩ := int_raw Try.underlying3 h1
      obtain ⟨x2, rfl, _⟩ := int_raw Try.underlying3 h2
      obtain ⟨x3, rfl, _⟩ := int_raw Try.underlying3 h3
      obtain ⟨x4, rfl, _⟩ := int_raw Try.underlying3 h4
      obtain ⟨x5, rfl, _⟩ := int_raw Try.underlying3 h5
      exact ⟨x0, x1, x2, x3, x4, x5, rfl, trivial⟩
end
end Go.Proofs.Ytafjjkcfndaclaa
