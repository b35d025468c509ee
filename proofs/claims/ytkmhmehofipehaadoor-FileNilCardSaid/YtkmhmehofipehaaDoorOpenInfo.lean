/- Info, formats and settings that come in. -/
import Derived.Test.YtkmhmehofipehaaDoorProg
import Derived.Test.YtkmhmehofipehaaDoorOpen
import Derived.Lib.SmallJoins
namespace Go.Proofs.YtkmhmehofipehaaDoor
set_option linter.unusedVariables false
open Go.ChangeShapes Go.WideShapes Go.ChangeAt Go.RowKit Go.Joins
section
variable {H : Type} {enc : TypeId × Value → H} {w : World} {base b0 : Nat} {spare : Nat → Bool} {held : Bool} {r : Reach}
set_option maxRecDepth 100000 in
theorem cellsInfo : Tryd.prog.cellsOf 25 = 6 := by kernel_rfl
set_option maxRecDepth 100000 in
theorem cellsFormat : Tryd.prog.cellsOf 23 = 3 := by kernel_rfl
set_option maxRecDepth 100000 in
theorem cellsInt : Tryd.prog.cellsOf 3 = 1 := by kernel_rfl
set_option maxRecDepth 100000 in
theorem open_info {v : Value} {d : DataW H} {p : List MemPlace} (hv : Value.okWide Tryd.prog w r b0 25 v) (h : DataW.Trod enc Tryd.prog w base spare held 25 v d p) :
    ∃ (k ch bi ra bl sh : Int), v = .agg #[.int .i64 k, .int .i64 ch, .int .i64 bi, .int .i64 ra, .int .i64 bl, .int .i64 sh] ∧ True := by
  obtain ⟨cs, rfl, hsz⟩ := okWide_struct Tryd.underlying25 hv
  obtain ⟨l⟩ := cs
  match l, hsz.trans cellsInfo with
  | [v0, v1, v2, v3, v4, v5], _ =>
    obtain ⟨fuel, hf⟩ := h
    obtain ⟨xs, n, _, hx, _, hlen, hg⟩ := DataW.trod_struct Tryd.underlying25 hf
    match xs, hlen with
    | [y0, y1, y2, y3], _ =>
      have h0 := hg 0 _ rfl
      have h1 := hg 1 _ rfl
      have h2 := hg 2 _ rfl
      have h3 := hg 3 _ rfl
      simp [Value.cells, cellsFormat, cellsInt] at h0 h1 h2 h3
      obtain ⟨k, rfl, _⟩ := int_raw Tryd.underlying3 h0
      obtain ⟨bl, rfl, _⟩ := int_raw Tryd.underlying3 h2
      obtain ⟨sh, rfl, _⟩ := int_raw Tryd.underlying3 h3
      obtain ⟨zs, n2, _, hx2, _, hlen2, hg2⟩ := DataW.trod_struct Tryd.underlying23 h1
      match zs, hlen2 with
      | [z0, z1, z2], _ =>
        have g0 := hg2 0 _ rfl
        have g1 := hg2 1 _ rfl
        have g2 := hg2 2 _ rfl
        simp [cellsInt] at g0 g1 g2
        obtain ⟨ch, rfl, _⟩ := int_raw Tryd.underlying3 g0
        obtain ⟨bi, rfl, _⟩ := int_raw Tryd.underlying3 g1
        obtain ⟨ra, rfl, _⟩ := int_raw Tryd.underlying3 g2
        exact ⟨k, ch, bi, ra, bl, sh, rfl, trivial⟩
end
end Go.Proofs.YtkmhmehofipehaaDoor
