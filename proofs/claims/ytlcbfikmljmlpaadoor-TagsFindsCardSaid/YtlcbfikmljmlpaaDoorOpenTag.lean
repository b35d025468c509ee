/- A tag that is handed in. -/
import Derived.Test.YtlcbfikmljmlpaaDoorProg
import Derived.Test.YtlcbfikmljmlpaaDoorOpen
import Derived.Lib.SmallJoins
namespace Go.Proofs.YtlcbfikmljmlpaaDoor
set_option linter.unusedVariables false
open Go.ChangeShapes Go.WideShapes Go.ChangeAt Go.RowKit Go.Joins
section
variable {H : Type} {enc : TypeId × Value → H} {w : World} {base b0 : Nat} {spare : Nat → Bool} {held : Bool} {r : Reach}
theorem cellsTag : Tryd.prog.cellsOf 30 = 2 := by kernel_rfl
theorem cellsStr : Tryd.prog.cellsOf 9 = 1 := by kernel_rfl
set_option maxRecDepth 100000 in
theorem open_tag {v : Value} {d : DataW H} {p : List MemPlace} (hv : Value.okWide Tryd.prog w r b0 30 v) (h : DataW.Trod enc Tryd.prog w base spare held 30 v d p) :
    ∃ (k u : ByteArray), v = .agg #[.string k, .string u] ∧ True := by
  obtain ⟨cs, rfl, hsz⟩ := okWide_struct Tryd.underlying30 hv
  obtain ⟨l⟩ := cs
  match l, hsz.trans cellsTag with
  | [v0, v1], _ =>
    obtain ⟨fuel, hf⟩ := h
    obtain ⟨xs, n, _, hx, _, hlen, hg⟩ := DataW.trod_struct Tryd.underlying30 hf
    match xs, hlen with
    | [y0, y1], _ =>
      have h0 := hg 0 _ rfl
      have h1 := hg 1 _ rfl
      simp [Value.cells, cellsStr] at h0 h1
      obtain ⟨k, hk, _⟩ := DataW.trod_string Tryd.underlying9 h0
      obtain ⟨u, hu, _⟩ := DataW.trod_string Tryd.underlying9 h1
      injection hk with hk _
      injection hu with hu _
      subst hk hu
      exact ⟨k, u, rfl, trivial⟩
end
end Go.Proofs.YtlcbfikmljmlpaaDoor
