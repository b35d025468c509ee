/- What the rows lay of utf8's two tables. -/
import Derived.Test.YtlcbfikmljmlpaaDoorValid
import Derived.Test.YtlcbfikmljmlpaaDoorRows
import Derived.MakeChecks
namespace Go.Proofs.YtlcbfikmljmlpaaDoor
set_option linter.unusedVariables false
open Go.RowKit Go.Shelf Go.Lib Go.Proofs
set_option maxRecDepth 100000 in
theorem tabs_of {w : World} (h : laidMetH Tryd.prog Rows.tagsCheckRow.laid w) : Tabs w := by
  rw [MakeChecks.laidMetH_plain _ _ _ (by kernel_rfl)] at h
  have e1 : Rows.laid_unicode_utf8_first = firstData := by kernel_rfl
  have e2 : (Rows.laid_unicode_utf8_acceptRanges : DataW Unit) = acceptData := by kernel_rfl
  have h4 := Lib.laidMet.reads h (.head _)
  have h3 := Lib.laidMet.reads h (.tail _ (.head _))
  rw [e1] at h3
  rw [e2] at h4
  exact utf8Tabs_of_readsT (U8Types.of196 laysValid) extra h3 h4
end Go.Proofs.YtlcbfikmljmlpaaDoor
