/- Texts as bytes, and back. -/
import Derived.Test.YtlcbfikmljmlpaaDoorProg
import Derived.Test.YtlcbfikmljmlpaaDoorKit
import Derived.Lib.ConvBytes
import Derived.Laws.IdiomStrings
import Derived.Laws.BytesArg
namespace Go.Proofs.YtlcbfikmljmlpaaDoor
set_option linter.unusedVariables false
open Go.RowKit
theorem conv_sb (s : ByteArray) (w : World) : ∃ (c : Nat) (w' : World), (convert 9 40 (.string s)).run Tryd.prog w = .ok (.slice (some ⟨w.heap.size, 0, none⟩) s.size c) w' ∧ Below w.heap.size w w' ∧ SeesB w' (some ⟨w.heap.size, 0, none⟩) s.data.toList ∧ s.data.toList.length = s.size := by
  refine ⟨_, _, Lib.run_convert_string_bytes w _ _ _ s Tryd.underlying9 Tryd.underlying40 Tryd.underlying5, ⟨rfl, rfl, rfl, by rw [Lib.bytesWorld_size]; omega, fun b hb => Lib.bytesWorld_at_old w _ s b hb⟩, ?_, by rw [Array.length_toList]; rfl⟩
  intro i v hv
  refine ⟨_, rfl, ?_⟩
  have e : (Addr.add ⟨w.heap.size, 0, none⟩ i) = ⟨w.heap.size, i, none⟩ := by unfold Addr.add; split <;> simp_all
  rw [e]
  have hi : i < s.size := by
    have := (List.getElem?_eq_some_iff.1 hv).1
    simpa using this
  rw [Lib.bytesWorld_cell w _ s i hi]
  rw [List.getElem?_map, List.getElem?_eq_getElem (by simpa using hi)] at hv
  rw [← hv]
  simp [byteV, List.getD, List.getElem?_eq_getElem (show i < s.data.toList.length by simpa using hi)]
theorem conv_bs (A : Option Addr) (c : Nat) (l : List UInt8) (w : World) (h : SeesB w A l) : (convert 40 9 (.slice A l.length c)).run Tryd.prog w = .ok (.string ⟨l.toArray⟩) w := by
  cases A with
  | some a =>
    refine run_convert_bytes_back w _ _ _ a c l Tryd.underlying40 Tryd.underlying5 Tryd.underlying9 fun j hj => ?_
    obtain ⟨a', ha, hc⟩ := SeesB.at h hj
    injection ha with ha; subst ha; exact hc
  | none =>
    have : l = [] := by
      cases l with
      | nil => rfl
      | cons x l => obtain ⟨a, ha, _⟩ := h 0 (byteV x) rfl; cases ha
    subst this
    exact run_convert_bytes_nil w _ _ Tryd.underlying40 Tryd.underlying5 0 c _ Tryd.underlying9
end Go.Proofs.YtlcbfikmljmlpaaDoor
