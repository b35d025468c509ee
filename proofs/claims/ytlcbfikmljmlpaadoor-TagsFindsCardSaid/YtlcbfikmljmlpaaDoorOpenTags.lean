/- A slice of tags that is handed in. -/
import Derived.Test.YtlcbfikmljmlpaaDoorTagsSees
import Derived.Test.YtlcbfikmljmlpaaDoorActs
namespace Go.Proofs.YtlcbfikmljmlpaaDoor
set_option linter.unusedVariables false
open Go.RowKit
section
open Go.ChangeShapes Go.WideShapes Go.ChangeAt Go.Deep
variable {H : Type} {enc : TypeId × Value → H} {P : Program} {w : World} {base b0 : Nat} {spare : Nat → Bool} {held : Bool} {r : Reach}
/-- the tag that lies at an address -/
noncomputable def tagAt (w : World) (a : Addr) : TagV :=
  ⟨match w.cell? a with | some (.string s) => s | _ => ByteArray.empty, match w.cell? (a.add 1) with | some (.string s) => s | _ => ByteArray.empty⟩
theorem open_tags_of {t e : TypeId} {v : Value} {d : DataW H} {p : List MemPlace} (ht : P.underlying t = some (.slice e)) (f0 f1 : Field) (he : P.underlying e = some (.struct #[f0, f1]))
    (hone : oneCellFields P #[f0, f1] = true) (hC : P.cellsOf e = 2) (k0 : P.underlying f0.type = some .string) (k1 : P.underlying f1.type = some .string)
    (hv : Value.okWide P w r b0 t v) (h : DataW.Trod enc P w base spare held t v d p) :
    ∃ (A : Option Addr) (c : Nat) (l : List TagV), v = .slice A l.length c ∧ SeesT w A l ∧ l.length ≤ c ∧ c ≤ maxLen := by
  obtain ⟨A, n, c, rfl⟩ := okWide_slice ht hv
  obtain ⟨fuel, hf⟩ := h
  rcases open_slice_fields ht he hone hC hf with ⟨hcs, _⟩ | ⟨a, len, cap, m, D, Pl, hcs, _, hl, hm, hmm, _, hi⟩
  · simp [Value.cells] at hcs
    obtain ⟨rfl, rfl, rfl⟩ := hcs
    exact ⟨none, 0, [], rfl, fun i hi => by simp at hi, by simp, by simp⟩
  · simp [Value.cells] at hcs
    obtain ⟨rfl, rfl, rfl⟩ := hcs
    have hnm : n ≤ m := by rw [hmm]; split <;> omega
    have key : ∀ i, i < n → w.cell? (a.add (i * 2)) = some (.string (tagAt w (a.add (i * 2))).k) ∧ w.cell? ((a.add (i * 2)).add 1) = some (.string (tagAt w (a.add (i * 2))).v) := by
      intro i hin
      obtain ⟨ys, q, _, _, _, hg⟩ := hi i (by omega)
      obtain ⟨v0, y0, c0, _, t0⟩ := hg 0 f0 rfl
      obtain ⟨v1, y1, c1, _, t1⟩ := hg 1 f1 rfl
      obtain ⟨s0, hs0, _⟩ := DataW.trod_string k0 t0
      obtain ⟨s1, hs1, _⟩ := DataW.trod_string k1 t1
      injection hs0 with hs0 _
      injection hs1 with hs1 _
      subst hs0 hs1
      change w.cell? (a.add (i * 2 + 0)) = _ at c0
      change w.cell? (a.add (i * 2 + 1)) = _ at c1
      rw [Nat.add_zero] at c0
      rw [← addr_add] at c1
      unfold tagAt
      simp only [c0, c1]
      exact ⟨trivial, trivial⟩
    refine ⟨some a, c, (List.range n).map fun i => tagAt w (a.add (i * 2)), by simp, ?_, by simpa using hl, hm⟩
    intro i hi'
    have hin : i < n := by simpa using hi'
    obtain ⟨h0, h1⟩ := key i hin
    refine ⟨a, rfl, ?_⟩
    simp only [List.getElem_map, List.getElem_range]
    exact ⟨h0, h1⟩
set_option maxRecDepth 100000 in
theorem open_tags {v : Value} {d : DataW H} {p : List MemPlace} (hv : Value.okWide Tryd.prog w r b0 22 v) (h : DataW.Trod enc Tryd.prog w base spare held 22 v d p) :
    ∃ (A : Option Addr) (c : Nat) (l : List TagV), v = .slice A l.length c ∧ SeesT w A l ∧ l.length ≤ c ∧ c ≤ maxLen :=
  open_tags_of Tryd.underlying22 _ _ Tryd.underlying30 (by kernel_rfl) (by kernel_rfl) Tryd.underlying9 Tryd.underlying9 hv h
end
end Go.Proofs.YtlcbfikmljmlpaaDoor
