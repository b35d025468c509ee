/- Slices of asks: three cells each. -/
import Derived.Test.YtbcddeiicneajaaActs
namespace Go.Proofs.Ytbcddeiicneajaa
set_option linter.unusedVariables false
open Go.RowKit
/-- a call of a taker -/
structure Asked where
  k : Int
  n : Int
  s : ByteArray
def Asked.fine (d : Asked) : Prop := d.n ≤ 9223372036854775807
/-- a slice that begins at A reads as these asks -/
def SeesQ (w : World) (A : Option Addr) (l : List Asked) : Prop := ∀ (i : Nat) (h : i < l.length), ∃ a, A = some a ∧ w.cell? (a.add (i * 3)) = some (.int .i64 l[i].k) ∧ w.cell? ((a.add (i * 3)).add 1) = some (.int .i64 l[i].n) ∧ w.cell? ((a.add (i * 3)).add 2) = some (.string l[i].s)
theorem SeesQ.below {w w' : World} {A : Option Addr} {l : List Asked} (h : SeesQ w A l) (hb : Below w.heap.size w w') : SeesQ w' A l := by
  intro i hi
  obtain ⟨a, ha, h0, h1, h2⟩ := h i hi
  exact ⟨a, ha, (hb.cell (block_lt_of_cell h0)).trans h0, (hb.cell (block_lt_of_cell h1)).trans h1, (hb.cell (block_lt_of_cell h2)).trans h2⟩
theorem SeesQ.at {w : World} {A : Option Addr} {l : List Asked} (h : SeesQ w A l) {i : Nat} (hi : i < l.length) : ∃ a, A = some a ∧ w.cell? (a.add (i * 3)) = some (.int .i64 l[i].k) ∧ w.cell? { block := (a.add (i * 3)).block, off := (a.add (i * 3)).off + 1 } = some (.int .i64 l[i].n) ∧ w.cell? { block := (a.add (i * 3)).block, off := (a.add (i * 3)).off + 2 } = some (.string l[i].s) := by
  obtain ⟨a, ha, h0, h1, h2⟩ := h i hi
  rw [addr_one _ 1 (by omega)] at h1
  rw [addr_one _ 2 (by omega)] at h2
  exact ⟨a, ha, h0, h1, h2⟩
section
open Go.ChangeShapes Go.WideShapes Go.ChangeAt Go.Deep
variable {H : Type} {enc : TypeId × Value → H} {P : Program} {w : World} {base b0 : Nat} {spare : Nat → Bool} {held : Bool} {r : Reach}
/-- the ask that lies at an address -/
noncomputable def askAt (w : World) (a : Addr) : Asked :=
  ⟨match w.cell? a with | some (.int _ z) => z | _ => 0, match w.cell? (a.add 1) with | some (.int _ z) => z | _ => 0, match w.cell? (a.add 2) with | some (.string s) => s | _ => ByteArray.empty⟩
theorem open_asks_of {t e : TypeId} {v : Value} {d : DataW H} {p : List MemPlace} (ht : P.underlying t = some (.slice e)) (f0 f1 f2 : Field) (he : P.underlying e = some (.struct #[f0, f1, f2]))
    (hone : oneCellFields P #[f0, f1, f2] = true) (hC : P.cellsOf e = 3) (k0 : P.underlying f0.type = some (.int .i64)) (k1 : P.underlying f1.type = some (.int .i64)) (k2 : P.underlying f2.type = some .string)
    (hv : Value.okWide P w r b0 t v) (h : DataW.Trod enc P w base spare held t v d p) :
    ∃ (A : Option Addr) (c : Nat) (l : List Asked), v = .slice A l.length c ∧ SeesQ w A l ∧ l.length ≤ c ∧ c ≤ maxLen ∧ ∀ x ∈ l, x.fine := by
  obtain ⟨A, n, c, rfl⟩ := okWide_slice ht hv
  obtain ⟨fuel, hf⟩ := h
  rcases open_slice_fields ht he hone hC hf with ⟨hcs, _⟩ | ⟨a, len, cap, m, D, Pl, hcs, _, hl, hm, hmm, _, hi⟩
  · simp [Value.cells] at hcs
    obtain ⟨rfl, rfl, rfl⟩ := hcs
    exact ⟨none, 0, [], rfl, fun i hi => by simp at hi, by simp, by simp, by simp⟩
  · simp [Value.cells] at hcs
    obtain ⟨rfl, rfl, rfl⟩ := hcs
    have hnm : n ≤ m := by rw [hmm]; split <;> omega
    have key : ∀ i, i < n → w.cell? (a.add (i * 3)) = some (.int .i64 (askAt w (a.add (i * 3))).k) ∧ w.cell? ((a.add (i * 3)).add 1) = some (.int .i64 (askAt w (a.add (i * 3))).n) ∧ w.cell? ((a.add (i * 3)).add 2) = some (.string (askAt w (a.add (i * 3))).s) ∧ (askAt w (a.add (i * 3))).fine := by
      intro i hin
      obtain ⟨ys, q, _, _, _, hg⟩ := hi i (by omega)
      obtain ⟨v0, y0, c0, _, t0⟩ := hg 0 f0 rfl
      obtain ⟨v1, y1, c1, _, t1⟩ := hg 1 f1 rfl
      obtain ⟨v2, y2, c2, _, t2⟩ := hg 2 f2 rfl
      obtain ⟨z0, rfl, _⟩ := int_raw k0 t0
      obtain ⟨z1, rfl, hz1⟩ := int_raw k1 t1
      obtain ⟨s, hs, _⟩ := DataW.trod_string k2 t2
      injection hs with hs _
      subst hs
      have hw := wf_i64 hz1
      change w.cell? (a.add (i * 3 + 0)) = _ at c0
      change w.cell? (a.add (i * 3 + 1)) = _ at c1
      change w.cell? (a.add (i * 3 + 2)) = _ at c2
      rw [Nat.add_zero] at c0
      rw [← addr_add] at c1 c2
      unfold askAt Asked.fine
      simp only [c0, c1, c2]
      exact ⟨trivial, trivial, trivial, by omega⟩
    refine ⟨some a, c, (List.range n).map fun i => askAt w (a.add (i * 3)), by simp, ?_, by simpa using hl, hm, ?_⟩
    · intro i hi'
      have hin : i < n := by simpa using hi'
      obtain ⟨h0, h1, h2, _⟩ := key i hin
      refine ⟨a, rfl, ?_⟩
      simp only [List.getElem_map, List.getElem_range]
      exact ⟨h0, h1, h2⟩
    · intro x hx
      obtain ⟨i, hi', rfl⟩ := List.mem_map.1 hx
      exact (key i (by simpa using hi')).2.2.2
set_option maxRecDepth 100000 in
theorem open_asks {v : Value} {d : DataW H} {p : List MemPlace} (hv : Value.okWide Try.prog w r b0 49 v) (h : DataW.Trod enc Try.prog w base spare held 49 v d p) :
    ∃ (A : Option Addr) (c : Nat) (l : List Asked), v = .slice A l.length c ∧ SeesQ w A l ∧ l.length ≤ c ∧ c ≤ maxLen ∧ ∀ x ∈ l, x.fine :=
  open_asks_of Try.underlying49 _ _ _ Try.underlying54 (by kernel_rfl) (by kernel_rfl) Try.underlying3 Try.underlying3 Try.underlying9 hv h
end
end Go.Proofs.Ytbcddeiicneajaa
