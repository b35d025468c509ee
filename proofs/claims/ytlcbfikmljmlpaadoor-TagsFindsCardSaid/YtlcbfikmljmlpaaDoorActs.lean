/- Slices of acts: four cells each. -/
import Derived.Test.YtlcbfikmljmlpaaDoorProg
import Derived.Test.YtlcbfikmljmlpaaDoorApp
import Derived.Test.YtlcbfikmljmlpaaDoorOpen
import Derived.WalkSpells
import Derived.WalkLawsBesides
import Derived.Deep.Slices
import Derived.Deep.Fields
import Derived.ChangeSame
namespace Go.Proofs.YtlcbfikmljmlpaaDoor
set_option linter.unusedVariables false
open Go.RowKit
/-- a call of a maker -/
structure Deed where
  k : Int
  v : Nat
  n : Int
  s : ByteArray
def Deed.cells (d : Deed) : List Value := [.int .i64 d.k, .int .u64 (d.v : Int), .int .i64 d.n, .string d.s]
def Deed.fine (d : Deed) : Prop := d.v < 18446744073709551616
/-- a slice that begins at A reads as these acts -/
def SeesA (w : World) (A : Option Addr) (l : List Deed) : Prop := ∀ (i : Nat) (h : i < l.length), ∃ a, A = some a ∧ w.cell? (a.add (i * 4)) = some (.int .i64 l[i].k) ∧ w.cell? ((a.add (i * 4)).add 1) = some (.int .u64 (l[i].v : Int)) ∧ w.cell? ((a.add (i * 4)).add 2) = some (.int .i64 l[i].n) ∧ w.cell? ((a.add (i * 4)).add 3) = some (.string l[i].s)
theorem SeesA.below {w w' : World} {A : Option Addr} {l : List Deed} (h : SeesA w A l) (hb : Below w.heap.size w w') : SeesA w' A l := by
  intro i hi
  obtain ⟨a, ha, h0, h1, h2, h3⟩ := h i hi
  exact ⟨a, ha, (hb.cell (block_lt_of_cell h0)).trans h0, (hb.cell (block_lt_of_cell h1)).trans h1, (hb.cell (block_lt_of_cell h2)).trans h2, (hb.cell (block_lt_of_cell h3)).trans h3⟩
theorem addr_one (a : Addr) (j : Nat) (h : j ≠ 0) : a.add j = { block := a.block, off := a.off + j } := by unfold Addr.add; rw [if_neg h]
theorem SeesA.at {w : World} {A : Option Addr} {l : List Deed} (h : SeesA w A l) {i : Nat} (hi : i < l.length) : ∃ a, A = some a ∧ w.cell? (a.add (i * 4)) = some (.int .i64 l[i].k) ∧ w.cell? { block := (a.add (i * 4)).block, off := (a.add (i * 4)).off + 1 } = some (.int .u64 (l[i].v : Int)) ∧ w.cell? { block := (a.add (i * 4)).block, off := (a.add (i * 4)).off + 2 } = some (.int .i64 l[i].n) ∧ w.cell? { block := (a.add (i * 4)).block, off := (a.add (i * 4)).off + 3 } = some (.string l[i].s) := by
  obtain ⟨a, ha, h0, h1, h2, h3⟩ := h i hi
  rw [addr_one _ 1 (by omega)] at h1
  rw [addr_one _ 2 (by omega)] at h2
  rw [addr_one _ 3 (by omega)] at h3
  exact ⟨a, ha, h0, h1, h2, h3⟩
section
open Go.ChangeShapes Go.WideShapes Go.ChangeAt Go.Deep
variable {H : Type} {enc : TypeId × Value → H} {P : Program} {w : World} {base b0 : Nat} {spare : Nat → Bool} {held : Bool} {r : Reach}
theorem open_slice_fields {t e : TypeId} {fs : Array Field} {fuel : Nat} {cs : List Value} {x : DataW H × List MemPlace} (ht : P.underlying t = some (.slice e)) (he : P.underlying e = some (.struct fs))
    (hone : oneCellFields P fs = true) (hC : P.cellsOf e = fs.size) (h : DataW.trod enc P w base spare held fuel t cs = some x) :
    (cs = [.slice none 0 0] ∧ x = (.nil, [])) ∨
    ∃ (a : Addr) (len cap m : Nat) (D : Nat → DataW H) (Pl : Nat → List MemPlace), cs = [.slice (some a) len cap] ∧ base ≤ a.block ∧ len ≤ cap ∧ cap ≤ maxLen ∧ m = (if spare a.block then cap else len) ∧
      x = (.slice ((List.range len).map D) ((List.range (m - len)).map fun j => D (len + j)), MemPlace.row a (m * fs.size) ++ (List.range m).flatMap Pl) ∧
      ∀ i, i < m → ∃ (ys : List (DataW H × List MemPlace)) (n : Nat), D i = .agg (ys.map (·.1)) ∧ Pl i = ys.flatMap (·.2) ∧ ys.length = fs.size ∧
        ∀ (j : Nat) (f : Field), fs[j]? = some f → ∃ (v : Value) (y : DataW H × List MemPlace), w.cell? (a.add (i * fs.size + j)) = some v ∧ ys[j]? = some y ∧ DataW.trod enc P w base spare held n f.type [v] = some y := by
  rcases open_slice ht h with h0 | ⟨a, len, cap, m, n, D, Pl, hcs, hb, hl, hm, hmm, hx, hi⟩
  · exact .inl h0
  · refine .inr ⟨a, len, cap, m, D, Pl, hcs, hb, hl, hm, hmm, by rw [hC] at hx; exact hx, fun i him => ?_⟩
    obtain ⟨cs', hc, ht'⟩ := hi i him
    rw [hC] at hc
    obtain ⟨ys, n', hn', hy, hlen, hyl, hf⟩ := DataW.trod_struct he ht'
    obtain ⟨_, hcl, hat⟩ := World.cells?_some hc
    simp only [Prod.mk.injEq] at hy
    refine ⟨ys, n', hy.1, hy.2, hyl, fun j f hj => ?_⟩
    obtain ⟨ho, hk⟩ := hone_of hone j f hj
    have hjl : j < fs.size := (Array.getElem?_eq_some_iff.1 hj).1
    have hcell := hat j hjl
    have hv : cs'[j]? = some (cs'[j]'(by omega)) := List.getElem?_eq_getElem (by omega)
    have h1 := hf j f hj
    rw [ho, hk] at h1
    have hone' : (cs'.drop j).take 1 = [cs'[j]'(by omega)] := by
      rw [List.drop_eq_getElem_cons (by omega)]
      rfl
    rw [hone'] at h1
    have hys : ys[j]? = some (ys[j]'(by omega)) := List.getElem?_eq_getElem (by omega)
    refine ⟨_, _, ?_, hys, h1.trans hys⟩
    rw [← Go.Deep.add_add, hcell, hv]
/-- the act that lies at an address -/
noncomputable def deedAt (w : World) (a : Addr) : Deed :=
  ⟨match w.cell? a with | some (.int _ z) => z | _ => 0, match w.cell? (a.add 1) with | some (.int _ z) => z.toNat | _ => 0, match w.cell? (a.add 2) with | some (.int _ z) => z | _ => 0, match w.cell? (a.add 3) with | some (.string s) => s | _ => ByteArray.empty⟩
theorem open_acts {t e : TypeId} {v : Value} {d : DataW H} {p : List MemPlace} (ht : P.underlying t = some (.slice e)) (f0 f1 f2 f3 : Field) (he : P.underlying e = some (.struct #[f0, f1, f2, f3]))
    (hone : oneCellFields P #[f0, f1, f2, f3] = true) (hC : P.cellsOf e = 4) (k0 : P.underlying f0.type = some (.int .i64)) (k1 : P.underlying f1.type = some (.int .u64)) (k2 : P.underlying f2.type = some (.int .i64)) (k3 : P.underlying f3.type = some .string)
    (hv : Value.okWide P w r b0 t v) (h : DataW.Trod enc P w base spare held t v d p) :
    ∃ (A : Option Addr) (c : Nat) (l : List Deed), v = .slice A l.length c ∧ SeesA w A l ∧ l.length ≤ c ∧ c ≤ maxLen ∧ ∀ x ∈ l, x.fine := by
  obtain ⟨A, n, c, rfl⟩ := okWide_slice ht hv
  obtain ⟨fuel, hf⟩ := h
  rcases open_slice_fields ht he hone hC hf with ⟨hcs, _⟩ | ⟨a, len, cap, m, D, Pl, hcs, _, hl, hm, hmm, _, hi⟩
  · simp [Value.cells] at hcs
    obtain ⟨rfl, rfl, rfl⟩ := hcs
    exact ⟨none, 0, [], rfl, fun i hi => by simp at hi, by simp, by simp, by simp⟩
  · simp [Value.cells] at hcs
    obtain ⟨rfl, rfl, rfl⟩ := hcs
    have hnm : n ≤ m := by rw [hmm]; split <;> omega
    have key : ∀ i, i < n → w.cell? (a.add (i * 4)) = some (.int .i64 (deedAt w (a.add (i * 4))).k) ∧ w.cell? ((a.add (i * 4)).add 1) = some (.int .u64 ((deedAt w (a.add (i * 4))).v : Int)) ∧ w.cell? ((a.add (i * 4)).add 2) = some (.int .i64 (deedAt w (a.add (i * 4))).n) ∧ w.cell? ((a.add (i * 4)).add 3) = some (.string (deedAt w (a.add (i * 4))).s) ∧ (deedAt w (a.add (i * 4))).fine := by
      intro i hin
      obtain ⟨ys, q, _, _, _, hg⟩ := hi i (by omega)
      obtain ⟨v0, y0, c0, _, t0⟩ := hg 0 f0 rfl
      obtain ⟨v1, y1, c1, _, t1⟩ := hg 1 f1 rfl
      obtain ⟨v2, y2, c2, _, t2⟩ := hg 2 f2 rfl
      obtain ⟨v3, y3, c3, _, t3⟩ := hg 3 f3 rfl
      obtain ⟨z0, rfl, _⟩ := int_raw k0 t0
      obtain ⟨z1, rfl, hz1⟩ := int_raw k1 t1
      obtain ⟨z2, rfl, _⟩ := int_raw k2 t2
      obtain ⟨s, hs, _⟩ := DataW.trod_string k3 t3
      injection hs with hs _
      subst hs
      have hw := wf_u64 hz1
      change w.cell? (a.add (i * 4 + 0)) = _ at c0
      change w.cell? (a.add (i * 4 + 1)) = _ at c1
      change w.cell? (a.add (i * 4 + 2)) = _ at c2
      change w.cell? (a.add (i * 4 + 3)) = _ at c3
      rw [Nat.add_zero] at c0
      rw [← addr_add] at c1 c2 c3
      unfold deedAt Deed.fine
      simp only [c0, c1, c2, c3]
      exact ⟨trivial, by rw [Int.toNat_of_nonneg hw.1], trivial, trivial, by omega⟩
    refine ⟨some a, c, (List.range n).map fun i => deedAt w (a.add (i * 4)), by simp, ?_, by simpa using hl, hm, ?_⟩
    · intro i hi'
      have hin : i < n := by simpa using hi'
      obtain ⟨h0, h1, h2, h3, _⟩ := key i hin
      refine ⟨a, rfl, ?_⟩
      simp only [List.getElem_map, List.getElem_range]
      exact ⟨h0, h1, h2, h3⟩
    · intro x hx
      obtain ⟨i, hi', rfl⟩ := List.mem_map.1 hx
      exact (key i (by simpa using hi')).2.2.2.2
end
end Go.Proofs.YtlcbfikmljmlpaaDoor
