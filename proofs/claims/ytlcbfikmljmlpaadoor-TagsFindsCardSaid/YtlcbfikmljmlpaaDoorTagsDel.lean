/- What slices.DeleteFunc leaves of tags in a row of the call's own. -/
import Derived.Test.YtlcbfikmljmlpaaDoorTagsOwn
namespace Go.Proofs.YtlcbfikmljmlpaaDoor
set_option linter.unusedVariables false
open Go.RowKit
theorem NewT.below {B : Nat} {w w' : World} {l : List TagV} {A : Option Addr} {c : Nat} (h : NewT B w l A c) (hb : Below w.heap.size w w') : NewT B w' l A c :=
  World.ownsRow.kept h (row := none) ⟨hb.os, hb.tape, hb.output, hb.size, fun k hk _ => hb.block k hk⟩ (by cases (Value.slice A l.length c).ownBlock <;> simp)
theorem flat_set : ∀ (l : List TagV) (i : Nat) (a b : ByteArray), ((flat l).set (i * 2) (.string a)).set (i * 2 + 1) (.string b) = flat (l.set i ⟨a, b⟩)
  | [], i, a, b => by simp [flat]
  | t :: l, 0, a, b => rfl
  | t :: l, i + 1, a, b => by
    rw [show (i + 1) * 2 = (i * 2) + 1 + 1 by omega]
    simp only [flat, List.set_cons_succ]
    rw [flat_set l i a b]
theorem NewT.stored {B : Nat} {w : World} {l : List TagV} {g c : Nat} (h : NewT B w l (some ⟨g, 0, none⟩) c) (i : Nat) (a b : ByteArray) :
    NewT B ((w.setCell ⟨g, i * 2, none⟩ (.string a)).setCell ⟨g, i * 2 + 1, none⟩ (.string b)) (l.set i ⟨a, b⟩) (some ⟨g, 0, none⟩) c := by
  have h1 := (World.ownsRow.stored h (i * 2) (.string a)).1
  have h2 := (World.ownsRow.stored h1 (i * 2 + 1) (.string b)).1
  rw [flat_set] at h2
  unfold NewT
  rw [List.length_set]
  exact h2
theorem NewT.frozen {B : Nat} {w : World} {l : List TagV} {g c : Nat} (h : NewT B w l (some ⟨g, 0, none⟩) c) (j : Nat) : w.frozen? ⟨g, j, none⟩ = false := World.ownsRow.frozenAt h j
theorem NewT.at {B : Nat} {w : World} {l : List TagV} {g c : Nat} (h : NewT B w l (some ⟨g, 0, none⟩) c) {i : Nat} (hi : i < l.length) : w.cell? ⟨g, i * 2, none⟩ = some (.string l[i].k) ∧ w.cell? ⟨g, i * 2 + 1, none⟩ = some (.string l[i].v) := by
  obtain ⟨a, ha, h0, h1⟩ := h.sees.at hi
  injection ha with ha
  subst ha
  have e : (Addr.add ⟨g, 0, none⟩ (i * 2)) = ⟨g, i * 2, none⟩ := by unfold Addr.add; split <;> simp_all
  rw [e] at h0 h1
  exact ⟨h0, h1⟩
theorem NewT.bounds {B : Nat} {w : World} {l : List TagV} {g c : Nat} (h : NewT B w l (some ⟨g, 0, none⟩) c) : B ≤ g ∧ g < w.heap.size ∧ l.length ≤ c := by
  rcases h.2 with ⟨h', _⟩ | ⟨g', cap', cur, h', hb, hg, hnc, _⟩
  · simp at h'
  · simp only [Value.slice.injEq, Option.some.injEq, Addr.mk.injEq, and_true, true_and] at h'
    obtain ⟨rfl, rfl⟩ := h'
    exact ⟨hb, (Array.getElem?_eq_some_iff.1 hg).1, hnc⟩
/-- those that are not alike to a key -/
def keepT (K : ByteArray) (l : List TagV) : List TagV := l.filter fun x => !alike K x
theorem keepT_none (K : ByteArray) : ∀ (l : List TagV) (i : Int), 0 ≤ i → idxFrom (alike K) l i = -1 → keepT K l = l
  | [], _, _, _ => rfl
  | x :: l, i, h0, h => by
    unfold idxFrom at h
    cases hp : alike K x with
    | true => rw [hp, if_pos rfl] at h; omega
    | false =>
      rw [hp, if_neg (by simp)] at h
      unfold keepT
      rw [List.filter_cons, hp]
      exact congrArg (x :: ·) (keepT_none K l (i + 1) (by omega) h)
/-- a place that is found: none before it is alike, it is -/
theorem idx_like (K : ByteArray) : ∀ (l : List TagV) (s : Nat) (z : Int), idxFrom (alike K) l (s : Int) = z → z ≠ -1 → ∃ i, z = ((s + i : Nat) : Int) ∧ i < l.length ∧ keepT K (l.take i) = l.take i ∧ (∀ h : i < l.length, alike K l[i] = true)
  | [], s, z, h, hz => absurd h.symm hz
  | x :: l, s, z, h, hz => by
    unfold idxFrom at h
    cases hp : alike K x with
    | true =>
      rw [hp, if_pos rfl] at h
      exact ⟨0, h.symm, by simp, rfl, fun _ => hp⟩
    | false =>
      rw [hp, if_neg (by simp)] at h
      obtain ⟨i, e, hi, hk, ha⟩ := idx_like K l (s + 1) z h hz
      refine ⟨i + 1, by omega, by simpa using hi, ?_, fun h' => ha (by simpa using h')⟩
      rw [List.take_succ_cons]
      unfold keepT at hk ⊢
      rw [List.filter_cons, hp]
      exact congrArg (x :: ·) hk
theorem keepT_succ (K : ByteArray) (l : List TagV) (j : Nat) (h : j < l.length) : keepT K (l.take (j + 1)) = if alike K l[j] = true then keepT K (l.take j) else keepT K (l.take j) ++ [l[j]] := by
  unfold keepT
  rw [List.take_succ_eq_append_getElem h, List.filter_append, List.filter_cons]
  cases alike K l[j] <;> simp
theorem below_setCells {B : Nat} {w0 : World} (b : Nat) (hb : B ≤ b) : ∀ (vs : List Value) (o : Nat) (w : World), Below B w0 w → Below B w0 (w.setCells b o vs)
  | [], _, _, h => h
  | v :: vs, o, w, h => below_setCells b hb vs (o + 1) _ (h.setCell (p := ⟨b, o, none⟩) hb v)
theorem run_clear_tags (w : World) (ty : TypeId) (b o n c : Nat) (hn : 0 < n) (hc : ∀ j, j < n * 2 → (w.cell? ⟨b, o + j, none⟩).isSome = true) (hf : ∀ j, w.frozen? ⟨b, j, none⟩ = false) :
    ∃ vs, vs.length = n * 2 ∧ (Builtin.clear_ #[22] ty #[.slice (some ⟨b, o, none⟩) n c]).run Tryd.prog w = .ok (.tuple #[]) (w.setCells b o vs) := by
  have hz : ∀ w, (zeroValue 30).run Tryd.prog w = .ok (.agg #[.string ByteArray.empty, .string ByteArray.empty]) w := fun w => by go_simp; rfl
  have hlen : (Builtin.zeroCells (Value.agg #[.string ByteArray.empty, .string ByteArray.empty]).cells n).toList.length = n * 2 := by
    rw [Array.length_toList]
    unfold Builtin.zeroCells
    rw [Array.size_map, Array.size_range]
    rfl
  refine ⟨(Builtin.zeroCells (Value.agg #[.string ByteArray.empty, .string ByteArray.empty]).cells n).toList, hlen, ?_⟩
  have hst := run_storeCells_cells (P := Tryd.prog) b o (Builtin.zeroCells (Value.agg #[.string ByteArray.empty, .string ByteArray.empty]).cells n).toList 0 w (by rw [hlen]; simpa using hc) (fun j _ => hf _) (by
    intro v hv
    unfold Builtin.zeroCells at hv
    rw [Array.toList_map, List.mem_map] at hv
    obtain ⟨i, _, rfl⟩ := hv
    have e : ∀ j, j < 2 → ((Value.agg #[.string ByteArray.empty, .string ByteArray.empty]).cells[j]!).oneCell' = true := by
      intro j hj
      rcases j with _ | _ | j
      · rfl
      · rfl
      · omega
    exact e _ (Nat.mod_lt _ (by decide)))
  simp only [Nat.add_zero] at hst
  obtain ⟨m, rfl⟩ : ∃ m, n = m + 1 := ⟨n - 1, by omega⟩
  have hu := Tryd.underlying22
  simp [Builtin.clear_, run_underlying hu, hz, hst]
end Go.Proofs.YtlcbfikmljmlpaaDoor
