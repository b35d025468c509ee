/- Rows of bytes: made, cloned into a text, and with a frozen end. -/
import Derived.Test.YtlcbfikmljmlpaaDoorConv
import Derived.Lib.UnsafeStr
import Derived.Lib.BufferWrite
namespace Go.Proofs.YtlcbfikmljmlpaaDoor
set_option linter.unusedVariables false
open Go.RowKit
theorem mk_info : (Tryd.prog.info? 5).map (fun i => (i.zero, i.size, i.bytes)) = some (some (.int .u8 0), 1, 1) := by kernel_rfl
theorem mk_bytes (n : Nat) (hn : n ≤ 281474976710656) (w : World) : (Instr.makeSlice 40 (.int .i64 (n : Int)) (.int .i64 (n : Int))).run Tryd.prog w =
    .ok (.slice (some ⟨w.heap.size, 0, none⟩) n n) (w.alloc (.cells (madeCells #[.int .u8 0] n) 5)) := by
  obtain ⟨i, h0, h1, h2, h3⟩ := info_parts mk_info
  have hr := run_make (P := Tryd.prog) w 40 5 i (.int .u8 0) Tryd.underlying40 h0 h1 .i64 .i64 n n (by omega) (by omega) (by rw [h3]; omega) (by omega)
  simp only [Int.toNat_natCast, h2, Nat.mul_one] at hr
  exact hr
theorem mk_own (n : Nat) (hn : n ≤ 281474976710656) (w : World) : (w.alloc (.cells (madeCells #[.int .u8 0] n) 5)).ownsRow w.heap.size 5 1 (.slice (some ⟨w.heap.size, 0, none⟩) n n) n (List.replicate n (.int .u8 0)) := by
  refine ⟨by simp, .inr ⟨w.heap.size, n, _, rfl, Nat.le_refl _, heap_alloc_new _ _, Nat.le_refl _, by unfold maxLen; omega, by simp [size_madeCells], ?_⟩⟩
  rw [toList_madeCells_one, Nat.mul_one, List.take_of_length_le (by simp)]
/-- a row of bytes whose end may be frozen -/
def RowF (w : World) (g : Nat) (fr : Nat × Nat) (xs : List Value) : Prop := ∃ cur : Array Value, w.heap[g]? = some (.cells cur 5 fr) ∧ xs.length ≤ fr.1 ∧ xs.length ≤ cur.size ∧ cur.toList.take xs.length = xs
theorem RowF.cellAt {w : World} {g : Nat} {fr : Nat × Nat} {xs : List Value} (h : RowF w g fr xs) (j : Nat) (hj : j < xs.length) : w.cell? ⟨g, j, none⟩ = xs[j]? := by
  obtain ⟨cur, hg, h1, h2, h3⟩ := h
  rw [cell_of_row w g j cur 5 fr hg]
  have : xs[j]? = (cur.toList.take xs.length)[j]? := by rw [h3]
  rw [this, List.getElem?_take, if_pos hj]
  simp
theorem RowF.frozenAt {w : World} {g : Nat} {fr : Nat × Nat} {xs : List Value} (h : RowF w g fr xs) (j : Nat) (hj : j < xs.length) : w.frozen? ⟨g, j, none⟩ = false := by
  obtain ⟨cur, hg, h1, h2, h3⟩ := h
  obtain ⟨lo, hi⟩ := fr
  simp only [World.frozen?, hg]
  have : ¬ lo ≤ j := by have : xs.length ≤ lo := h1; omega
  simp [this]
theorem RowF.stored {w : World} {g : Nat} {fr : Nat × Nat} {xs : List Value} (h : RowF w g fr xs) (j : Nat) (u : Value) : RowF (w.setCell ⟨g, j, none⟩ u) g fr (xs.set j u) := by
  obtain ⟨cur, hg, h1, h2, h3⟩ := h
  refine ⟨cur.setIfInBounds j u, ?_, by simpa using h1, by simpa using h2, ?_⟩
  · simp [World.setCell, Array.getElem?_modify, hg]
  · rw [List.length_set, Array.toList_setIfInBounds, List.take_set, h3]
theorem RowF.sees {w : World} {g : Nat} {fr : Nat × Nat} {l : List UInt8} (h : RowF w g fr (l.map byteV)) : SeesB w (some ⟨g, 0, none⟩) l := by
  intro i v hv
  refine ⟨_, rfl, ?_⟩
  have e : (Addr.add ⟨g, 0, none⟩ i) = ⟨g, i, none⟩ := by unfold Addr.add; split <;> simp_all
  rw [e, h.cellAt i (List.getElem?_eq_some_iff.1 hv).1, hv]
/-- a text as a row of bytes -/
theorem conv_row (s : ByteArray) (w : World) : ∃ (c : Nat) (fr : Nat × Nat) (w' : World), (convert 9 40 (.string s)).run Tryd.prog w = .ok (.slice (some ⟨w.heap.size, 0, none⟩) s.size c) w' ∧ Below w.heap.size w w' ∧ RowF w' w.heap.size fr (s.data.toList.map byteV) ∧ s.data.toList.length = s.size := by
  refine ⟨_, ((Lib.bytesCells w 5 s).size, (Lib.bytesCells w 5 s).size + 1), _, Lib.run_convert_string_bytes w _ _ _ s Tryd.underlying9 Tryd.underlying40 Tryd.underlying5, ⟨rfl, rfl, rfl, by rw [Lib.bytesWorld_size]; omega, fun b hb => Lib.bytesWorld_at_old w _ s b hb⟩, ?_, by rw [Array.length_toList]; rfl⟩
  have hl : (s.data.toList.map byteV).length = s.data.size := by rw [List.length_map, Array.length_toList]
  have hz : s.data.size ≤ (Lib.bytesCells w 5 s).size := by unfold Lib.bytesCells; simp
  refine ⟨_, Lib.bytesWorld_at_new w _ s, by rw [hl]; exact hz, by rw [hl]; exact hz, ?_⟩
  rw [hl]
  unfold Lib.bytesCells
  rw [Array.toList_append, List.take_append_of_le_length (by simp)]
  rw [List.take_of_length_le (by simp)]
  simp [byteV]
set_option maxRecDepth 20000 in
set_option maxHeartbeats 1000000 in
/-- stringslite.Clone: the same text -/
theorem clone_text (s : ByteArray) (w : World) (hs : s.size ≤ 140737488355328) :
    Calls Tryd.prog 74 #[.string s] w fun e w' => e = .returned (.string s) ∧ Below w.heap.size w w' := by
  by_cases h0 : s.size = 0
  · obtain rfl : s = ⟨#[]⟩ := by
      apply ByteArray.ext
      exact Array.eq_empty_of_size_eq_zero h0
    go_enter Tryd.func74, Tryd.ntmps74
    go_wp2
    go_ret
    exact ⟨rfl, Below.refl _ _⟩
  · have hmk := mk_bytes s.size (by omega) w
    have hb0 : Below w.heap.size w (w.alloc (.cells (madeCells #[.int .u8 0] s.size) 5)) := (Below.refl _ _).alloc (Nat.le_refl _) _
    have hg0 := heap_alloc_new w (.cells (madeCells #[.int .u8 0] s.size) 5)
    obtain ⟨M, hM⟩ : ∃ M, M = madeCells #[.int .u8 0] s.size := ⟨_, rfl⟩
    have hMs : M.size = s.size := by rw [hM, size_madeCells]
    rw [← hM] at hmk hb0 hg0
    clear hM
    generalize hw1 : w.alloc (.cells M 5) = w1 at *
    clear hw1
    obtain ⟨i, h0i, h1, h2, h3⟩ := info_parts mk_info
    have hinfo : (Tryd.prog.info? 5).map (·.size) = some 1 := by rw [h0i]; simp [h2]
    have hco : Tryd.prog.cellsOf 5 = 1 := by simp [Program.cellsOf, h0i, h2]
    have hcp := Lib.run_copy_row_string (P := Tryd.prog) w1 40 9 3 5 w.heap.size 0 s.size s.size s M 5 Tryd.underlying40 hinfo hg0 (Nat.le_refl _) (by omega)
    obtain ⟨Y, hY⟩ : ∃ Y, Y = (M.toList.take 0 ++ Lib.byteCells s.data.toList ++ M.toList.drop (0 + s.size)).toArray := ⟨_, rfl⟩
    rw [← hY] at hcp
    have hYl : Y.toList = Lib.byteCells s.data.toList := by
      rw [hY, List.toList_toArray, List.take_zero, List.nil_append, List.drop_of_length_le (by rw [Array.length_toList]; omega), List.append_nil]
    clear hY
    have hYs : Y.size = s.size := by rw [← Array.length_toList, hYl, Lib.byteCells_length, ← Lib.size_eq]
    have hgY := setRow_heap w1 w.heap.size M Y 5 (0, 0) hg0
    have hb1 : Below w.heap.size w (w1.setRow w.heap.size Y) := below_setRow hb0 (Nat.le_refl _) _
    generalize w1.setRow w.heap.size Y = w2 at *
    have hne : s.data.toList ≠ [] := fun e => h0 (by rw [Lib.size_eq, e]; rfl)
    have hUS := Lib.run_unsafeString_row (P := Tryd.prog) w2 107 3 9 5 Tryd.underlying107 hco w.heap.size Y.size (by unfold World.shape?; rw [hgY]) s.data.toList hne (by rw [← Lib.size_eq]; omega) (by rw [← Lib.size_eq]; omega)
      (fun j x hx => Lib.cells_of_row hgY Y.size j _ (by rw [List.take_of_length_le (by rw [Array.length_toList]; exact Nat.le_refl _), hYl]; simp [Lib.byteCells, hx]))
    rw [← Lib.size_eq] at hUS
    have hb2 : Below w.heap.size w (w2.freeze ⟨w.heap.size, 0, none⟩ s.size) := Lib.below_freeze hb1 (Nat.le_refl _) _
    have dz : decide ((s.size : Int) = 0) = false := decide_eq_false (by omega)
    go_enter Tryd.func74, Tryd.ntmps74
    go_wp2_with fail
    go_ret
    exact ⟨rfl, hb2⟩
theorem clone_str (s : ByteArray) (w : World) (hs : s.size ≤ 140737488355328) :
    Calls Tryd.prog 60 #[.string s] w fun e w' => e = .returned (.string s) ∧ Below w.heap.size w w' := by
  go_enter Tryd.func60, Tryd.ntmps60
  go_wp2_with fail
  refine (clone_text s w hs).mono ?_
  rintro e w1 ⟨rfl, hb⟩
  go_wp2_with fail
  go_ret
  exact ⟨rfl, hb⟩
end Go.Proofs.YtlcbfikmljmlpaaDoor
