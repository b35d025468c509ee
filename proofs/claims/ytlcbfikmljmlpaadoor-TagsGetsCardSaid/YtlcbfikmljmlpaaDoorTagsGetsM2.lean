/- Rows of bytes: made, cloned into a text, and with a frozen end. -/
import Derived.Test.YtlcbfikmljmlpaaDoorTagsGetsM1
import Derived.Lib.UnsafeStr
import Derived.Lib.BufferWrite
namespace Go.Proofs.YtlcbfikmljmlpaaDoor
set_option linter.unusedVariables false
open Go.RowKit
theorem mk_info : (Tryd.prog.info? 5).map (fun i => (i.zero, i.size, i.bytes)) = some (some (.int .u8 0), 1, 1) := by kernel_rfl
theorem mk_bytes (n : Nat) (hn : n ≤ 281474976710656) (w : World) : (Instr.makeSlice 40 (.int .i64 (n : Int)) (.int .i64 (n : Int))).run Tryd.prog w =
    .ok (.slice (some ⟨w.heap.size, 0, none⟩) n n) (w.alloc (.cells (madeCells #[.int .u8 0] n) 5)) := by
  obtain ⟨i, h0, h1, h2, h3⟩ := info_parts mk_info
  have hr := run_make (P := Tryd.prog) w 40 5 i (.int .u8 0) Tryd.underlying40 h0 h1 .i64 .i64 n n (by omega) (by omega) (by rw [h3]; omega) (by omega)
  simp only [Int.toNat_natCast, h2, Nat.mul_one] at hr
  exact hr
theorem mk_own (n : Nat) (hn : n ≤ 281474976710656) (w : World) : (w.alloc (.cells (madeCells #[.int .u8 0] n) 5)).ownsRow w.heap.size 5 1 (.slice (some ⟨w.heap.size, 0, none⟩) n n) n (List.replicate n (.int .u8 0)) := by
  refine ⟨by simp, .inr ⟨w.heap.size, n, _, rfl, Nat.le_refl _, heap_alloc_new _ _, Nat.le_refl _, by unfold maxLen; omega, by simp [size_madeCells], ?_⟩⟩
  rw [toList_madeCells_one, Nat.mul_one, List.take_of_length_le (by simp)]
/-- a row of bytes whose end may be frozen -/
def RowF (w : World) (g : Nat) (fr : Nat × Nat) (xs : List Value) : Prop := ∃ cur : Array Value, w.heap[g]? = some (.cells cur 5 fr) ∧ xs.length ≤ fr.1 ∧ xs.length ≤ cur.size ∧ cur.toList.take xs.length = xs
theorem RowF.cellAt {w : World} {g : Nat} {fr : Nat × Nat} {xs : List Value} (h : RowF w g fr xs) (j : Nat) (hj : j < xs.length) : w.cell? ⟨g, j, none⟩ = xs[j]? := by
  obtain ⟨cur, hg, h1, h2, h3⟩ := h
  rw [cell_of_row w g j cur 5 fr hg]
  have : xs[j]? = (cur.toList.take xs.length)[j]? := by rw [h3]
  rw [this, List.getElem?_take, if_pos hj]
  simp
theorem RowF.frozenAt {w : World} {g : Nat} {fr : Nat × Nat} {xs : List Value} (h : RowF w g fr xs) (j : Nat) (hj : j < xs.length) : w.frozen? ⟨g, j, none⟩ = false := by
  obtain ⟨cur, hg, h1, h2, h3⟩ := h
  obtain ⟨lo, hi⟩ := fr
  simp only [World.frozen?, hg]
  have : ¬ lo ≤ j := by have : xs.length ≤ lo := h1; omega
  simp [this]
theorem RowF.stored {w : World} {g : Nat} {fr : Nat × Nat} {xs : List Value} (h : RowF w g fr xs) (j : Nat) (u : Value) : RowF (w.setCell ⟨g, j, none⟩ u) g fr (xs.set j u) := by
  obtain ⟨cur, hg, h1, h2, h3⟩ := h
  refine ⟨cur.setIfInBounds j u, ?_, by simpa using h1, by simpa using h2, ?_⟩
  · simp [World.setCell, Array.getElem?_modify, hg]
  · rw [List.length_set, Array.toList_setIfInBounds, List.take_set, h3]
theorem RowF.sees {w : World} {g : Nat} {fr : Nat × Nat} {l : List UInt8} (h : RowF w g fr (l.map byteV)) : SeesB w (some ⟨g, 0, none⟩) l := by
  intro i v hv
  refine ⟨_, rfl, ?_⟩
  have e : (Addr.add ⟨g, 0, none⟩ i) = ⟨g, i, none⟩ := by unfold Addr.add; split <;> simp_all
  rw [e, h.cellAt i (List.getElem?_eq_some_iff.1 hv).1, hv]
/-- a text as a row of bytes -/
theorem conv_row (s : ByteArray) (w : World) : ∃ (c : Nat) (fr : Nat × Nat) (w' : World), (convert 9 40 (.string s)).run Tryd.prog w = .ok (.slice (some ⟨w.heap.size, 0, none⟩) s.size c) w' ∧ Below w.heap.size w w' ∧ RowF w' w.heap.size fr (s.data.toList.map byteV) ∧ s.data.toList.length = s.size := by
  refine ⟨_, ((Lib.bytesCells w 5 s).size, (Lib.bytesCells w 5 s).size + 1), _, Lib.run_convert_string_bytes w _ _ _ s Tryd.underlying9 Tryd.underlying40 Tryd.underlying5, ⟨rfl, rfl, rfl, by rw [Lib.bytesWorld_size]; omega, fun b hb => Lib.bytesWorld_at_old w _ s b hb⟩, ?_, by rw [Array.length_toList]; rfl⟩
  have hl : (s.data.toList.map byteV).length = s.data.size := by rw [List.length_map, Array.length_toList]
  have hz : s.data.size ≤ (Lib.bytesCells w 5 s).size := by unfold Lib.bytesCells; simp
  refine ⟨_, Lib.bytesWorld_at_new w _ s, by rw [hl]; exact hz, by rw [hl]; exact hz, ?_⟩
  rw [hl]
  unfold Lib.bytesCells
  rw [Array.toList_append, List.take_append_of_le_length (by simp)]
  rw [List.take_of_length_le (by simp)]
  simp [byteV]
set_option maxRecDepth 20000 in
set_option maxHeartbeats 1000000 in
/-- stringslite.Clone: the same text -/
theorem clone_text (s : ByteArray) (w : World) (hs : s.size ≤ 140737488355328) :
    Calls Tryd.prog 74 #[.string s] w fun e w' => e = .returned (.string s) ∧ Below w.heap.size w w' := by
  by_cases h0 : s.size = 0
  · obtain rfl : s = ⟨#[]⟩ := by
      apply ByteArray.ext
      exact Array.eq_empty_of_size_eq_zero h0
    go_enter Tryd.func74, Tryd.ntmps74
    go_wp2
    go_ret
    exact ⟨rfl, Below.refl _ _⟩
  · have hmk := mk_bytes s.size (by omega) w
    have hb0 : Below w.heap.size w (w.alloc (.cells (madeCells #[.int .u8 0] s.size) 5)) := (Below.refl _ _).alloc (Nat.le_refl _) _
    have hg0 := heap_alloc_new w (.cells (madeCells #[.int .u8 0] s.size) 5)
    obtain ⟨M, hM⟩ : ∃ M, M = madeCells #[.int .u8 0] s.size := ⟨_, rfl⟩
    have hMs : M.size = s.size := by rw [hM, size_madeCells]
    rw [← hM] at hmk hb0 hg0
    clear hM
    generalize hw1 : w.alloc (.cells M 5) = w1 at *
    clear hw1
    obtain ⟨i, h0i, h1, h2, h3⟩ := info_parts mk_info
    have hinfo : (Tryd.prog.info? 5).map (·.size) = some 1 := by rw [h0i]; simp [h2]
    have hco : Tryd.prog.cellsOf 5 = 1 := by simp [Program.cellsOf, h0i, h2]
    have hcp := Lib.run_copy_row_string (P := Tryd.prog) w1 40 9 3 5 w.heap.size 0 s.size s.size s M 5 Tryd.underlying40 hinfo hg0 (Nat.le_refl _) (by omega)
    obtain ⟨Y, hY⟩ : ∃ Y, Y = (M.toList.take 0 ++ Lib.byteCells s.data.toList ++ M.toList.drop (0 + s.size)).toArray := ⟨_, rfl⟩
    rw [← hY] at hcp
    have hYl : Y.toList = Lib.byteCells s.data.toList := by
      rw [hY, List.toList_toArray, List.take_zero, List.nil_append, List.drop_of_length_le (by rw [Array.length_toList]; omega), List.append_nil]
    clear hY
    have hYs : Y.size = s.size := by rw [← Array.length_toList, hYl, Lib.byteCells_length, ← Lib.size_eq]
    have hgY := setRow_heap w1 w.heap.size M Y 5 (0, 0) hg0
    have hb1 : Below w.heap.size w (w1.setRow w.heap.size Y) := below_setRow hb0 (Nat.le_refl _) _
    generalize w1.setRow w.heap.size Y = w2 at *
    have hne : s.data.toList ≠ [] := fun e => h0 (by rw [Lib.size_eq, e]; rfl)
    have hUS := Lib.run_unsafeString_row (P := Tryd.prog) w2 107 3 9 5 Tryd.underlying107 hco w.heap.size Y.size (by unfold World.shape?; rw [hgY]) s.data.toList hne (by rw [← Lib.size_eq]; omega) (by rw [← Lib.size_eq]; omega)
      (fun j x hx => Lib.cells_of_row hgY Y.size j _ (by rw [List.take_of_length_le (by rw [Array.length_toList]; exact Nat.le_refl _), hYl]; simp [Lib.byteCells, hx]))
    rw [← Lib.size_eq] at hUS
    have hb2 : Below w.heap.size w (w2.freeze ⟨w.heap.size, 0, none⟩ s.size) := Lib.below_freeze hb1 (Nat.le_refl _) _
    have dz : decide ((s.size : Int) = 0) = false := decide_eq_false (by omega)
    go_enter Tryd.func74, Tryd.ntmps74
    go_wp2_with fail
    go_ret
    exact ⟨rfl, hb2⟩
theorem clone_str (s : ByteArray) (w : World) (hs : s.size ≤ 140737488355328) :
    Calls Tryd.prog 60 #[.string s] w fun e w' => e = .returned (.string s) ∧ Below w.heap.size w w' := by
  go_enter Tryd.func60, Tryd.ntmps60
  go_wp2_with fail
  refine (clone_text s w hs).mono ?_
  rintro e w1 ⟨rfl, hb⟩
  go_wp2_with fail
  go_ret
  exact ⟨rfl, hb⟩
end Go.Proofs.YtlcbfikmljmlpaaDoor
/- Letters counted, a text cut, and the reference's cut. -/
namespace Go.Proofs.YtlcbfikmljmlpaaDoor
set_option linter.unusedVariables false
open Go.RowKit
theorem lenL_step (s : ByteArray) (p : Nat) (h : p < s.size) : lenL s (s.size - p) p = 1 + lenL s (s.size - (p + widL s p)) (p + widL s p) := by
  have hw := widL_le s p h
  have h1 := widL_pos s p h
  obtain ⟨m, hm⟩ : ∃ m, s.size - p = m + 1 := ⟨s.size - p - 1, by omega⟩
  rw [hm]
  show (if p < s.size then 1 + lenL s m (p + widL s p) else 0) = _
  rw [if_pos h, lenL_more s (s.size - (p + widL s p)) m _ (by omega) (by omega)]
theorem lenL_end (s : ByteArray) (k p : Nat) (h : s.size ≤ p) : lenL s k p = 0 := by
  cases k with
  | zero => rfl
  | succ k => unfold lenL; rw [if_neg (by omega)]
theorem posL_end (s : ByteArray) (k p : Nat) (h : s.size ≤ p) : posL s k p = p := by
  cases k with
  | zero => rfl
  | succ k => unfold posL; rw [if_neg (by omega)]
theorem below_iter (w : World) (s : ByteArray) (p : Nat) : Below w.heap.size w (w.iter s p) := (Below.refl _ _).alloc (Nat.le_refl _) _
theorem lenL_le (s : ByteArray) : ∀ (k p : Nat), lenL s k p ≤ s.size - p
  | 0, p => by unfold lenL; omega
  | k + 1, p => by
    unfold lenL
    split
    · have := lenL_le s k (p + widL s p)
      have := widL_pos s p ‹_›
      omega
    · omega
set_option maxRecDepth 20000 in
theorem letters_any (s : ByteArray) (w : World) (hs : s.size ≤ 140737488355328) :
    Calls Tryd.prog 28 #[.string s] w fun e w' => e = .returned (.int .i64 ((lenL s s.size 0 : Nat) : Int)) ∧ Below w.heap.size w w' := by
  obtain ⟨N, hN⟩ : ∃ N, N = lenL s s.size 0 := ⟨_, rfl⟩
  rw [← hN]
  have HN := hid hN
  clear hN
  go_enter Tryd.func28, Tryd.ntmps28
  go_wp2
  go_loopw [3] (fun n w' => ∃ (pos k : Nat), w' = w.iter s pos ∧ n = .int .i64 (k : Int) ∧ k + lenL s (s.size - pos) pos = N ∧ k ≤ pos) (fun _ w' => s.size - w'.iterPos w.heap.size)
  case atStart => exact ⟨0, 0, rfl, rfl, by rw [HN.out]; simp, by omega⟩
  case round =>
    obtain ⟨pos, k, rfl, rfl, hc, hkp⟩ := hrel
    by_cases hp : pos < s.size
    · have hnx : ∀ ty, (Instr.next (.pointer (some ⟨w.heap.size, 0, none⟩)) true ty).run Tryd.prog (w.iter s pos) = _ := fun ty => run_next_any w s pos ty hp
      have hwd := widL_pos s pos hp
      have hst := hid (lenL_step s pos hp)
      go_wp2
      go_roundw
      case rel => exact ⟨pos + widL s pos, k + 1, rfl, by go_num, by rw [← hc, hst.out]; omega, by omega⟩
      case measure =>
        have e : (Utf8.decode s pos).2 = widL s pos := rfl
        rw [e]
        simp
        omega
    · have hnx : ∀ ty, (Instr.next (.pointer (some ⟨w.heap.size, 0, none⟩)) true ty).run Tryd.prog (w.iter s pos) = _ := fun ty => run_next_end w s pos ty hp
      rw [lenL_end s _ pos (by omega), Nat.add_zero] at hc
      subst hc
      go_wp2
      go_ret
      exact ⟨rfl, below_iter w s pos⟩
theorem extract_all (s : ByteArray) : s.extract 0 s.size = s := by simp
theorem extract_zero (s : ByteArray) : s.extract 0 0 = ⟨#[]⟩ := by
  apply ByteArray.ext
  simp
set_option maxRecDepth 20000 in
set_option maxHeartbeats 1000000 in
theorem cut_any (s : ByteArray) (n : Int) (w : World) (hs : s.size ≤ 140737488355328) (hn : -9223372036854775808 ≤ n ∧ n ≤ 9223372036854775807) :
    Calls Tryd.prog 29 #[.string s, .int .i64 n] w fun e w' => e = .returned (.string (s.extract 0 (posL s n.toNat 0))) ∧ Below w.heap.size w w' := by
  by_cases h1 : n < 1
  · have d1 : decide (n < 1) = true := decide_eq_true h1
    have e : s.extract 0 (posL s n.toNat 0) = ⟨#[]⟩ := by
      rw [show n.toNat = 0 by omega]
      exact extract_zero s
    rw [e]
    go_enter Tryd.func29, Tryd.ntmps29
    go_wp2_with fail
    go_ret
    exact ⟨rfl, Below.refl _ _⟩
  · have d1 : decide (n < 1) = false := decide_eq_false h1
    obtain ⟨N, rfl⟩ : ∃ N : Nat, n = (N : Int) := ⟨n.toNat, by omega⟩
    rw [Int.toNat_natCast]
    obtain ⟨C, hC⟩ : ∃ C, C = posL s N 0 := ⟨_, rfl⟩
    rw [← hC]
    have HC := hid hC
    clear hC
    obtain ⟨R, hR⟩ : ∃ R, R = s.extract 0 C := ⟨_, rfl⟩
    rw [← hR]
    have HR := hid hR
    clear hR
    go_enter Tryd.func29, Tryd.ntmps29
    go_wp2
    go_loopw [1] (fun nv w' => ∃ (pos k : Nat), w' = w.iter s pos ∧ nv = .int .i64 (k : Int) ∧ k ≤ N ∧ pos ≤ s.size ∧ Hid (posL s k pos = C)) (fun _ w' => s.size - w'.iterPos w.heap.size)
    case atStart => exact ⟨0, N, rfl, rfl, by omega, by omega, hid HC.out.symm⟩
    case round =>
      obtain ⟨pos, k, rfl, rfl, hkN, hps, hP⟩ := hrel
      by_cases hp : pos < s.size
      · have hnx : ∀ ty, (Instr.next (.pointer (some ⟨w.heap.size, 0, none⟩)) true ty).run Tryd.prog (w.iter s pos) = _ := fun ty => run_next_any w s pos ty hp
        have hwd := widL_pos s pos hp
        have hwl := widL_le s pos hp
        have hbi := below_iter w s (pos + widL s pos)
        have hsz : w.heap.size ≤ (w.iter s (pos + widL s pos)).heap.size := hbi.size
        by_cases hk : k = 0
        · have dk : decide ((k : Int) = 0) = true := decide_eq_true (by omega)
          obtain rfl : pos = C := by rw [← hP.out, hk]; rfl
          obtain rfl : R = s.extract 0 pos := HR.out
          clear hP HC HR
          subst hk
          go_wp2_with fail
          refine (clone_str (s.extract 0 pos) _ (by simp; omega)).mono ?_
          rintro e w2 ⟨rfl, hb2⟩
          go_wp2_with fail
          go_ret
          exact ⟨rfl, hbi.trans (hb2.mono hsz)⟩
        · have dk : decide ((k : Int) = 0) = false := decide_eq_false (by omega)
          have HS := hid (show posL s k pos = posL s (k - 1) (pos + widL s pos) by
            obtain ⟨m, rfl⟩ : ∃ m, k = m + 1 := ⟨k - 1, by omega⟩
            show (if pos < s.size then posL s m (pos + widL s pos) else pos) = _
            rw [if_pos hp]; rfl)
          clear hbi hsz
          go_wp2
          go_roundw
          case rel => exact ⟨pos + widL s pos, k - 1, rfl, by go_num, by omega, by omega, hid (by rw [← HS.out]; exact hP.out)⟩
          case measure =>
            have e : (Utf8.decode s pos).2 = widL s pos := rfl
            rw [e]
            simp
            omega
      · have hnx : ∀ ty, (Instr.next (.pointer (some ⟨w.heap.size, 0, none⟩)) true ty).run Tryd.prog (w.iter s pos) = _ := fun ty => run_next_end w s pos ty hp
        obtain rfl : pos = C := by rw [← hP.out, posL_end s _ pos (by omega)]
        obtain rfl : pos = s.size := by omega
        obtain rfl : R = s := by rw [HR.out, extract_all]
        clear hP HC HR
        go_wp2
        go_ret
        exact ⟨rfl, below_iter w _ _⟩
end Go.Proofs.YtlcbfikmljmlpaaDoor
/- Small letters: the program's and the reference's. -/
namespace Go.Proofs.YtlcbfikmljmlpaaDoor
set_option linter.unusedVariables false
open Go.RowKit
def foldN (n : Nat) : Nat := if 65 ≤ n ∧ n ≤ 90 then n + 32 else n
theorem foldN_lt (n : Nat) (h : n < 256) : foldN n < 256 := by unfold foldN; split <;> omega
def foldB (b : UInt8) : UInt8 := UInt8.ofNat (foldN b.toNat)
theorem foldB_v (b : UInt8) : byteV (foldB b) = .int .u8 (foldN b.toNat : Nat) := by
  have := foldN_lt b.toNat b.toNat_lt
  unfold byteV foldB
  rw [UInt8.toNat_ofNat', Nat.mod_eq_of_lt this]
def foldS (s : ByteArray) : ByteArray := ⟨(s.data.toList.map foldB).toArray⟩
theorem foldS_size (s : ByteArray) : (foldS s).size = s.size := by
  show (s.data.toList.map foldB).toArray.size = s.data.size
  simp
theorem small_any (b : UInt8) (w : World) : Calls Tryd.prog 40 #[byteV b] w fun e w' => e = .returned (byteV (foldB b)) ∧ w = w' := by
  rw [foldB_v]
  have hb := b.toNat_lt
  unfold byteV
  generalize b.toNat = x at *
  by_cases h1 : 65 ≤ x
  · have d1 : decide (65 ≤ (x : Int)) = true := decide_eq_true (by omega)
    by_cases h2 : x ≤ 90
    · have d2 : decide ((x : Int) ≤ 90) = true := decide_eq_true (by omega)
      have e : ((foldN x : Nat) : Int) = (x : Int) + 32 := by unfold foldN; rw [if_pos ⟨h1, h2⟩]; omega
      rw [e]
      clear e
      have z : ((x : Int) + 32) % 256 = (x : Int) + 32 := by omega
      go_enter Tryd.func40, Tryd.ntmps40
      go_wp2_with fail
      go_ret
      exact ⟨rfl, rfl⟩
    · have d2 : decide ((x : Int) ≤ 90) = false := decide_eq_false (by omega)
      have e : foldN x = x := by unfold foldN; rw [if_neg (by omega)]
      rw [e]
      clear e
      go_enter Tryd.func40, Tryd.ntmps40
      go_wp2_with fail
      go_ret
      exact ⟨rfl, rfl⟩
  · have d1 : decide (65 ≤ (x : Int)) = false := decide_eq_false (by omega)
    have e : foldN x = x := by unfold foldN; rw [if_neg (by omega)]
    rw [e]
    clear e
    go_enter Tryd.func40, Tryd.ntmps40
    go_wp2_with fail
    go_ret
    exact ⟨rfl, rfl⟩
/-- the first so many bytes are small -/
def foldTo (l : List UInt8) (k : Nat) : List UInt8 := (l.take k).map foldB ++ l.drop k
theorem foldTo_length (l : List UInt8) (k : Nat) : (foldTo l k).length = l.length := by unfold foldTo; simp; omega
theorem foldTo_at (l : List UInt8) (k : Nat) (h : k < l.length) : (foldTo l k)[k]? = some l[k] := by
  unfold foldTo
  rw [List.getElem?_append_right (by simp; omega)]
  simp [h, Nat.min_eq_left (Nat.le_of_lt h)]
theorem foldTo_set (l : List UInt8) (k : Nat) (h : k < l.length) : (foldTo l k).set k (foldB l[k]) = foldTo l (k + 1) := by
  unfold foldTo
  rw [List.set_append_right _ _ (by simp; omega)]
  have e : k - (List.map foldB (List.take k l)).length = 0 := by simp; omega
  rw [e, List.drop_eq_getElem_cons h, List.set_cons_zero, List.take_succ_eq_append_getElem h, List.map_append, List.append_assoc]
  rfl
theorem foldTo_all (l : List UInt8) : foldTo l l.length = l.map foldB := by unfold foldTo; simp
set_option maxRecDepth 20000 in
set_option maxHeartbeats 1000000 in
theorem fold_any (s : ByteArray) (w : World) (hs : s.size ≤ 140737488355328) :
    Calls Tryd.prog 21 #[.string s] w fun e w' => e = .returned (.string (foldS s)) ∧ Below w.heap.size w w' := by
  obtain ⟨c, fr, w1, hcv, hb, hrow, hlen⟩ := conv_row s w
  unfold foldS
  generalize s.data.toList = l at *
  have hsl : l.length ≤ 140737488355328 := by omega
  go_enter Tryd.func21, Tryd.ntmps21
  go_wp2_with fail
  rw [← hlen] at *
  go_loopw [10] (fun i wr => ∃ k : Nat, k ≤ l.length ∧ i = .int .i64 (k : Int) ∧ RowF wr w.heap.size fr ((foldTo l k).map byteV) ∧ Below w.heap.size w wr) (fun i _ => l.length - (intOf i).toNat)
  case atStart => exact ⟨0, by omega, rfl, by simpa [foldTo] using hrow, hb⟩
  case round =>
    obtain ⟨k, hk, rfl, hr, hbr⟩ := hrel
    by_cases hlt : k < l.length
    · have dk : decide ((k : Int) < (l.length : Int)) = true := decide_eq_true (by omega)
      have hm : k < ((foldTo l k).map byteV).length := by rw [List.length_map, foldTo_length]; exact hlt
      have hc := hr.cellAt k hm
      rw [List.getElem?_map, foldTo_at l k hlt, Option.map_some] at hc
      have hf := hr.frozenAt k hm
      have hst := hr.stored k (byteV (foldB l[k]))
      rw [← List.map_set, foldTo_set l k hlt] at hst
      clear hr hm
      have hcall := small_any l[k] wr
      generalize byteV l[k] = bv at *
      obtain ⟨y, hy⟩ : ∃ y : Int, byteV (foldB l[k]) = .int .u8 y := ⟨_, rfl⟩
      rw [hy] at hst hcall
      clear hy
      go_wp2_with fail
      refine hcall.mono ?_
      rintro e w2 ⟨rfl, rfl⟩
      clear hcall
      go_wp2_with fail
      exact ⟨⟨k + 1, by omega, by go_num, hst, hbr.setCell (Nat.le_refl _) _⟩, by simp [intOf]; omega⟩
    · obtain rfl : k = l.length := by omega
      have dk : decide ((l.length : Int) < (l.length : Int)) = false := decide_eq_false (by omega)
      rw [foldTo_all] at hr
      have hcv2 := conv_bs (some ⟨w.heap.size, 0, none⟩) c (l.map foldB) wr hr.sees
      rw [List.length_map] at hcv2
      clear hcv
      go_wp2_with fail
      go_ret
      exact ⟨rfl, hbr⟩
end Go.Proofs.YtlcbfikmljmlpaaDoor
/- The fixed calls of the statements of layer 26. -/
namespace Go.Proofs.YtlcbfikmljmlpaaDoor
set_option linter.unusedVariables false
open Go.RowKit
def kT : ByteArray := ⟨#[84, 105, 116, 108, 101]⟩
def kN : ByteArray := ⟨#[110, 195, 169]⟩
def kE : ByteArray := ⟨#[110, 195, 169, 101]⟩
theorem kT1 : foldS kT = ⟨#[116, 105, 116, 108, 101]⟩ := by rfl
theorem kN1 : lenL kN kN.size 0 = 2 := by decide +kernel
theorem kE1 : posL kE (2 : Int).toNat 0 = 3 := by decide +kernel
theorem kE2 : kE.extract 0 3 = ⟨#[110, 195, 169]⟩ := by rfl
set_option maxHeartbeats 400000 in
theorem known_any (w : World) :
    Calls Tryd.prog 10 #[] w fun e w' => e = .returned (.bool true) ∧ Below w.heap.size w w' := by
  have e1 := fun w => fold_any kT w (by decide)
  rw [kT1] at e1
  have e2 := fun w => letters_any kN w (by decide)
  rw [kN1] at e2
  have e3 := fun w => cut_any kE 2 w (by decide) (by decide)
  rw [kE1, kE2] at e3
  unfold kT at e1
  unfold kN at e2
  unfold kE at e3
  go_enter Tryd.func10, Tryd.ntmps10
  go_wp2_with fail
  refine (e1 _).mono ?_
  rintro e w1 ⟨rfl, hb1⟩
  go_wp2_with fail
  refine (e2 _).mono ?_
  rintro e w2 ⟨rfl, hb2⟩
  replace hb2 := hb1.trans (hb2.mono hb1.size)
  clear hb1
  go_wp2_with fail
  refine (e3 _).mono ?_
  rintro e w3 ⟨rfl, hb3⟩
  replace hb3 := hb2.trans (hb3.mono hb2.size)
  clear hb2
  go_wp2_with fail
  go_ret
  exact ⟨rfl, hb3⟩
end Go.Proofs.YtlcbfikmljmlpaaDoor
