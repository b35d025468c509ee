/- Which settings may be: the reference. -/
import Derived.Test.YtafjjkcfndaclaaInfoConf
namespace Go.Proofs.Ytafjjkcfndaclaa
set_option linter.unusedVariables false
open Go.RowKit
set_option maxHeartbeats 4000000 in
theorem rconfig_any (blk ord win shp tgt res : Int) (w : World) :
    Calls Try.prog 20 #[.agg #[.int .i64 blk, .int .i64 ord, .int .i64 win, .int .i64 shp, .int .i64 tgt, .int .i64 res]] w fun e w' => e = .returned (.int .i64 (codeC blk ord win shp tgt res)) ∧ Below w.heap.size w w' := by
  have hb : Below w.heap.size w (w.alloc (.cells #[.int .i64 blk, .int .i64 ord, .int .i64 win, .int .i64 shp, .int .i64 tgt, .int .i64 res] 37)) := (Below.refl _ w).alloc (Nat.le_refl _) _
  have hrow := heap_alloc_new w (.cells #[.int .i64 blk, .int .i64 ord, .int .i64 win, .int .i64 shp, .int .i64 tgt, .int .i64 res] 37)
  have c0 : (w.alloc (.cells #[.int .i64 blk, .int .i64 ord, .int .i64 win, .int .i64 shp, .int .i64 tgt, .int .i64 res] 37)).cell? ⟨w.heap.size, 0, none⟩ = some (.int .i64 blk) := by rw [cell_of_row _ _ _ _ _ _ hrow]; rfl
  have c1 : (w.alloc (.cells #[.int .i64 blk, .int .i64 ord, .int .i64 win, .int .i64 shp, .int .i64 tgt, .int .i64 res] 37)).cell? ⟨w.heap.size, 1, none⟩ = some (.int .i64 ord) := by rw [cell_of_row _ _ _ _ _ _ hrow]; rfl
  have c2 : (w.alloc (.cells #[.int .i64 blk, .int .i64 ord, .int .i64 win, .int .i64 shp, .int .i64 tgt, .int .i64 res] 37)).cell? ⟨w.heap.size, 2, none⟩ = some (.int .i64 win) := by rw [cell_of_row _ _ _ _ _ _ hrow]; rfl
  have c3 : (w.alloc (.cells #[.int .i64 blk, .int .i64 ord, .int .i64 win, .int .i64 shp, .int .i64 tgt, .int .i64 res] 37)).cell? ⟨w.heap.size, 3, none⟩ = some (.int .i64 shp) := by rw [cell_of_row _ _ _ _ _ _ hrow]; rfl
  have c4 : (w.alloc (.cells #[.int .i64 blk, .int .i64 ord, .int .i64 win, .int .i64 shp, .int .i64 tgt, .int .i64 res] 37)).cell? ⟨w.heap.size, 4, none⟩ = some (.int .i64 tgt) := by rw [cell_of_row _ _ _ _ _ _ hrow]; rfl
  have c5 : (w.alloc (.cells #[.int .i64 blk, .int .i64 ord, .int .i64 win, .int .i64 shp, .int .i64 tgt, .int .i64 res] 37)).cell? ⟨w.heap.size, 5, none⟩ = some (.int .i64 res) := by rw [cell_of_row _ _ _ _ _ _ hrow]; rfl
  clear hrow
  by_cases a0 : blk < 256
  · have e0 : decide (blk < 256) = true := decide_eq_true a0
    go_enter Try.func20, Try.ntmps20
    go_wp2_with fail
    go_ret
    exact ⟨ret_int (by unfold codeC rightC; rw [if_neg]; simp; omega), hb⟩
  have e0 : decide (blk < 256) = false := decide_eq_false a0
  by_cases a1 : 65536 < blk
  · have e1 : decide (65536 < blk) = true := decide_eq_true a1
    go_enter Try.func20, Try.ntmps20
    go_wp2_with fail
    go_ret
    exact ⟨ret_int (by unfold codeC rightC; rw [if_neg]; simp; omega), hb⟩
  have e1 : decide (65536 < blk) = false := decide_eq_false a1
  by_cases a2 : ord < 0
  · have e2 : decide (ord < 0) = true := decide_eq_true a2
    go_enter Try.func20, Try.ntmps20
    go_wp2_with fail
    go_ret
    exact ⟨ret_int (by unfold codeC rightC; rw [if_neg]; simp; omega), hb⟩
  have e2 : decide (ord < 0) = false := decide_eq_false a2
  by_cases a3 : 32 < ord
  · have e3 : decide (32 < ord) = true := decide_eq_true a3
    go_enter Try.func20, Try.ntmps20
    go_wp2_with fail
    go_ret
    exact ⟨ret_int (by unfold codeC rightC; rw [if_neg]; simp; omega), hb⟩
  have e3 : decide (32 < ord) = false := decide_eq_false a3
  by_cases a4 : win < 0
  · have e4 : decide (win < 0) = true := decide_eq_true a4
    go_enter Try.func20, Try.ntmps20
    go_wp2_with fail
    go_ret
    exact ⟨ret_int (by unfold codeC rightC; rw [if_neg]; simp; omega), hb⟩
  have e4 : decide (win < 0) = false := decide_eq_false a4
  by_cases a5 : 2 < win
  · have e5 : decide (2 < win) = true := decide_eq_true a5
    go_enter Try.func20, Try.ntmps20
    go_wp2_with fail
    go_ret
    exact ⟨ret_int (by unfold codeC rightC; rw [if_neg]; simp; omega), hb⟩
  have e5 : decide (2 < win) = false := decide_eq_false a5
  by_cases a6 : shp < 0
  · have e6 : decide (shp < 0) = true := decide_eq_true a6
    go_enter Try.func20, Try.ntmps20
    go_wp2_with fail
    go_ret
    exact ⟨ret_int (by unfold codeC rightC; rw [if_neg]; simp; omega), hb⟩
  have e6 : decide (shp < 0) = false := decide_eq_false a6
  by_cases a7 : 3 < shp
  · have e7 : decide (3 < shp) = true := decide_eq_true a7
    go_enter Try.func20, Try.ntmps20
    go_wp2_with fail
    go_ret
    exact ⟨ret_int (by unfold codeC rightC; rw [if_neg]; simp; omega), hb⟩
  have e7 : decide (3 < shp) = false := decide_eq_false a7
  by_cases a8 : tgt < 1
  · have e8 : decide (tgt < 1) = true := decide_eq_true a8
    go_enter Try.func20, Try.ntmps20
    go_wp2_with fail
    go_ret
    exact ⟨ret_int (by unfold codeC rightC; rw [if_neg]; simp; omega), hb⟩
  have e8 : decide (tgt < 1) = false := decide_eq_false a8
  by_cases a9 : 1073741824 < tgt
  · have e9 : decide (1073741824 < tgt) = true := decide_eq_true a9
    go_enter Try.func20, Try.ntmps20
    go_wp2_with fail
    go_ret
    exact ⟨ret_int (by unfold codeC rightC; rw [if_neg]; simp; omega), hb⟩
  have e9 : decide (1073741824 < tgt) = false := decide_eq_false a9
  by_cases a10 : res < 0
  · have e10 : decide (res < 0) = true := decide_eq_true a10
    go_enter Try.func20, Try.ntmps20
    go_wp2_with fail
    go_ret
    exact ⟨ret_int (by unfold codeC rightC; rw [if_neg]; simp; omega), hb⟩
  have e10 : decide (res < 0) = false := decide_eq_false a10
  by_cases a11 : 1073741824 < res
  · have e11 : decide (1073741824 < res) = true := decide_eq_true a11
    go_enter Try.func20, Try.ntmps20
    go_wp2_with fail
    go_ret
    exact ⟨ret_int (by unfold codeC rightC; rw [if_neg]; simp; omega), hb⟩
  have e11 : decide (1073741824 < res) = false := decide_eq_false a11
  go_enter Try.func20, Try.ntmps20
  go_wp2_with fail
  go_ret
  exact ⟨ret_int (by unfold codeC rightC; rw [if_pos]; simp; omega), hb⟩
end Go.Proofs.Ytafjjkcfndaclaa
