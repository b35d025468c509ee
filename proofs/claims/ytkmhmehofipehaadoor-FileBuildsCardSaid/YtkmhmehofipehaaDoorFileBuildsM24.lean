/- Which info may be. -/
import Derived.Test.YtkmhmehofipehaaDoorFileBuildsM23
namespace Go.Proofs.YtkmhmehofipehaaDoor
set_option linter.unusedVariables false
open Go.RowKit
def rightI (k ch bi ra bl sh : Int) : Bool := decide ((1 ≤ k ∧ k ≤ 3) ∧ rightF ch bi ra = true ∧ (256 ≤ bl ∧ bl ≤ 65536) ∧ (0 ≤ sh ∧ sh ≤ 3) ∧ (k = 3 → sh = 0))
set_option maxHeartbeats 400000 in
theorem iwithin_any (x lo hi : Int) (b : Bool) (w : World) (h : decide (lo ≤ x ∧ x ≤ hi) = b) :
    Calls Tryd.prog 92 #[.int .i64 x, .int .i64 lo, .int .i64 hi] w fun e w' => e = .returned (.bool b) ∧ w = w' := by
  subst h
  by_cases h1 : lo ≤ x
  · have d1 : decide (lo ≤ x) = true := by simpa using h1
    by_cases h2 : x ≤ hi
    · have d2 : decide (x ≤ hi) = true := by simpa using h2
      go_enter Tryd.func92, Tryd.ntmps92
      go_wp2_with fail
      go_ret
      exact ⟨ret_bool (by simp [h1, h2]), rfl⟩
    · have d2 : decide (x ≤ hi) = false := by simpa using h2
      go_enter Tryd.func92, Tryd.ntmps92
      go_wp2_with fail
      go_ret
      exact ⟨ret_bool (by simp), rfl⟩
  · have d1 : decide (lo ≤ x) = false := by simpa using h1
    go_enter Tryd.func92, Tryd.ntmps92
    go_wp2_with fail
    go_ret
    exact ⟨ret_bool (by simp), rfl⟩
set_option maxHeartbeats 2000000 in
theorem iright_any (k ch bi ra bl sh : Int) (w : World) :
    Calls Tryd.prog 63 #[.agg #[.int .i64 k, .int .i64 ch, .int .i64 bi, .int .i64 ra, .int .i64 bl, .int .i64 sh]] w fun e w' => e = .returned (.bool (rightI k ch bi ra bl sh)) ∧ Below w.heap.size w w' := by
  have hb : Below w.heap.size w (w.alloc (.cells #[.int .i64 k, .int .i64 ch, .int .i64 bi, .int .i64 ra, .int .i64 bl, .int .i64 sh] 25)) := (Below.refl _ w).alloc (Nat.le_refl _) _
  have b0 : (w.alloc (.cells #[.int .i64 k, .int .i64 ch, .int .i64 bi, .int .i64 ra, .int .i64 bl, .int .i64 sh] 25)).cell? ⟨w.heap.size, 0, none⟩ = some (.int .i64 k) := by rw [cell_of_row _ _ _ _ _ _ (heap_alloc_new _ _)]; rfl
  have b1 : (w.alloc (.cells #[.int .i64 k, .int .i64 ch, .int .i64 bi, .int .i64 ra, .int .i64 bl, .int .i64 sh] 25)).cell? ⟨w.heap.size, 1, none⟩ = some (.int .i64 ch) := by rw [cell_of_row _ _ _ _ _ _ (heap_alloc_new _ _)]; rfl
  have b2 : (w.alloc (.cells #[.int .i64 k, .int .i64 ch, .int .i64 bi, .int .i64 ra, .int .i64 bl, .int .i64 sh] 25)).cell? ⟨w.heap.size, 2, none⟩ = some (.int .i64 bi) := by rw [cell_of_row _ _ _ _ _ _ (heap_alloc_new _ _)]; rfl
  have b3 : (w.alloc (.cells #[.int .i64 k, .int .i64 ch, .int .i64 bi, .int .i64 ra, .int .i64 bl, .int .i64 sh] 25)).cell? ⟨w.heap.size, 3, none⟩ = some (.int .i64 ra) := by rw [cell_of_row _ _ _ _ _ _ (heap_alloc_new _ _)]; rfl
  have b4 : (w.alloc (.cells #[.int .i64 k, .int .i64 ch, .int .i64 bi, .int .i64 ra, .int .i64 bl, .int .i64 sh] 25)).cell? ⟨w.heap.size, 4, none⟩ = some (.int .i64 bl) := by rw [cell_of_row _ _ _ _ _ _ (heap_alloc_new _ _)]; rfl
  have b5 : (w.alloc (.cells #[.int .i64 k, .int .i64 ch, .int .i64 bi, .int .i64 ra, .int .i64 bl, .int .i64 sh] 25)).cell? ⟨w.heap.size, 5, none⟩ = some (.int .i64 sh) := by rw [cell_of_row _ _ _ _ _ _ (heap_alloc_new _ _)]; rfl
  by_cases h1 : ¬ (1 ≤ k ∧ k ≤ 3)
  · clear b0 b1 b2 b3 b4 b5
    go_enter Tryd.func63, Tryd.ntmps63
    go_wp2_with fail
    refine (iwithin_any k 1 3 false _ (decide_eq_false h1)).mono ?_
    rintro e w' ⟨rfl, rfl⟩
    go_wp2_with fail
    go_ret
    exact ⟨ret_bool (decide_eq_false (fun h => h1 h.1)).symm, hb⟩
  replace h1 := Decidable.not_not.1 h1
  cases h2 : rightF ch bi ra with
  | false =>
    go_enter Tryd.func63, Tryd.ntmps63
    go_wp2_with fail
    refine (iwithin_any k 1 3 true _ (decide_eq_true h1)).mono ?_
    rintro e w' ⟨rfl, rfl⟩
    go_wp2_with fail
    generalize hw0 : w.alloc (.cells #[.int .i64 k, .int .i64 ch, .int .i64 bi, .int .i64 ra, .int .i64 bl, .int .i64 sh] 25) = w0 at *
    clear hw0
    refine (pright_any ch bi ra _).mono ?_
    rintro e w1 ⟨rfl, hb1⟩
    rw [h2]
    have hb2 := hb.trans (hb1.mono hb.size)
    have c0 : w1.cell? ⟨w.heap.size, 0, none⟩ = some (.int .i64 k) := (hb1.cell (block_lt_of_cell b0)).trans b0
    have c1 : w1.cell? ⟨w.heap.size, 1, none⟩ = some (.int .i64 ch) := (hb1.cell (block_lt_of_cell b1)).trans b1
    have c2 : w1.cell? ⟨w.heap.size, 2, none⟩ = some (.int .i64 bi) := (hb1.cell (block_lt_of_cell b2)).trans b2
    have c3 : w1.cell? ⟨w.heap.size, 3, none⟩ = some (.int .i64 ra) := (hb1.cell (block_lt_of_cell b3)).trans b3
    have c4 : w1.cell? ⟨w.heap.size, 4, none⟩ = some (.int .i64 bl) := (hb1.cell (block_lt_of_cell b4)).trans b4
    have c5 : w1.cell? ⟨w.heap.size, 5, none⟩ = some (.int .i64 sh) := (hb1.cell (block_lt_of_cell b5)).trans b5
    go_wp2_with fail
    go_ret
    exact ⟨ret_bool (decide_eq_false (fun h => by rw [h2] at h; simp at h)).symm, hb2⟩
  | true =>
  by_cases h3 : ¬ (256 ≤ bl ∧ bl ≤ 65536)
  ·
    go_enter Tryd.func63, Tryd.ntmps63
    go_wp2_with fail
    refine (iwithin_any k 1 3 true _ (decide_eq_true h1)).mono ?_
    rintro e w' ⟨rfl, rfl⟩
    go_wp2_with fail
    generalize hw0 : w.alloc (.cells #[.int .i64 k, .int .i64 ch, .int .i64 bi, .int .i64 ra, .int .i64 bl, .int .i64 sh] 25) = w0 at *
    clear hw0
    refine (pright_any ch bi ra _).mono ?_
    rintro e w1 ⟨rfl, hb1⟩
    rw [h2]
    have hb2 := hb.trans (hb1.mono hb.size)
    have c0 : w1.cell? ⟨w.heap.size, 0, none⟩ = some (.int .i64 k) := (hb1.cell (block_lt_of_cell b0)).trans b0
    have c1 : w1.cell? ⟨w.heap.size, 1, none⟩ = some (.int .i64 ch) := (hb1.cell (block_lt_of_cell b1)).trans b1
    have c2 : w1.cell? ⟨w.heap.size, 2, none⟩ = some (.int .i64 bi) := (hb1.cell (block_lt_of_cell b2)).trans b2
    have c3 : w1.cell? ⟨w.heap.size, 3, none⟩ = some (.int .i64 ra) := (hb1.cell (block_lt_of_cell b3)).trans b3
    have c4 : w1.cell? ⟨w.heap.size, 4, none⟩ = some (.int .i64 bl) := (hb1.cell (block_lt_of_cell b4)).trans b4
    have c5 : w1.cell? ⟨w.heap.size, 5, none⟩ = some (.int .i64 sh) := (hb1.cell (block_lt_of_cell b5)).trans b5
    go_wp2_with fail
    refine (iwithin_any bl 256 65536 false _ (decide_eq_false h3)).mono ?_
    rintro e w' ⟨rfl, rfl⟩
    go_wp2_with fail
    go_ret
    exact ⟨ret_bool (decide_eq_false (fun h => h3 h.2.2.1)).symm, hb2⟩
  replace h3 := Decidable.not_not.1 h3
  by_cases h4 : ¬ (0 ≤ sh ∧ sh ≤ 3)
  ·
    go_enter Tryd.func63, Tryd.ntmps63
    go_wp2_with fail
    refine (iwithin_any k 1 3 true _ (decide_eq_true h1)).mono ?_
    rintro e w' ⟨rfl, rfl⟩
    go_wp2_with fail
    generalize hw0 : w.alloc (.cells #[.int .i64 k, .int .i64 ch, .int .i64 bi, .int .i64 ra, .int .i64 bl, .int .i64 sh] 25) = w0 at *
    clear hw0
    refine (pright_any ch bi ra _).mono ?_
    rintro e w1 ⟨rfl, hb1⟩
    rw [h2]
    have hb2 := hb.trans (hb1.mono hb.size)
    have c0 : w1.cell? ⟨w.heap.size, 0, none⟩ = some (.int .i64 k) := (hb1.cell (block_lt_of_cell b0)).trans b0
    have c1 : w1.cell? ⟨w.heap.size, 1, none⟩ = some (.int .i64 ch) := (hb1.cell (block_lt_of_cell b1)).trans b1
    have c2 : w1.cell? ⟨w.heap.size, 2, none⟩ = some (.int .i64 bi) := (hb1.cell (block_lt_of_cell b2)).trans b2
    have c3 : w1.cell? ⟨w.heap.size, 3, none⟩ = some (.int .i64 ra) := (hb1.cell (block_lt_of_cell b3)).trans b3
    have c4 : w1.cell? ⟨w.heap.size, 4, none⟩ = some (.int .i64 bl) := (hb1.cell (block_lt_of_cell b4)).trans b4
    have c5 : w1.cell? ⟨w.heap.size, 5, none⟩ = some (.int .i64 sh) := (hb1.cell (block_lt_of_cell b5)).trans b5
    go_wp2_with fail
    refine (iwithin_any bl 256 65536 true _ (decide_eq_true h3)).mono ?_
    rintro e w' ⟨rfl, rfl⟩
    go_wp2_with fail
    refine (iwithin_any sh 0 3 false _ (decide_eq_false h4)).mono ?_
    rintro e w' ⟨rfl, rfl⟩
    go_wp2_with fail
    go_ret
    exact ⟨ret_bool (decide_eq_false (fun h => h4 h.2.2.2.1)).symm, hb2⟩
  replace h4 := Decidable.not_not.1 h4
  by_cases h5 : k = 3
  · have d5 : (k != 3) = false := by simpa using h5
    have H5 := hid h5
    clear h5
    by_cases h6 : sh = 0
    · have d6 : (sh == 0) = true := by simpa using h6
      have H6 := hid h6
      clear h6
      go_enter Tryd.func63, Tryd.ntmps63
      go_wp2_with fail
      refine (iwithin_any k 1 3 true _ (decide_eq_true h1)).mono ?_
      rintro e w' ⟨rfl, rfl⟩
      go_wp2_with fail
      generalize hw0 : w.alloc (.cells #[.int .i64 k, .int .i64 ch, .int .i64 bi, .int .i64 ra, .int .i64 bl, .int .i64 sh] 25) = w0 at *
      clear hw0
      refine (pright_any ch bi ra _).mono ?_
      rintro e w1 ⟨rfl, hb1⟩
      rw [h2]
      have hb2 := hb.trans (hb1.mono hb.size)
      have c0 : w1.cell? ⟨w.heap.size, 0, none⟩ = some (.int .i64 k) := (hb1.cell (block_lt_of_cell b0)).trans b0
      have c1 : w1.cell? ⟨w.heap.size, 1, none⟩ = some (.int .i64 ch) := (hb1.cell (block_lt_of_cell b1)).trans b1
      have c2 : w1.cell? ⟨w.heap.size, 2, none⟩ = some (.int .i64 bi) := (hb1.cell (block_lt_of_cell b2)).trans b2
      have c3 : w1.cell? ⟨w.heap.size, 3, none⟩ = some (.int .i64 ra) := (hb1.cell (block_lt_of_cell b3)).trans b3
      have c4 : w1.cell? ⟨w.heap.size, 4, none⟩ = some (.int .i64 bl) := (hb1.cell (block_lt_of_cell b4)).trans b4
      have c5 : w1.cell? ⟨w.heap.size, 5, none⟩ = some (.int .i64 sh) := (hb1.cell (block_lt_of_cell b5)).trans b5
      go_wp2_with fail
      refine (iwithin_any bl 256 65536 true _ (decide_eq_true h3)).mono ?_
      rintro e w' ⟨rfl, rfl⟩
      go_wp2_with fail
      refine (iwithin_any sh 0 3 true _ (decide_eq_true h4)).mono ?_
      rintro e w' ⟨rfl, rfl⟩
      go_wp2_with fail
      go_ret
      exact ⟨ret_bool (decide_eq_true ⟨h1, h2, h3, h4, fun _ => H6.out⟩).symm, hb2⟩
    · have d6 : (sh == 0) = false := by simpa using h6
      go_enter Tryd.func63, Tryd.ntmps63
      go_wp2_with fail
      refine (iwithin_any k 1 3 true _ (decide_eq_true h1)).mono ?_
      rintro e w' ⟨rfl, rfl⟩
      go_wp2_with fail
      generalize hw0 : w.alloc (.cells #[.int .i64 k, .int .i64 ch, .int .i64 bi, .int .i64 ra, .int .i64 bl, .int .i64 sh] 25) = w0 at *
      clear hw0
      refine (pright_any ch bi ra _).mono ?_
      rintro e w1 ⟨rfl, hb1⟩
      rw [h2]
      have hb2 := hb.trans (hb1.mono hb.size)
      have c0 : w1.cell? ⟨w.heap.size, 0, none⟩ = some (.int .i64 k) := (hb1.cell (block_lt_of_cell b0)).trans b0
      have c1 : w1.cell? ⟨w.heap.size, 1, none⟩ = some (.int .i64 ch) := (hb1.cell (block_lt_of_cell b1)).trans b1
      have c2 : w1.cell? ⟨w.heap.size, 2, none⟩ = some (.int .i64 bi) := (hb1.cell (block_lt_of_cell b2)).trans b2
      have c3 : w1.cell? ⟨w.heap.size, 3, none⟩ = some (.int .i64 ra) := (hb1.cell (block_lt_of_cell b3)).trans b3
      have c4 : w1.cell? ⟨w.heap.size, 4, none⟩ = some (.int .i64 bl) := (hb1.cell (block_lt_of_cell b4)).trans b4
      have c5 : w1.cell? ⟨w.heap.size, 5, none⟩ = some (.int .i64 sh) := (hb1.cell (block_lt_of_cell b5)).trans b5
      go_wp2_with fail
      refine (iwithin_any bl 256 65536 true _ (decide_eq_true h3)).mono ?_
      rintro e w' ⟨rfl, rfl⟩
      go_wp2_with fail
      refine (iwithin_any sh 0 3 true _ (decide_eq_true h4)).mono ?_
      rintro e w' ⟨rfl, rfl⟩
      go_wp2_with fail
      go_ret
      exact ⟨ret_bool (decide_eq_false (fun h => h6 (h.2.2.2.2 H5.out))).symm, hb2⟩
  · have d5 : (k != 3) = true := by simpa using h5
    go_enter Tryd.func63, Tryd.ntmps63
    go_wp2_with fail
    refine (iwithin_any k 1 3 true _ (decide_eq_true h1)).mono ?_
    rintro e w' ⟨rfl, rfl⟩
    go_wp2_with fail
    generalize hw0 : w.alloc (.cells #[.int .i64 k, .int .i64 ch, .int .i64 bi, .int .i64 ra, .int .i64 bl, .int .i64 sh] 25) = w0 at *
    clear hw0
    refine (pright_any ch bi ra _).mono ?_
    rintro e w1 ⟨rfl, hb1⟩
    rw [h2]
    have hb2 := hb.trans (hb1.mono hb.size)
    have c0 : w1.cell? ⟨w.heap.size, 0, none⟩ = some (.int .i64 k) := (hb1.cell (block_lt_of_cell b0)).trans b0
    have c1 : w1.cell? ⟨w.heap.size, 1, none⟩ = some (.int .i64 ch) := (hb1.cell (block_lt_of_cell b1)).trans b1
    have c2 : w1.cell? ⟨w.heap.size, 2, none⟩ = some (.int .i64 bi) := (hb1.cell (block_lt_of_cell b2)).trans b2
    have c3 : w1.cell? ⟨w.heap.size, 3, none⟩ = some (.int .i64 ra) := (hb1.cell (block_lt_of_cell b3)).trans b3
    have c4 : w1.cell? ⟨w.heap.size, 4, none⟩ = some (.int .i64 bl) := (hb1.cell (block_lt_of_cell b4)).trans b4
    have c5 : w1.cell? ⟨w.heap.size, 5, none⟩ = some (.int .i64 sh) := (hb1.cell (block_lt_of_cell b5)).trans b5
    go_wp2_with fail
    refine (iwithin_any bl 256 65536 true _ (decide_eq_true h3)).mono ?_
    rintro e w' ⟨rfl, rfl⟩
    go_wp2_with fail
    refine (iwithin_any sh 0 3 true _ (decide_eq_true h4)).mono ?_
    rintro e w' ⟨rfl, rfl⟩
    go_wp2_with fail
    go_ret
    exact ⟨ret_bool (decide_eq_true ⟨h1, h2, h3, h4, fun h => absurd h h5⟩).symm, hb2⟩
set_option maxHeartbeats 2000000 in
theorem riright_any (k ch bi ra bl sh : Int) (w : World) :
    Calls Tryd.prog 22 #[.agg #[.int .i64 k, .int .i64 ch, .int .i64 bi, .int .i64 ra, .int .i64 bl, .int .i64 sh]] w fun e w' => e = .returned (.bool (rightI k ch bi ra bl sh)) ∧ Below w.heap.size w w' := by
  have hb : Below w.heap.size w (w.alloc (.cells #[.int .i64 k, .int .i64 ch, .int .i64 bi, .int .i64 ra, .int .i64 bl, .int .i64 sh] 25)) := (Below.refl _ w).alloc (Nat.le_refl _) _
  have b0 : (w.alloc (.cells #[.int .i64 k, .int .i64 ch, .int .i64 bi, .int .i64 ra, .int .i64 bl, .int .i64 sh] 25)).cell? ⟨w.heap.size, 0, none⟩ = some (.int .i64 k) := by rw [cell_of_row _ _ _ _ _ _ (heap_alloc_new _ _)]; rfl
  have b1 : (w.alloc (.cells #[.int .i64 k, .int .i64 ch, .int .i64 bi, .int .i64 ra, .int .i64 bl, .int .i64 sh] 25)).cell? ⟨w.heap.size, 1, none⟩ = some (.int .i64 ch) := by rw [cell_of_row _ _ _ _ _ _ (heap_alloc_new _ _)]; rfl
  have b2 : (w.alloc (.cells #[.int .i64 k, .int .i64 ch, .int .i64 bi, .int .i64 ra, .int .i64 bl, .int .i64 sh] 25)).cell? ⟨w.heap.size, 2, none⟩ = some (.int .i64 bi) := by rw [cell_of_row _ _ _ _ _ _ (heap_alloc_new _ _)]; rfl
  have b3 : (w.alloc (.cells #[.int .i64 k, .int .i64 ch, .int .i64 bi, .int .i64 ra, .int .i64 bl, .int .i64 sh] 25)).cell? ⟨w.heap.size, 3, none⟩ = some (.int .i64 ra) := by rw [cell_of_row _ _ _ _ _ _ (heap_alloc_new _ _)]; rfl
  have b4 : (w.alloc (.cells #[.int .i64 k, .int .i64 ch, .int .i64 bi, .int .i64 ra, .int .i64 bl, .int .i64 sh] 25)).cell? ⟨w.heap.size, 4, none⟩ = some (.int .i64 bl) := by rw [cell_of_row _ _ _ _ _ _ (heap_alloc_new _ _)]; rfl
  have b5 : (w.alloc (.cells #[.int .i64 k, .int .i64 ch, .int .i64 bi, .int .i64 ra, .int .i64 bl, .int .i64 sh] 25)).cell? ⟨w.heap.size, 5, none⟩ = some (.int .i64 sh) := by rw [cell_of_row _ _ _ _ _ _ (heap_alloc_new _ _)]; rfl
  by_cases t0 : k < 1
  · have e0 : decide (k < 1) = true := by simpa using t0
    have hno : ¬ ((1 ≤ k ∧ k ≤ 3) ∧ rightF ch bi ra = true ∧ (256 ≤ bl ∧ bl ≤ 65536) ∧ (0 ≤ sh ∧ sh ≤ 3) ∧ (k = 3 → sh = 0)) := fun h => by have := h.1; have := h.2.2.1; have := h.2.2.2.1; omega
    have HNO := hid hno
    clear hno
    go_enter Tryd.func22, Tryd.ntmps22
    go_wp2_with fail
    go_ret
    exact ⟨ret_bool (decide_eq_false HNO.out).symm, hb⟩
  have e0 : decide (k < 1) = false := by simpa using t0
  by_cases t1 : 3 < k
  · have e1 : decide (3 < k) = true := by simpa using t1
    have hno : ¬ ((1 ≤ k ∧ k ≤ 3) ∧ rightF ch bi ra = true ∧ (256 ≤ bl ∧ bl ≤ 65536) ∧ (0 ≤ sh ∧ sh ≤ 3) ∧ (k = 3 → sh = 0)) := fun h => by have := h.1; have := h.2.2.1; have := h.2.2.2.1; omega
    have HNO := hid hno
    clear hno
    go_enter Tryd.func22, Tryd.ntmps22
    go_wp2_with fail
    go_ret
    exact ⟨ret_bool (decide_eq_false HNO.out).symm, hb⟩
  have e1 : decide (3 < k) = false := by simpa using t1
  cases h2 : rightF ch bi ra with
  | false =>
    go_enter Tryd.func22, Tryd.ntmps22
    go_wp2_with fail
    generalize hw0 : w.alloc (.cells #[.int .i64 k, .int .i64 ch, .int .i64 bi, .int .i64 ra, .int .i64 bl, .int .i64 sh] 25) = w0 at *
    clear hw0
    refine (rpright_any ch bi ra _).mono ?_
    rintro e w1 ⟨rfl, hb1⟩
    rw [h2]
    have hb2 := hb.trans (hb1.mono hb.size)
    have c0 : w1.cell? ⟨w.heap.size, 0, none⟩ = some (.int .i64 k) := (hb1.cell (block_lt_of_cell b0)).trans b0
    have c1 : w1.cell? ⟨w.heap.size, 1, none⟩ = some (.int .i64 ch) := (hb1.cell (block_lt_of_cell b1)).trans b1
    have c2 : w1.cell? ⟨w.heap.size, 2, none⟩ = some (.int .i64 bi) := (hb1.cell (block_lt_of_cell b2)).trans b2
    have c3 : w1.cell? ⟨w.heap.size, 3, none⟩ = some (.int .i64 ra) := (hb1.cell (block_lt_of_cell b3)).trans b3
    have c4 : w1.cell? ⟨w.heap.size, 4, none⟩ = some (.int .i64 bl) := (hb1.cell (block_lt_of_cell b4)).trans b4
    have c5 : w1.cell? ⟨w.heap.size, 5, none⟩ = some (.int .i64 sh) := (hb1.cell (block_lt_of_cell b5)).trans b5
    go_wp2_with fail
    go_ret
    exact ⟨ret_bool (decide_eq_false (fun h => by rw [h2] at h; simp at h)).symm, hb2⟩
  | true =>
  by_cases t3 : bl < 256
  · have e3 : decide (bl < 256) = true := by simpa using t3
    have hno : ¬ ((1 ≤ k ∧ k ≤ 3) ∧ rightF ch bi ra = true ∧ (256 ≤ bl ∧ bl ≤ 65536) ∧ (0 ≤ sh ∧ sh ≤ 3) ∧ (k = 3 → sh = 0)) := fun h => by have := h.1; have := h.2.2.1; have := h.2.2.2.1; omega
    have HNO := hid hno
    clear hno
    go_enter Tryd.func22, Tryd.ntmps22
    go_wp2_with fail
    generalize hw0 : w.alloc (.cells #[.int .i64 k, .int .i64 ch, .int .i64 bi, .int .i64 ra, .int .i64 bl, .int .i64 sh] 25) = w0 at *
    clear hw0
    refine (rpright_any ch bi ra _).mono ?_
    rintro e w1 ⟨rfl, hb1⟩
    rw [h2]
    have hb2 := hb.trans (hb1.mono hb.size)
    have c0 : w1.cell? ⟨w.heap.size, 0, none⟩ = some (.int .i64 k) := (hb1.cell (block_lt_of_cell b0)).trans b0
    have c1 : w1.cell? ⟨w.heap.size, 1, none⟩ = some (.int .i64 ch) := (hb1.cell (block_lt_of_cell b1)).trans b1
    have c2 : w1.cell? ⟨w.heap.size, 2, none⟩ = some (.int .i64 bi) := (hb1.cell (block_lt_of_cell b2)).trans b2
    have c3 : w1.cell? ⟨w.heap.size, 3, none⟩ = some (.int .i64 ra) := (hb1.cell (block_lt_of_cell b3)).trans b3
    have c4 : w1.cell? ⟨w.heap.size, 4, none⟩ = some (.int .i64 bl) := (hb1.cell (block_lt_of_cell b4)).trans b4
    have c5 : w1.cell? ⟨w.heap.size, 5, none⟩ = some (.int .i64 sh) := (hb1.cell (block_lt_of_cell b5)).trans b5
    go_wp2_with fail
    go_ret
    exact ⟨ret_bool (decide_eq_false HNO.out).symm, hb2⟩
  have e3 : decide (bl < 256) = false := by simpa using t3
  by_cases t4 : 65536 < bl
  · have e4 : decide (65536 < bl) = true := by simpa using t4
    have hno : ¬ ((1 ≤ k ∧ k ≤ 3) ∧ rightF ch bi ra = true ∧ (256 ≤ bl ∧ bl ≤ 65536) ∧ (0 ≤ sh ∧ sh ≤ 3) ∧ (k = 3 → sh = 0)) := fun h => by have := h.1; have := h.2.2.1; have := h.2.2.2.1; omega
    have HNO := hid hno
    clear hno
    go_enter Tryd.func22, Tryd.ntmps22
    go_wp2_with fail
    generalize hw0 : w.alloc (.cells #[.int .i64 k, .int .i64 ch, .int .i64 bi, .int .i64 ra, .int .i64 bl, .int .i64 sh] 25) = w0 at *
    clear hw0
    refine (rpright_any ch bi ra _).mono ?_
    rintro e w1 ⟨rfl, hb1⟩
    rw [h2]
    have hb2 := hb.trans (hb1.mono hb.size)
    have c0 : w1.cell? ⟨w.heap.size, 0, none⟩ = some (.int .i64 k) := (hb1.cell (block_lt_of_cell b0)).trans b0
    have c1 : w1.cell? ⟨w.heap.size, 1, none⟩ = some (.int .i64 ch) := (hb1.cell (block_lt_of_cell b1)).trans b1
    have c2 : w1.cell? ⟨w.heap.size, 2, none⟩ = some (.int .i64 bi) := (hb1.cell (block_lt_of_cell b2)).trans b2
    have c3 : w1.cell? ⟨w.heap.size, 3, none⟩ = some (.int .i64 ra) := (hb1.cell (block_lt_of_cell b3)).trans b3
    have c4 : w1.cell? ⟨w.heap.size, 4, none⟩ = some (.int .i64 bl) := (hb1.cell (block_lt_of_cell b4)).trans b4
    have c5 : w1.cell? ⟨w.heap.size, 5, none⟩ = some (.int .i64 sh) := (hb1.cell (block_lt_of_cell b5)).trans b5
    go_wp2_with fail
    go_ret
    exact ⟨ret_bool (decide_eq_false HNO.out).symm, hb2⟩
  have e4 : decide (65536 < bl) = false := by simpa using t4
  by_cases t5 : sh < 0
  · have e5 : decide (sh < 0) = true := by simpa using t5
    have hno : ¬ ((1 ≤ k ∧ k ≤ 3) ∧ rightF ch bi ra = true ∧ (256 ≤ bl ∧ bl ≤ 65536) ∧ (0 ≤ sh ∧ sh ≤ 3) ∧ (k = 3 → sh = 0)) := fun h => by have := h.1; have := h.2.2.1; have := h.2.2.2.1; omega
    have HNO := hid hno
    clear hno
    go_enter Tryd.func22, Tryd.ntmps22
    go_wp2_with fail
    generalize hw0 : w.alloc (.cells #[.int .i64 k, .int .i64 ch, .int .i64 bi, .int .i64 ra, .int .i64 bl, .int .i64 sh] 25) = w0 at *
    clear hw0
    refine (rpright_any ch bi ra _).mono ?_
    rintro e w1 ⟨rfl, hb1⟩
    rw [h2]
    have hb2 := hb.trans (hb1.mono hb.size)
    have c0 : w1.cell? ⟨w.heap.size, 0, none⟩ = some (.int .i64 k) := (hb1.cell (block_lt_of_cell b0)).trans b0
    have c1 : w1.cell? ⟨w.heap.size, 1, none⟩ = some (.int .i64 ch) := (hb1.cell (block_lt_of_cell b1)).trans b1
    have c2 : w1.cell? ⟨w.heap.size, 2, none⟩ = some (.int .i64 bi) := (hb1.cell (block_lt_of_cell b2)).trans b2
    have c3 : w1.cell? ⟨w.heap.size, 3, none⟩ = some (.int .i64 ra) := (hb1.cell (block_lt_of_cell b3)).trans b3
    have c4 : w1.cell? ⟨w.heap.size, 4, none⟩ = some (.int .i64 bl) := (hb1.cell (block_lt_of_cell b4)).trans b4
    have c5 : w1.cell? ⟨w.heap.size, 5, none⟩ = some (.int .i64 sh) := (hb1.cell (block_lt_of_cell b5)).trans b5
    go_wp2_with fail
    go_ret
    exact ⟨ret_bool (decide_eq_false HNO.out).symm, hb2⟩
  have e5 : decide (sh < 0) = false := by simpa using t5
  by_cases t6 : 3 < sh
  · have e6 : decide (3 < sh) = true := by simpa using t6
    have hno : ¬ ((1 ≤ k ∧ k ≤ 3) ∧ rightF ch bi ra = true ∧ (256 ≤ bl ∧ bl ≤ 65536) ∧ (0 ≤ sh ∧ sh ≤ 3) ∧ (k = 3 → sh = 0)) := fun h => by have := h.1; have := h.2.2.1; have := h.2.2.2.1; omega
    have HNO := hid hno
    clear hno
    go_enter Tryd.func22, Tryd.ntmps22
    go_wp2_with fail
    generalize hw0 : w.alloc (.cells #[.int .i64 k, .int .i64 ch, .int .i64 bi, .int .i64 ra, .int .i64 bl, .int .i64 sh] 25) = w0 at *
    clear hw0
    refine (rpright_any ch bi ra _).mono ?_
    rintro e w1 ⟨rfl, hb1⟩
    rw [h2]
    have hb2 := hb.trans (hb1.mono hb.size)
    have c0 : w1.cell? ⟨w.heap.size, 0, none⟩ = some (.int .i64 k) := (hb1.cell (block_lt_of_cell b0)).trans b0
    have c1 : w1.cell? ⟨w.heap.size, 1, none⟩ = some (.int .i64 ch) := (hb1.cell (block_lt_of_cell b1)).trans b1
    have c2 : w1.cell? ⟨w.heap.size, 2, none⟩ = some (.int .i64 bi) := (hb1.cell (block_lt_of_cell b2)).trans b2
    have c3 : w1.cell? ⟨w.heap.size, 3, none⟩ = some (.int .i64 ra) := (hb1.cell (block_lt_of_cell b3)).trans b3
    have c4 : w1.cell? ⟨w.heap.size, 4, none⟩ = some (.int .i64 bl) := (hb1.cell (block_lt_of_cell b4)).trans b4
    have c5 : w1.cell? ⟨w.heap.size, 5, none⟩ = some (.int .i64 sh) := (hb1.cell (block_lt_of_cell b5)).trans b5
    go_wp2_with fail
    go_ret
    exact ⟨ret_bool (decide_eq_false HNO.out).symm, hb2⟩
  have e6 : decide (3 < sh) = false := by simpa using t6
  have h1 : 1 ≤ k ∧ k ≤ 3 := by omega
  have h3 : 256 ≤ bl ∧ bl ≤ 65536 := by omega
  have h4 : 0 ≤ sh ∧ sh ≤ 3 := by omega
  by_cases h5 : k = 3
  · have d5 : decide (k < 3) = false := by simp; omega
    by_cases h6 : sh = 0
    · have d6 : (sh == 0) = true := by simpa using h6
      have hy := hid (show ((1 ≤ k ∧ k ≤ 3) ∧ rightF ch bi ra = true ∧ (256 ≤ bl ∧ bl ≤ 65536) ∧ (0 ≤ sh ∧ sh ≤ 3) ∧ (k = 3 → sh = 0)) from ⟨h1, h2, h3, h4, fun _ => h6⟩)
      clear h5 h6
      go_enter Tryd.func22, Tryd.ntmps22
      go_wp2_with fail
      generalize hw0 : w.alloc (.cells #[.int .i64 k, .int .i64 ch, .int .i64 bi, .int .i64 ra, .int .i64 bl, .int .i64 sh] 25) = w0 at *
      clear hw0
      refine (rpright_any ch bi ra _).mono ?_
      rintro e w1 ⟨rfl, hb1⟩
      rw [h2]
      have hb2 := hb.trans (hb1.mono hb.size)
      have c0 : w1.cell? ⟨w.heap.size, 0, none⟩ = some (.int .i64 k) := (hb1.cell (block_lt_of_cell b0)).trans b0
      have c1 : w1.cell? ⟨w.heap.size, 1, none⟩ = some (.int .i64 ch) := (hb1.cell (block_lt_of_cell b1)).trans b1
      have c2 : w1.cell? ⟨w.heap.size, 2, none⟩ = some (.int .i64 bi) := (hb1.cell (block_lt_of_cell b2)).trans b2
      have c3 : w1.cell? ⟨w.heap.size, 3, none⟩ = some (.int .i64 ra) := (hb1.cell (block_lt_of_cell b3)).trans b3
      have c4 : w1.cell? ⟨w.heap.size, 4, none⟩ = some (.int .i64 bl) := (hb1.cell (block_lt_of_cell b4)).trans b4
      have c5 : w1.cell? ⟨w.heap.size, 5, none⟩ = some (.int .i64 sh) := (hb1.cell (block_lt_of_cell b5)).trans b5
      go_wp2_with fail
      go_ret
      exact ⟨ret_bool (decide_eq_true hy.out).symm, hb2⟩
    · have d6 : (sh == 0) = false := by simpa using h6
      have hy := hid (show ¬ ((1 ≤ k ∧ k ≤ 3) ∧ rightF ch bi ra = true ∧ (256 ≤ bl ∧ bl ≤ 65536) ∧ (0 ≤ sh ∧ sh ≤ 3) ∧ (k = 3 → sh = 0)) from fun h => h6 (h.2.2.2.2 h5))
      clear h5 h6
      go_enter Tryd.func22, Tryd.ntmps22
      go_wp2_with fail
      generalize hw0 : w.alloc (.cells #[.int .i64 k, .int .i64 ch, .int .i64 bi, .int .i64 ra, .int .i64 bl, .int .i64 sh] 25) = w0 at *
      clear hw0
      refine (rpright_any ch bi ra _).mono ?_
      rintro e w1 ⟨rfl, hb1⟩
      rw [h2]
      have hb2 := hb.trans (hb1.mono hb.size)
      have c0 : w1.cell? ⟨w.heap.size, 0, none⟩ = some (.int .i64 k) := (hb1.cell (block_lt_of_cell b0)).trans b0
      have c1 : w1.cell? ⟨w.heap.size, 1, none⟩ = some (.int .i64 ch) := (hb1.cell (block_lt_of_cell b1)).trans b1
      have c2 : w1.cell? ⟨w.heap.size, 2, none⟩ = some (.int .i64 bi) := (hb1.cell (block_lt_of_cell b2)).trans b2
      have c3 : w1.cell? ⟨w.heap.size, 3, none⟩ = some (.int .i64 ra) := (hb1.cell (block_lt_of_cell b3)).trans b3
      have c4 : w1.cell? ⟨w.heap.size, 4, none⟩ = some (.int .i64 bl) := (hb1.cell (block_lt_of_cell b4)).trans b4
      have c5 : w1.cell? ⟨w.heap.size, 5, none⟩ = some (.int .i64 sh) := (hb1.cell (block_lt_of_cell b5)).trans b5
      go_wp2_with fail
      go_ret
      exact ⟨ret_bool (decide_eq_false hy.out).symm, hb2⟩
  · have d5 : decide (k < 3) = true := by simp; omega
    have hy := hid (show ((1 ≤ k ∧ k ≤ 3) ∧ rightF ch bi ra = true ∧ (256 ≤ bl ∧ bl ≤ 65536) ∧ (0 ≤ sh ∧ sh ≤ 3) ∧ (k = 3 → sh = 0)) from ⟨h1, h2, h3, h4, fun h => absurd h h5⟩)
    go_enter Tryd.func22, Tryd.ntmps22
    go_wp2_with fail
    generalize hw0 : w.alloc (.cells #[.int .i64 k, .int .i64 ch, .int .i64 bi, .int .i64 ra, .int .i64 bl, .int .i64 sh] 25) = w0 at *
    clear hw0
    refine (rpright_any ch bi ra _).mono ?_
    rintro e w1 ⟨rfl, hb1⟩
    rw [h2]
    have hb2 := hb.trans (hb1.mono hb.size)
    have c0 : w1.cell? ⟨w.heap.size, 0, none⟩ = some (.int .i64 k) := (hb1.cell (block_lt_of_cell b0)).trans b0
    have c1 : w1.cell? ⟨w.heap.size, 1, none⟩ = some (.int .i64 ch) := (hb1.cell (block_lt_of_cell b1)).trans b1
    have c2 : w1.cell? ⟨w.heap.size, 2, none⟩ = some (.int .i64 bi) := (hb1.cell (block_lt_of_cell b2)).trans b2
    have c3 : w1.cell? ⟨w.heap.size, 3, none⟩ = some (.int .i64 ra) := (hb1.cell (block_lt_of_cell b3)).trans b3
    have c4 : w1.cell? ⟨w.heap.size, 4, none⟩ = some (.int .i64 bl) := (hb1.cell (block_lt_of_cell b4)).trans b4
    have c5 : w1.cell? ⟨w.heap.size, 5, none⟩ = some (.int .i64 sh) := (hb1.cell (block_lt_of_cell b5)).trans b5
    go_wp2_with fail
    go_ret
    exact ⟨ret_bool (decide_eq_true hy.out).symm, hb2⟩
end Go.Proofs.YtkmhmehofipehaaDoor
