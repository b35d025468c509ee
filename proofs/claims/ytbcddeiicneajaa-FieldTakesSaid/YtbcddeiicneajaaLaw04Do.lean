/- One call of a maker, whatever its kind. -/
import Derived.Test.YtbcddeiicneajaaLaw04Raw
namespace Go.Proofs.Ytbcddeiicneajaa
set_option linter.unusedVariables false
open Go.RowKit
set_option maxHeartbeats 2000000 in
theorem do_any (g : Nat) (R : Nat → Prop) (err : Int) (l : List UInt8) (k : Int) (v : Nat) (n : Int) (s : ByteArray) (w : World) (hm : Mk w g R err l) (hv : v < 18446744073709551616) (hl : l.length + s.size ≤ 140737488355000) :
    Calls Try.prog 10 #[.pointer (some ⟨g, 0, none⟩), .agg #[.int .i64 k, .int .u64 (v : Int), .int .i64 n, .string s]] w (DoPost w g R (err, l) (actR k v n s.data.toList)) := by
  have hsl : s.data.toList.length = s.size := by rw [Array.length_toList]; rfl
  have hbel : Below w.heap.size w (w.alloc (.cells #[.int .i64 k, .int .u64 (v : Int), .int .i64 n, .string s] 36)) := (Below.refl _ w).alloc (Nat.le_refl _) _
  have hrow := heap_alloc_new w (.cells #[.int .i64 k, .int .u64 (v : Int), .int .i64 n, .string s] 36)
  have hmb := hm.below hbel
  have hno : ¬ R w.heap.size := fun h => by have := hm.size _ h; omega
  have hwr : -9223372036854775808 ≤ wrap64 (v : Int) ∧ wrap64 (v : Int) < 9223372036854775808 := by have := wrap_i64_range (v : Int); rwa [IntWalk.i64_left] at this
  have c0 := cell_of_row _ w.heap.size 0 _ _ _ hrow
  have c1 := cell_of_row _ w.heap.size 1 _ _ _ hrow
  have c2 := cell_of_row _ w.heap.size 2 _ _ _ hrow
  have c3 := cell_of_row _ w.heap.size 3 _ _ _ hrow
  by_cases k0 : k = 0
  · subst k0
    rw [show actR 0 v n s.data.toList = refU v n from rfl]
    go_enter Try.func10, Try.ntmps10
    go_wp2_with fail
    generalize hw0 : w.alloc (.cells #[.int .i64 0, .int .u64 (v : Int), .int .i64 n, .string s] 36) = wb at *
    refine (makerU_any g R err l v n wb hmb hv (by omega)).mono ?_
    rintro e w1 ⟨rfl, R', hm1, hb1, hR1⟩
    have d1 : w1.cell? ⟨w.heap.size, 1, none⟩ = some (.int .u64 (v : Int)) := (World.cell?_of_block (w := wb) (hb1.block w.heap.size (block_lt_of_cell c1) hno)).trans c1
    have d2 : w1.cell? ⟨w.heap.size, 2, none⟩ = some (.int .i64 n) := (World.cell?_of_block (w := wb) (hb1.block w.heap.size (block_lt_of_cell c1) hno)).trans c2
    go_wp2_with fail
    refine (rU_any v n w1 hv).mono ?_
    rintro e w2 ⟨x, rfl, hx⟩
    go_wp2_with fail
    go_ret2
    rw [putU_lay] at hm1
    exact doPost_of hbel hm1 hb1 hR1 hx
  by_cases k1 : k = 1
  · subst k1
    rw [show actR 1 v n s.data.toList = refI (wrap64 v) n by rw [← IntWalk.i64_left]; rfl]
    go_enter Try.func10, Try.ntmps10
    go_wp2_with fail
    generalize hw0 : w.alloc (.cells #[.int .i64 1, .int .u64 (v : Int), .int .i64 n, .string s] 36) = wb at *
    refine (makerI_any g R err l (wrap64 (v : Int)) n wb hmb hwr (by omega)).mono ?_
    rintro e w1 ⟨rfl, R', hm1, hb1, hR1⟩
    have d1 : w1.cell? ⟨w.heap.size, 1, none⟩ = some (.int .u64 (v : Int)) := (World.cell?_of_block (w := wb) (hb1.block w.heap.size (block_lt_of_cell c1) hno)).trans c1
    have d2 : w1.cell? ⟨w.heap.size, 2, none⟩ = some (.int .i64 n) := (World.cell?_of_block (w := wb) (hb1.block w.heap.size (block_lt_of_cell c1) hno)).trans c2
    go_wp2_with fail
    refine (rI_any (wrap64 (v : Int)) n w1 hwr).mono ?_
    rintro e w2 ⟨x, rfl, hx⟩
    go_wp2_with fail
    go_ret2
    exact doPost_of hbel hm1 hb1 hR1 hx
  by_cases k2 : k = 2
  · subst k2
    exact do_raw g R err l v n s w hm hl
  by_cases k3 : k = 3
  · subst k3
    rw [show actR 3 v n s.data.toList = refText s.data.toList n from rfl]
    go_enter Try.func10, Try.ntmps10
    go_wp2_with fail
    generalize hw0 : w.alloc (.cells #[.int .i64 3, .int .u64 (v : Int), .int .i64 n, .string s] 36) = wb at *
    refine (text_any g R err l s n wb hmb hl).mono ?_
    rintro e w1 ⟨rfl, R', hm1, hb1, hR1⟩
    have d1 : w1.cell? ⟨w.heap.size, 3, none⟩ = some (.string s) := (World.cell?_of_block (w := wb) (hb1.block w.heap.size (block_lt_of_cell c1) hno)).trans c3
    have d2 : w1.cell? ⟨w.heap.size, 2, none⟩ = some (.int .i64 n) := (World.cell?_of_block (w := wb) (hb1.block w.heap.size (block_lt_of_cell c1) hno)).trans c2
    go_wp2_with fail
    refine (rtext_any s n w1 (by omega)).mono ?_
    rintro e w2 ⟨x, rfl, hx⟩
    go_wp2_with fail
    go_ret2
    rw [putText_lay] at hm1
    exact doPost_of hbel hm1 hb1 hR1 hx
  · have e0 : (k == 0) = false := by simpa using k0
    have e1 : (k == 1) = false := by simpa using k1
    have e2 : (k == 2) = false := by simpa using k2
    have e3 : (k == 3) = false := by simpa using k3
    rw [show actR k v n s.data.toList = (0, []) by unfold actR; rw [if_neg k0, if_neg k1, if_neg k2, if_neg k3]]
    go_enter Try.func10, Try.ntmps10
    go_wp2_with fail
    go_ret2
    have hlay : lay (err, l) (0, []) = (err, l) := by
      unfold lay; by_cases h : err ≠ 0
      · rw [if_pos h]
      · rw [if_neg h]; simp; omega
    refine doPost_of hbel (R1 := R) (by rw [hlay]; exact hmb) (But.refl R _) (fun b h => .inl h) (NewB.none_ _)
end Go.Proofs.Ytbcddeiicneajaa
