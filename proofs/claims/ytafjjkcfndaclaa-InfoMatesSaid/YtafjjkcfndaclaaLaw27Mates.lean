/- The walk of InfoMates. -/
import Derived.Test.YtafjjkcfndaclaaLaw27Known
import Derived.Test.YtafjjkcfndaclaaInfoMates
namespace Go.Proofs.Ytafjjkcfndaclaa.infoMates
set_option linter.unusedVariables false
open Go.RowKit
set_option maxHeartbeats 4000000 in
theorem walk (k ch bi ra bl sh k' ch' bi' ra' bl' sh' : Int) (w : World) :
    Calls Try.prog 4 #[.agg #[.int .i64 k, .int .i64 ch, .int .i64 bi, .int .i64 ra, .int .i64 bl, .int .i64 sh], .agg #[.int .i64 k', .int .i64 ch', .int .i64 bi', .int .i64 ra', .int .i64 bl', .int .i64 sh']] w fun e w' => e = .returned (.bool true) ∧ Below w.heap.size w w' := by
  have hb1 : Below w.heap.size w (w.alloc (.cells #[.int .i64 k, .int .i64 ch, .int .i64 bi, .int .i64 ra, .int .i64 bl, .int .i64 sh] 25)) := (Below.refl _ w).alloc (Nat.le_refl _) _
  have hmk : matesB k ch bi ra bl sh 2 ch bi ra bl sh = (k == 1) := by unfold matesB sameF; simp
  have hs1 : (w.alloc (.cells #[.int .i64 k, .int .i64 ch, .int .i64 bi, .int .i64 ra, .int .i64 bl, .int .i64 sh] 25)).heap.size = w.heap.size + 1 := by simp
  have hs2 : ((w.alloc (.cells #[.int .i64 k, .int .i64 ch, .int .i64 bi, .int .i64 ra, .int .i64 bl, .int .i64 sh] 25)).alloc (.cells #[.int .i64 k', .int .i64 ch', .int .i64 bi', .int .i64 ra', .int .i64 bl', .int .i64 sh'] 25)).heap.size = w.heap.size + 2 := by simp
  have hs3 : (((w.alloc (.cells #[.int .i64 k, .int .i64 ch, .int .i64 bi, .int .i64 ra, .int .i64 bl, .int .i64 sh] 25)).alloc (.cells #[.int .i64 k', .int .i64 ch', .int .i64 bi', .int .i64 ra', .int .i64 bl', .int .i64 sh'] 25)).alloc (.cells #[.int .i64 2, .int .i64 ch, .int .i64 bi, .int .i64 ra, .int .i64 bl, .int .i64 sh] 25)).heap.size = w.heap.size + 3 := by simp
  have r0 := heap_alloc_new w (.cells #[.int .i64 k, .int .i64 ch, .int .i64 bi, .int .i64 ra, .int .i64 bl, .int .i64 sh] 25)
  have r1 := heap_alloc_new (w.alloc (.cells #[.int .i64 k, .int .i64 ch, .int .i64 bi, .int .i64 ra, .int .i64 bl, .int .i64 sh] 25)) (.cells #[.int .i64 k', .int .i64 ch', .int .i64 bi', .int .i64 ra', .int .i64 bl', .int .i64 sh'] 25)
  have r2 := heap_alloc_new ((w.alloc (.cells #[.int .i64 k, .int .i64 ch, .int .i64 bi, .int .i64 ra, .int .i64 bl, .int .i64 sh] 25)).alloc (.cells #[.int .i64 k', .int .i64 ch', .int .i64 bi', .int .i64 ra', .int .i64 bl', .int .i64 sh'] 25)) (.cells #[.int .i64 2, .int .i64 ch, .int .i64 bi, .int .i64 ra, .int .i64 bl, .int .i64 sh] 25)
  have hb2 : Below (w.alloc (.cells #[.int .i64 k, .int .i64 ch, .int .i64 bi, .int .i64 ra, .int .i64 bl, .int .i64 sh] 25)).heap.size (w.alloc (.cells #[.int .i64 k, .int .i64 ch, .int .i64 bi, .int .i64 ra, .int .i64 bl, .int .i64 sh] 25)) ((w.alloc (.cells #[.int .i64 k, .int .i64 ch, .int .i64 bi, .int .i64 ra, .int .i64 bl, .int .i64 sh] 25)).alloc (.cells #[.int .i64 k', .int .i64 ch', .int .i64 bi', .int .i64 ra', .int .i64 bl', .int .i64 sh'] 25)) := (Below.refl _ _).alloc (Nat.le_refl _) _
  have hb3 : Below ((w.alloc (.cells #[.int .i64 k, .int .i64 ch, .int .i64 bi, .int .i64 ra, .int .i64 bl, .int .i64 sh] 25)).alloc (.cells #[.int .i64 k', .int .i64 ch', .int .i64 bi', .int .i64 ra', .int .i64 bl', .int .i64 sh'] 25)).heap.size ((w.alloc (.cells #[.int .i64 k, .int .i64 ch, .int .i64 bi, .int .i64 ra, .int .i64 bl, .int .i64 sh] 25)).alloc (.cells #[.int .i64 k', .int .i64 ch', .int .i64 bi', .int .i64 ra', .int .i64 bl', .int .i64 sh'] 25)) (((w.alloc (.cells #[.int .i64 k, .int .i64 ch, .int .i64 bi, .int .i64 ra, .int .i64 bl, .int .i64 sh] 25)).alloc (.cells #[.int .i64 k', .int .i64 ch', .int .i64 bi', .int .i64 ra', .int .i64 bl', .int .i64 sh'] 25)).alloc (.cells #[.int .i64 2, .int .i64 ch, .int .i64 bi, .int .i64 ra, .int .i64 bl, .int .i64 sh] 25)) := (Below.refl _ _).alloc (Nat.le_refl _) _
  rw [hs1] at r1
  rw [hs2] at r2
  have q0 := (hb3.block _ (by omega)).trans ((hb2.block _ (by omega)).trans r0)
  have q1 := (hb3.block _ (by omega)).trans r1
  have hbW : Below w.heap.size w (((w.alloc (.cells #[.int .i64 k, .int .i64 ch, .int .i64 bi, .int .i64 ra, .int .i64 bl, .int .i64 sh] 25)).alloc (.cells #[.int .i64 k', .int .i64 ch', .int .i64 bi', .int .i64 ra', .int .i64 bl', .int .i64 sh'] 25)).alloc (.cells #[.int .i64 2, .int .i64 ch, .int .i64 bi, .int .i64 ra, .int .i64 bl, .int .i64 sh] 25)) := (hb1.trans (hb2.mono hb1.size)).trans (hb3.mono (by omega))
  clear hb1 hb2 hb3 r0 r1 hs1 hs2
  go_enter Try.func4, Try.ntmps4
  go_wp2_with fail
  generalize ((w.alloc (.cells #[.int .i64 k, .int .i64 ch, .int .i64 bi, .int .i64 ra, .int .i64 bl, .int .i64 sh] 25)).alloc (.cells #[.int .i64 k', .int .i64 ch', .int .i64 bi', .int .i64 ra', .int .i64 bl', .int .i64 sh'] 25)).alloc (.cells #[.int .i64 2, .int .i64 ch, .int .i64 bi, .int .i64 ra, .int .i64 bl, .int .i64 sh] 25) = W at *
  have c0 : W.cell? ⟨w.heap.size, 0, none⟩ = some (.int .i64 k) := by rw [cell_of_row _ _ _ _ _ _ q0]; rfl
  have c1 : W.cell? ⟨w.heap.size, 1, none⟩ = some (.int .i64 ch) := by rw [cell_of_row _ _ _ _ _ _ q0]; rfl
  have c2 : W.cell? ⟨w.heap.size, 2, none⟩ = some (.int .i64 bi) := by rw [cell_of_row _ _ _ _ _ _ q0]; rfl
  have c3 : W.cell? ⟨w.heap.size, 3, none⟩ = some (.int .i64 ra) := by rw [cell_of_row _ _ _ _ _ _ q0]; rfl
  have c4 : W.cell? ⟨w.heap.size, 4, none⟩ = some (.int .i64 bl) := by rw [cell_of_row _ _ _ _ _ _ q0]; rfl
  have c5 : W.cell? ⟨w.heap.size, 5, none⟩ = some (.int .i64 sh) := by rw [cell_of_row _ _ _ _ _ _ q0]; rfl
  have c6 : W.cell? ⟨w.heap.size + 1, 0, none⟩ = some (.int .i64 k') := by rw [cell_of_row _ _ _ _ _ _ q1]; rfl
  have c7 : W.cell? ⟨w.heap.size + 1, 1, none⟩ = some (.int .i64 ch') := by rw [cell_of_row _ _ _ _ _ _ q1]; rfl
  have c8 : W.cell? ⟨w.heap.size + 1, 2, none⟩ = some (.int .i64 bi') := by rw [cell_of_row _ _ _ _ _ _ q1]; rfl
  have c9 : W.cell? ⟨w.heap.size + 1, 3, none⟩ = some (.int .i64 ra') := by rw [cell_of_row _ _ _ _ _ _ q1]; rfl
  have c10 : W.cell? ⟨w.heap.size + 1, 4, none⟩ = some (.int .i64 bl') := by rw [cell_of_row _ _ _ _ _ _ q1]; rfl
  have c11 : W.cell? ⟨w.heap.size + 1, 5, none⟩ = some (.int .i64 sh') := by rw [cell_of_row _ _ _ _ _ _ q1]; rfl
  have c12 : W.cell? ⟨w.heap.size + 2, 0, none⟩ = some (.int .i64 2) := by rw [cell_of_row _ _ _ _ _ _ r2]; rfl
  have c13 : W.cell? ⟨w.heap.size + 2, 1, none⟩ = some (.int .i64 ch) := by rw [cell_of_row _ _ _ _ _ _ r2]; rfl
  have c14 : W.cell? ⟨w.heap.size + 2, 2, none⟩ = some (.int .i64 bi) := by rw [cell_of_row _ _ _ _ _ _ r2]; rfl
  have c15 : W.cell? ⟨w.heap.size + 2, 3, none⟩ = some (.int .i64 ra) := by rw [cell_of_row _ _ _ _ _ _ r2]; rfl
  have c16 : W.cell? ⟨w.heap.size + 2, 4, none⟩ = some (.int .i64 bl) := by rw [cell_of_row _ _ _ _ _ _ r2]; rfl
  have c17 : W.cell? ⟨w.heap.size + 2, 5, none⟩ = some (.int .i64 sh) := by rw [cell_of_row _ _ _ _ _ _ r2]; rfl
  clear q0 q1 r2 hs3
  go_region_held3 (fun w' => w'.cell? ⟨w.heap.size, 0, none⟩ = some (.int .i64 k) ∧ w'.cell? ⟨w.heap.size, 1, none⟩ = some (.int .i64 ch) ∧ w'.cell? ⟨w.heap.size, 2, none⟩ = some (.int .i64 bi) ∧ w'.cell? ⟨w.heap.size, 3, none⟩ = some (.int .i64 ra) ∧ w'.cell? ⟨w.heap.size, 4, none⟩ = some (.int .i64 bl) ∧ w'.cell? ⟨w.heap.size, 5, none⟩ = some (.int .i64 sh) ∧ w'.cell? ⟨w.heap.size + 1, 0, none⟩ = some (.int .i64 k') ∧ w'.cell? ⟨w.heap.size + 1, 1, none⟩ = some (.int .i64 ch') ∧ w'.cell? ⟨w.heap.size + 1, 2, none⟩ = some (.int .i64 bi') ∧ w'.cell? ⟨w.heap.size + 1, 3, none⟩ = some (.int .i64 ra') ∧ w'.cell? ⟨w.heap.size + 1, 4, none⟩ = some (.int .i64 bl') ∧ w'.cell? ⟨w.heap.size + 1, 5, none⟩ = some (.int .i64 sh') ∧ w'.cell? ⟨w.heap.size + 2, 0, none⟩ = some (.int .i64 2) ∧ w'.cell? ⟨w.heap.size + 2, 1, none⟩ = some (.int .i64 ch) ∧ w'.cell? ⟨w.heap.size + 2, 2, none⟩ = some (.int .i64 bi) ∧ w'.cell? ⟨w.heap.size + 2, 3, none⟩ = some (.int .i64 ra) ∧ w'.cell? ⟨w.heap.size + 2, 4, none⟩ = some (.int .i64 bl) ∧ w'.cell? ⟨w.heap.size + 2, 5, none⟩ = some (.int .i64 sh)) (exact ⟨c0, c1, c2, c3, c4, c5, c6, c7, c8, c9, c10, c11, c12, c13, c14, c15, c16, c17⟩)
      (first | (go_at_call 15; refine (mates_any _ _ _ _ _ _ _ _ _ _ _ _ _).mono ?_; rintro e wa ⟨rfl, hba⟩; replace c0 := keep1 hba c0; replace c1 := keep1 hba c1; replace c2 := keep1 hba c2; replace c3 := keep1 hba c3; replace c4 := keep1 hba c4; replace c5 := keep1 hba c5; replace c6 := keep1 hba c6; replace c7 := keep1 hba c7; replace c8 := keep1 hba c8; replace c9 := keep1 hba c9; replace c10 := keep1 hba c10; replace c11 := keep1 hba c11; replace c12 := keep1 hba c12; replace c13 := keep1 hba c13; replace c14 := keep1 hba c14; replace c15 := keep1 hba c15; replace c16 := keep1 hba c16; replace c17 := keep1 hba c17; replace hbW := Below.trans hbW (Below.mono (w := _) ⟨hba.os, hba.tape, hba.output, hba.size, hba.block⟩ hbW.size); clear hba) | (go_at_call 16; refine (rmates_any _ _ _ _ _ _ _ _ _ _ _ _ _).mono ?_; rintro e wa ⟨rfl, hba⟩; replace c0 := keep1 hba c0; replace c1 := keep1 hba c1; replace c2 := keep1 hba c2; replace c3 := keep1 hba c3; replace c4 := keep1 hba c4; replace c5 := keep1 hba c5; replace c6 := keep1 hba c6; replace c7 := keep1 hba c7; replace c8 := keep1 hba c8; replace c9 := keep1 hba c9; replace c10 := keep1 hba c10; replace c11 := keep1 hba c11; replace c12 := keep1 hba c12; replace c13 := keep1 hba c13; replace c14 := keep1 hba c14; replace c15 := keep1 hba c15; replace c16 := keep1 hba c16; replace c17 := keep1 hba c17; replace hbW := Below.trans hbW (Below.mono (w := _) ⟨hba.os, hba.tape, hba.output, hba.size, hba.block⟩ hbW.size); clear hba) | (go_at_call 13; refine (known_any _).mono ?_; rintro e wa ⟨rfl, hba⟩; replace c0 := keep1 hba c0; replace c1 := keep1 hba c1; replace c2 := keep1 hba c2; replace c3 := keep1 hba c3; replace c4 := keep1 hba c4; replace c5 := keep1 hba c5; replace c6 := keep1 hba c6; replace c7 := keep1 hba c7; replace c8 := keep1 hba c8; replace c9 := keep1 hba c9; replace c10 := keep1 hba c10; replace c11 := keep1 hba c11; replace c12 := keep1 hba c12; replace c13 := keep1 hba c13; replace c14 := keep1 hba c14; replace c15 := keep1 hba c15; replace c16 := keep1 hba c16; replace c17 := keep1 hba c17; replace hbW := Below.trans hbW (Below.mono (w := _) ⟨hba.os, hba.tape, hba.output, hba.size, hba.block⟩ hbW.size); clear hba))
  go_wp2_with fail
  go_ret
  exact ⟨rfl, hbW⟩
end Go.Proofs.Ytafjjkcfndaclaa.infoMates
