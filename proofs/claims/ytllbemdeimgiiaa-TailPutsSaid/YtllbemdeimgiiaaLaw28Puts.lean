/- The walk of TailPuts. -/
import Derived.Test.YtllbemdeimgiiaaLaw28Known
import Derived.Test.YtllbemdeimgiiaaTailSame
import Derived.Test.YtllbemdeimgiiaaTailRefPut
import Derived.Test.YtllbemdeimgiiaaTailRight2
import Derived.Test.YtllbemdeimgiiaaConv
import Derived.Deep.RegionHeld3
import Derived.Deep.RegionWith
namespace Go.Proofs.Ytllbemdeimgiiaa.tailPuts
set_option linter.unusedVariables false
open Go.RowKit
theorem sameT_self (count sum : Int) (l : List Int) : sameT count sum l count sum l = true := by unfold sameT; simp
set_option maxHeartbeats 4000000 in
theorem walk (count sum : Int) (A : Option Addr) (c : Nat) (l : List Int) (count' sum' : Int) (B : Option Addr) (d : Nat) (m : List Int) (w : World) (hl : SeesI w A l ∧ l.length ≤ c ∧ c ≤ maxLen ∧ 0 ≤ sum ∧ sum < 4294967296) (hm : SeesI w B m ∧ m.length ≤ d ∧ d ≤ maxLen ∧ 0 ≤ sum' ∧ sum' < 4294967296) :
    Calls Try.prog 5 #[.agg #[.int .i64 count, .int .u32 sum, .slice A l.length c], .agg #[.int .i64 count', .int .u32 sum', .slice B m.length d]] w fun e w' => e = .returned (.bool true) ∧ Below w.heap.size w w' := by
  obtain ⟨hx, h1, h2, hs1, hs2⟩ := hl
  obtain ⟨hy, h3, h4, _, _⟩ := hm
  clear h1 h2 h3 h4
  have hb1 : Below w.heap.size w (w.alloc (.cells #[.int .i64 count, .int .u32 sum, .slice A l.length c] 30)) := (Below.refl _ w).alloc (Nat.le_refl _) _
  have hz1 : (w.alloc (.cells #[.int .i64 count, .int .u32 sum, .slice A l.length c] 30)).heap.size = w.heap.size + 1 := by simp
  have r0 := heap_alloc_new w (.cells #[.int .i64 count, .int .u32 sum, .slice A l.length c] 30)
  have r1 := heap_alloc_new (w.alloc (.cells #[.int .i64 count, .int .u32 sum, .slice A l.length c] 30)) (.cells #[.int .i64 count', .int .u32 sum', .slice B m.length d] 30)
  have hb2 : Below (w.alloc (.cells #[.int .i64 count, .int .u32 sum, .slice A l.length c] 30)).heap.size (w.alloc (.cells #[.int .i64 count, .int .u32 sum, .slice A l.length c] 30)) ((w.alloc (.cells #[.int .i64 count, .int .u32 sum, .slice A l.length c] 30)).alloc (.cells #[.int .i64 count', .int .u32 sum', .slice B m.length d] 30)) := (Below.refl _ _).alloc (Nat.le_refl _) _
  rw [hz1] at r1
  have q0 := (hb2.block _ (by omega)).trans r0
  have hbW : Below w.heap.size w ((w.alloc (.cells #[.int .i64 count, .int .u32 sum, .slice A l.length c] 30)).alloc (.cells #[.int .i64 count', .int .u32 sum', .slice B m.length d] 30)) := hb1.trans (hb2.mono hb1.size)
  replace hx := SeesI.below hx hbW
  replace hy := SeesI.below hy hbW
  clear hb1 hb2 r0 hz1
  by_cases hl1 : 200 < l.length
  · have e1 : decide (200 < (l.length : Int)) = true := by simp; omega
    go_enter Try.func5, Try.ntmps5
    go_wp2_with fail
    refine (known_any _).mono ?_
    rintro e w2 ⟨rfl, hb2⟩
    go_wp2_with fail
    go_ret
    exact ⟨rfl, hbW.trans (hb2.mono hbW.size)⟩
  have e1 : decide (200 < (l.length : Int)) = false := by simp; omega
  by_cases hl2 : 200 < m.length
  · have e2 : decide (200 < (m.length : Int)) = true := by simp; omega
    go_enter Try.func5, Try.ntmps5
    go_wp2_with fail
    refine (known_any _).mono ?_
    rintro e w2 ⟨rfl, hb2⟩
    go_wp2_with fail
    go_ret
    exact ⟨rfl, hbW.trans (hb2.mono hbW.size)⟩
  have e2 : decide (200 < (m.length : Int)) = false := by simp; omega
  have hss := sameT_self count sum l
  cases hr : rightB count l with
  | false =>
    go_enter Try.func5, Try.ntmps5
    go_wp2_with fail
    generalize (w.alloc (.cells #[.int .i64 count, .int .u32 sum, .slice A l.length c] 30)).alloc (.cells #[.int .i64 count', .int .u32 sum', .slice B m.length d] 30) = W at *
    have c0 : W.cell? ⟨w.heap.size, 0, none⟩ = some (.int .i64 count) := by rw [cell_of_row _ _ _ _ _ _ q0]; rfl
    have c1 : W.cell? ⟨w.heap.size, 1, none⟩ = some (.int .u32 sum) := by rw [cell_of_row _ _ _ _ _ _ q0]; rfl
    have c2 : W.cell? ⟨w.heap.size, 2, none⟩ = some (.slice A l.length c) := by rw [cell_of_row _ _ _ _ _ _ q0]; rfl
    have c3 : W.cell? ⟨w.heap.size + 1, 0, none⟩ = some (.int .i64 count') := by rw [cell_of_row _ _ _ _ _ _ r1]; rfl
    have c4 : W.cell? ⟨w.heap.size + 1, 1, none⟩ = some (.int .u32 sum') := by rw [cell_of_row _ _ _ _ _ _ r1]; rfl
    have c5 : W.cell? ⟨w.heap.size + 1, 2, none⟩ = some (.slice B m.length d) := by rw [cell_of_row _ _ _ _ _ _ r1]; rfl
    clear q0 r1
    go_region_held3 (fun w' => w'.cell? ⟨w.heap.size, 0, none⟩ = some (.int .i64 count) ∧ w'.cell? ⟨w.heap.size, 1, none⟩ = some (.int .u32 sum) ∧ w'.cell? ⟨w.heap.size, 2, none⟩ = some (.slice A l.length c) ∧ w'.cell? ⟨w.heap.size + 1, 0, none⟩ = some (.int .i64 count') ∧ w'.cell? ⟨w.heap.size + 1, 1, none⟩ = some (.int .u32 sum') ∧ w'.cell? ⟨w.heap.size + 1, 2, none⟩ = some (.slice B m.length d)) (exact ⟨c0, c1, c2, c3, c4, c5⟩)
      (first | (go_at_call 18; refine (make_any _).mono ?_; rintro e wa ⟨rfl, hba, ht⟩; replace c0 := keep1 hba c0; replace c1 := keep1 hba c1; replace c2 := keep1 hba c2; replace c3 := keep1 hba c3; replace c4 := keep1 hba c4; replace c5 := keep1 hba c5; replace hx := Sees.below hx ⟨hba.os, hba.tape, hba.output, hba.size, hba.block⟩; replace hy := Sees.below hy ⟨hba.os, hba.tape, hba.output, hba.size, hba.block⟩; replace hbW := Below.trans hbW (Below.mono (w := _) ⟨hba.os, hba.tape, hba.output, hba.size, hba.block⟩ hbW.size); clear hba) | (go_at_call 17; refine (tput_bad _ _ _ _ _ _ _ ?_ ?_ hr).mono ?_; exact hx; omega; rintro e wa ⟨rfl, hba⟩; replace c0 := keep1 hba c0; replace c1 := keep1 hba c1; replace c2 := keep1 hba c2; replace c3 := keep1 hba c3; replace c4 := keep1 hba c4; replace c5 := keep1 hba c5; replace hx := Sees.below hx ⟨hba.os, hba.tape, hba.output, hba.size, hba.block⟩; replace hy := Sees.below hy ⟨hba.os, hba.tape, hba.output, hba.size, hba.block⟩; replace hbW := Below.trans hbW (Below.mono (w := _) ⟨hba.os, hba.tape, hba.output, hba.size, hba.block⟩ hbW.size); clear hba))
    clear ht
    go_wp2_with fail
    go_region_held3 (fun w' => w'.cell? ⟨w.heap.size, 0, none⟩ = some (.int .i64 count) ∧ w'.cell? ⟨w.heap.size, 1, none⟩ = some (.int .u32 sum) ∧ w'.cell? ⟨w.heap.size, 2, none⟩ = some (.slice A l.length c) ∧ w'.cell? ⟨w.heap.size + 1, 0, none⟩ = some (.int .i64 count') ∧ w'.cell? ⟨w.heap.size + 1, 1, none⟩ = some (.int .u32 sum') ∧ w'.cell? ⟨w.heap.size + 1, 2, none⟩ = some (.slice B m.length d)) (exact ⟨c0, c1, c2, c3, c4, c5⟩)
      (first | (go_at_call 19; refine (right_is _ _ _ _ _ _ ?_ ?_ _ rfl).mono ?_; exact hx; omega; rintro e wa ⟨rfl, hba⟩; replace c0 := keep1 hba c0; replace c1 := keep1 hba c1; replace c2 := keep1 hba c2; replace c3 := keep1 hba c3; replace c4 := keep1 hba c4; replace c5 := keep1 hba c5; replace hx := Sees.below hx ⟨hba.os, hba.tape, hba.output, hba.size, hba.block⟩; replace hy := Sees.below hy ⟨hba.os, hba.tape, hba.output, hba.size, hba.block⟩; replace hbW := Below.trans hbW (Below.mono (w := _) ⟨hba.os, hba.tape, hba.output, hba.size, hba.block⟩ hbW.size); clear hba) | (go_at_call 20; refine (rright_is _ _ _ _ _ _ ?_ ?_ _ rfl).mono ?_; exact hx; omega; rintro e wa ⟨rfl, hba⟩; replace c0 := keep1 hba c0; replace c1 := keep1 hba c1; replace c2 := keep1 hba c2; replace c3 := keep1 hba c3; replace c4 := keep1 hba c4; replace c5 := keep1 hba c5; replace hx := Sees.below hx ⟨hba.os, hba.tape, hba.output, hba.size, hba.block⟩; replace hy := Sees.below hy ⟨hba.os, hba.tape, hba.output, hba.size, hba.block⟩; replace hbW := Below.trans hbW (Below.mono (w := _) ⟨hba.os, hba.tape, hba.output, hba.size, hba.block⟩ hbW.size); clear hba) | (go_at_call 21; (first | (refine (tsame_any _ _ _ _ _ _ _ _ _ _ _ ?_ ?_ ?_ ?_).mono ?_; exact hx; exact hy; (unfold maxLen; omega); (unfold maxLen; omega)) | (refine (tsame_any _ _ _ _ _ _ _ _ _ _ _ ?_ ?_ ?_ ?_).mono ?_; exact hx; exact hx; (unfold maxLen; omega); (unfold maxLen; omega))); rintro e wa ⟨rfl, hba⟩; replace c0 := keep1 hba c0; replace c1 := keep1 hba c1; replace c2 := keep1 hba c2; replace c3 := keep1 hba c3; replace c4 := keep1 hba c4; replace c5 := keep1 hba c5; replace hx := Sees.below hx ⟨hba.os, hba.tape, hba.output, hba.size, hba.block⟩; replace hy := Sees.below hy ⟨hba.os, hba.tape, hba.output, hba.size, hba.block⟩; replace hbW := Below.trans hbW (Below.mono (w := _) ⟨hba.os, hba.tape, hba.output, hba.size, hba.block⟩ hbW.size); clear hba) | (go_at_call 22; refine (rtsame_any _ _ _ _ _ _ _ _ _ _ _ ?_ ?_ ?_ ?_).mono ?_; exact hx; exact hy; (unfold maxLen; omega); (unfold maxLen; omega); rintro e wa ⟨rfl, hba⟩; replace c0 := keep1 hba c0; replace c1 := keep1 hba c1; replace c2 := keep1 hba c2; replace c3 := keep1 hba c3; replace c4 := keep1 hba c4; replace c5 := keep1 hba c5; replace hx := Sees.below hx ⟨hba.os, hba.tape, hba.output, hba.size, hba.block⟩; replace hy := Sees.below hy ⟨hba.os, hba.tape, hba.output, hba.size, hba.block⟩; replace hbW := Below.trans hbW (Below.mono (w := _) ⟨hba.os, hba.tape, hba.output, hba.size, hba.block⟩ hbW.size); clear hba))
    go_wp2_with fail
    refine (rright_is count sum A c l _ ?_ ?_ _ hr).mono ?_
    exact hx
    omega
    rintro e wb ⟨rfl, hbb⟩
    replace hbW := Below.trans hbW (Below.mono (w := _) ⟨hbb.os, hbb.tape, hbb.output, hbb.size, hbb.block⟩ hbW.size)
    clear c0 c1 c2 c3 c4 c5 hbb
    go_wp2_with fail
    refine (known_any _).mono ?_
    rintro e w2 ⟨rfl, hb2⟩
    go_wp2_with fail
    go_ret
    exact ⟨rfl, hbW.trans (hb2.mono hbW.size)⟩
  | true =>
    obtain ⟨hc1, hc2, _, hpl⟩ := right_range hr
    obtain ⟨N, rfl⟩ := Int.eq_ofNat_of_zero_le hc1
    obtain ⟨M, rfl⟩ := Int.eq_ofNat_of_zero_le hs1
    have hN : N < 4294967296 := by omega
    have hM : M < 4294967296 := by omega
    have hln : l.length ≤ 16777216 := by omega
    clear hc1 hc2 hs1 hs2
    obtain ⟨L, hL⟩ : ∃ L, L = sealed (tailHead N M l) := ⟨_, rfl⟩
    have hP1 := fun g W (ht : Tab W g) (hx : SeesI W A l) => tput_ok g N M A c l W ht hx hln hr hN hM hpl
    have hP2 := fun W (hx : SeesI W A l) => rtput_any N M A c l W hx hln hN hM hpl
    rw [← hL] at hP1 hP2
    have HP1 := hid hP1
    have HP2 := hid hP2
    clear hP1 hP2 hL hpl hN hM
    go_enter Try.func5, Try.ntmps5
    go_wp2_with fail
    generalize (w.alloc (.cells #[.int .i64 (N : Int), .int .u32 (M : Int), .slice A l.length c] 30)).alloc (.cells #[.int .i64 count', .int .u32 sum', .slice B m.length d] 30) = W at *
    have c0 : W.cell? ⟨w.heap.size, 0, none⟩ = some (.int .i64 (N : Int)) := by rw [cell_of_row _ _ _ _ _ _ q0]; rfl
    have c1 : W.cell? ⟨w.heap.size, 1, none⟩ = some (.int .u32 (M : Int)) := by rw [cell_of_row _ _ _ _ _ _ q0]; rfl
    have c2 : W.cell? ⟨w.heap.size, 2, none⟩ = some (.slice A l.length c) := by rw [cell_of_row _ _ _ _ _ _ q0]; rfl
    have c3 : W.cell? ⟨w.heap.size + 1, 0, none⟩ = some (.int .i64 count') := by rw [cell_of_row _ _ _ _ _ _ r1]; rfl
    have c4 : W.cell? ⟨w.heap.size + 1, 1, none⟩ = some (.int .u32 sum') := by rw [cell_of_row _ _ _ _ _ _ r1]; rfl
    have c5 : W.cell? ⟨w.heap.size + 1, 2, none⟩ = some (.slice B m.length d) := by rw [cell_of_row _ _ _ _ _ _ r1]; rfl
    clear q0 r1
    go_region_held3 (fun w' => w'.cell? ⟨w.heap.size, 0, none⟩ = some (.int .i64 (N : Int)) ∧ w'.cell? ⟨w.heap.size, 1, none⟩ = some (.int .u32 (M : Int)) ∧ w'.cell? ⟨w.heap.size, 2, none⟩ = some (.slice A l.length c) ∧ w'.cell? ⟨w.heap.size + 1, 0, none⟩ = some (.int .i64 count') ∧ w'.cell? ⟨w.heap.size + 1, 1, none⟩ = some (.int .u32 sum') ∧ w'.cell? ⟨w.heap.size + 1, 2, none⟩ = some (.slice B m.length d)) (exact ⟨c0, c1, c2, c3, c4, c5⟩)
      (first | (go_at_call 18; refine (make_any _).mono ?_; rintro e wa ⟨rfl, hba, ht⟩; replace c0 := keep1 hba c0; replace c1 := keep1 hba c1; replace c2 := keep1 hba c2; replace c3 := keep1 hba c3; replace c4 := keep1 hba c4; replace c5 := keep1 hba c5; replace hx := Sees.below hx ⟨hba.os, hba.tape, hba.output, hba.size, hba.block⟩; replace hy := Sees.below hy ⟨hba.os, hba.tape, hba.output, hba.size, hba.block⟩; replace hbW := Below.trans hbW (Below.mono (w := _) ⟨hba.os, hba.tape, hba.output, hba.size, hba.block⟩ hbW.size); clear hba) | (go_at_call 17; refine (HP1.out _ _ ht ?_).mono ?_; exact hx; rintro e wa ⟨v, rfl, hv⟩; obtain ⟨A1, c1', rfl, hs1, hA1, ho1, hba⟩ := hv.parts; replace c0 := keep1 hba c0; replace c1 := keep1 hba c1; replace c2 := keep1 hba c2; replace c3 := keep1 hba c3; replace c4 := keep1 hba c4; replace c5 := keep1 hba c5; replace hx := Sees.below hx ⟨hba.os, hba.tape, hba.output, hba.size, hba.block⟩; replace hy := Sees.below hy ⟨hba.os, hba.tape, hba.output, hba.size, hba.block⟩; replace hbW := Below.trans hbW (Below.mono (w := _) ⟨hba.os, hba.tape, hba.output, hba.size, hba.block⟩ hbW.size); clear hba))
    clear ht hv ho1 hA1
    go_wp2_with fail
    go_region_held3 (fun w' => w'.cell? ⟨w.heap.size, 0, none⟩ = some (.int .i64 (N : Int)) ∧ w'.cell? ⟨w.heap.size, 1, none⟩ = some (.int .u32 (M : Int)) ∧ w'.cell? ⟨w.heap.size, 2, none⟩ = some (.slice A l.length c) ∧ w'.cell? ⟨w.heap.size + 1, 0, none⟩ = some (.int .i64 count') ∧ w'.cell? ⟨w.heap.size + 1, 1, none⟩ = some (.int .u32 sum') ∧ w'.cell? ⟨w.heap.size + 1, 2, none⟩ = some (.slice B m.length d)) (exact ⟨c0, c1, c2, c3, c4, c5⟩)
      (first | (go_at_call 19; refine (right_is _ _ _ _ _ _ ?_ ?_ _ rfl).mono ?_; exact hx; omega; rintro e wa ⟨rfl, hba⟩; replace c0 := keep1 hba c0; replace c1 := keep1 hba c1; replace c2 := keep1 hba c2; replace c3 := keep1 hba c3; replace c4 := keep1 hba c4; replace c5 := keep1 hba c5; replace hx := Sees.below hx ⟨hba.os, hba.tape, hba.output, hba.size, hba.block⟩; replace hy := Sees.below hy ⟨hba.os, hba.tape, hba.output, hba.size, hba.block⟩; replace hbW := Below.trans hbW (Below.mono (w := _) ⟨hba.os, hba.tape, hba.output, hba.size, hba.block⟩ hbW.size); replace hs1 := Sees.below hs1 ⟨hba.os, hba.tape, hba.output, hba.size, hba.block⟩; clear hba) | (go_at_call 20; refine (rright_is _ _ _ _ _ _ ?_ ?_ _ rfl).mono ?_; exact hx; omega; rintro e wa ⟨rfl, hba⟩; replace c0 := keep1 hba c0; replace c1 := keep1 hba c1; replace c2 := keep1 hba c2; replace c3 := keep1 hba c3; replace c4 := keep1 hba c4; replace c5 := keep1 hba c5; replace hx := Sees.below hx ⟨hba.os, hba.tape, hba.output, hba.size, hba.block⟩; replace hy := Sees.below hy ⟨hba.os, hba.tape, hba.output, hba.size, hba.block⟩; replace hbW := Below.trans hbW (Below.mono (w := _) ⟨hba.os, hba.tape, hba.output, hba.size, hba.block⟩ hbW.size); replace hs1 := Sees.below hs1 ⟨hba.os, hba.tape, hba.output, hba.size, hba.block⟩; clear hba) | (go_at_call 21; (first | (refine (tsame_any _ _ _ _ _ _ _ _ _ _ _ ?_ ?_ ?_ ?_).mono ?_; exact hx; exact hy; (unfold maxLen; omega); (unfold maxLen; omega)) | (refine (tsame_any _ _ _ _ _ _ _ _ _ _ _ ?_ ?_ ?_ ?_).mono ?_; exact hx; exact hx; (unfold maxLen; omega); (unfold maxLen; omega))); rintro e wa ⟨rfl, hba⟩; replace c0 := keep1 hba c0; replace c1 := keep1 hba c1; replace c2 := keep1 hba c2; replace c3 := keep1 hba c3; replace c4 := keep1 hba c4; replace c5 := keep1 hba c5; replace hx := Sees.below hx ⟨hba.os, hba.tape, hba.output, hba.size, hba.block⟩; replace hy := Sees.below hy ⟨hba.os, hba.tape, hba.output, hba.size, hba.block⟩; replace hbW := Below.trans hbW (Below.mono (w := _) ⟨hba.os, hba.tape, hba.output, hba.size, hba.block⟩ hbW.size); replace hs1 := Sees.below hs1 ⟨hba.os, hba.tape, hba.output, hba.size, hba.block⟩; clear hba) | (go_at_call 22; refine (rtsame_any _ _ _ _ _ _ _ _ _ _ _ ?_ ?_ ?_ ?_).mono ?_; exact hx; exact hy; (unfold maxLen; omega); (unfold maxLen; omega); rintro e wa ⟨rfl, hba⟩; replace c0 := keep1 hba c0; replace c1 := keep1 hba c1; replace c2 := keep1 hba c2; replace c3 := keep1 hba c3; replace c4 := keep1 hba c4; replace c5 := keep1 hba c5; replace hx := Sees.below hx ⟨hba.os, hba.tape, hba.output, hba.size, hba.block⟩; replace hy := Sees.below hy ⟨hba.os, hba.tape, hba.output, hba.size, hba.block⟩; replace hbW := Below.trans hbW (Below.mono (w := _) ⟨hba.os, hba.tape, hba.output, hba.size, hba.block⟩ hbW.size); replace hs1 := Sees.below hs1 ⟨hba.os, hba.tape, hba.output, hba.size, hba.block⟩; clear hba))
    go_wp2_with fail
    refine (rright_is (N : Int) (M : Int) A c l _ ?_ ?_ _ hr).mono ?_
    exact hx
    omega
    rintro e wb ⟨rfl, hba⟩
    replace c0 := keep1 hba c0
    replace c1 := keep1 hba c1
    replace c2 := keep1 hba c2
    replace c3 := keep1 hba c3
    replace c4 := keep1 hba c4
    replace c5 := keep1 hba c5
    replace hx := Sees.below hx ⟨hba.os, hba.tape, hba.output, hba.size, hba.block⟩
    replace hy := Sees.below hy ⟨hba.os, hba.tape, hba.output, hba.size, hba.block⟩
    replace hbW := Below.trans hbW (Below.mono (w := _) ⟨hba.os, hba.tape, hba.output, hba.size, hba.block⟩ hbW.size)
    replace hs1 := Sees.below hs1 ⟨hba.os, hba.tape, hba.output, hba.size, hba.block⟩
    clear hba
    have hcv : ∀ W, SeesB W A1 L → (convert 35 9 (.slice A1 L.length c1')).run Try.prog W = .ok (.string ⟨L.toArray⟩) W := fun W h => conv_bs A1 c1' L W h
    have hs1d : SeesB wb.drew A1 L := hs1
    go_wp2_with fail
    go_region_with (first | (go_at_call 23; refine (HP2.out _ ?_).mono ?_; exact hx; rintro e w6 ⟨v, rfl, hv⟩; obtain ⟨A6, c6, rfl, hs6, hA6, ho6, hb6⟩ := hv.parts; have d0 := keep1 (undrew hb6) c0; have d1 := keep1 (undrew hb6) c1; have d2 := keep1 (undrew hb6) c2; have d3 := keep1 (undrew hb6) c3; have d4 := keep1 (undrew hb6) c4; have d5 := keep1 (undrew hb6) c5; have hx6 : SeesB w6 A1 L := Sees.below hs1 (undrew hb6); have hcv6 : ∀ W, SeesB W A6 L → (convert 35 9 (.slice A6 L.length c6)).run Try.prog W = .ok (.string ⟨L.toArray⟩) W := fun W h => conv_bs A6 c6 L W h) | (go_at_call 14; refine (known_any _).mono ?_; rintro e w7 ⟨rfl, hb7⟩; have hx7 := Sees.below hx6 hb7))
    all_goals
      have hbw7 : Below w.heap.size w w7 := (hbW.trans (Below.mono (undrew hb6) hbW.size)).trans (hb7.mono (Nat.le_trans hbW.size hb6.size))
      clear hbW hb6 hb7 hx6 hx7 hs6 hv hA6 ho6 hcv hcv6 hs1 hs1d hx hy
      go_wp2_with fail
      go_ret
      exact ⟨rfl, hbw7⟩
end Go.Proofs.Ytllbemdeimgiiaa.tailPuts
