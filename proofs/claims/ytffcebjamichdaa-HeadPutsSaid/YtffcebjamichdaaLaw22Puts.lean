/- The walk of HeadPuts. -/
import Derived.Test.YtffcebjamichdaaLaw22Known
import Derived.Deep.RegionWith
namespace Go.Proofs.Ytffcebjamichdaa.headPuts
set_option linter.unusedVariables false
open Go.RowKit
set_option maxHeartbeats 4000000 in
theorem walk (k idx len stp bnd : Int) (lst : Bool) (lnk siz : Int) (w : World) (hlk : 0 ≤ lnk ∧ lnk < 4294967296) :
    Calls Try.prog 3 #[.agg #[.int .i64 k, .int .i64 idx, .int .i64 len, .int .i64 stp, .int .i64 bnd, .bool lst, .int .u32 lnk, .int .i64 siz]] w fun e w' => e = .returned (.bool true) ∧ Below w.heap.size w w' := by
  cases hr : rightH k idx len stp bnd lst lnk siz with
  | false =>
    have hbW : Below w.heap.size w (w.alloc (.cells #[.int .i64 k, .int .i64 idx, .int .i64 len, .int .i64 stp, .int .i64 bnd, .bool lst, .int .u32 lnk, .int .i64 siz] 24)) := (Below.refl _ w).alloc (Nat.le_refl _) _
    have hrow := heap_alloc_new w (.cells #[.int .i64 k, .int .i64 idx, .int .i64 len, .int .i64 stp, .int .i64 bnd, .bool lst, .int .u32 lnk, .int .i64 siz] 24)
    go_enter Try.func3, Try.ntmps3
    go_wp2_with fail
    generalize w.alloc (.cells #[.int .i64 k, .int .i64 idx, .int .i64 len, .int .i64 stp, .int .i64 bnd, .bool lst, .int .u32 lnk, .int .i64 siz] 24) = W at *
    have c0 : W.cell? ⟨w.heap.size, 0, none⟩ = some (.int .i64 k) := by rw [cell_of_row _ _ _ _ _ _ hrow]; rfl
    have c1 : W.cell? ⟨w.heap.size, 1, none⟩ = some (.int .i64 idx) := by rw [cell_of_row _ _ _ _ _ _ hrow]; rfl
    have c2 : W.cell? ⟨w.heap.size, 2, none⟩ = some (.int .i64 len) := by rw [cell_of_row _ _ _ _ _ _ hrow]; rfl
    have c3 : W.cell? ⟨w.heap.size, 3, none⟩ = some (.int .i64 stp) := by rw [cell_of_row _ _ _ _ _ _ hrow]; rfl
    have c4 : W.cell? ⟨w.heap.size, 4, none⟩ = some (.int .i64 bnd) := by rw [cell_of_row _ _ _ _ _ _ hrow]; rfl
    have c5 : W.cell? ⟨w.heap.size, 5, none⟩ = some (.bool lst) := by rw [cell_of_row _ _ _ _ _ _ hrow]; rfl
    have c6 : W.cell? ⟨w.heap.size, 6, none⟩ = some (.int .u32 lnk) := by rw [cell_of_row _ _ _ _ _ _ hrow]; rfl
    have c7 : W.cell? ⟨w.heap.size, 7, none⟩ = some (.int .i64 siz) := by rw [cell_of_row _ _ _ _ _ _ hrow]; rfl
    clear hrow
    go_region_held3 (fun w' => w'.cell? ⟨w.heap.size, 0, none⟩ = some (.int .i64 k) ∧ w'.cell? ⟨w.heap.size, 1, none⟩ = some (.int .i64 idx) ∧ w'.cell? ⟨w.heap.size, 2, none⟩ = some (.int .i64 len) ∧ w'.cell? ⟨w.heap.size, 3, none⟩ = some (.int .i64 stp) ∧ w'.cell? ⟨w.heap.size, 4, none⟩ = some (.int .i64 bnd) ∧ w'.cell? ⟨w.heap.size, 5, none⟩ = some (.bool lst) ∧ w'.cell? ⟨w.heap.size, 6, none⟩ = some (.int .u32 lnk) ∧ w'.cell? ⟨w.heap.size, 7, none⟩ = some (.int .i64 siz)) (exact ⟨c0, c1, c2, c3, c4, c5, c6, c7⟩)
      (first | (go_at_call 11; refine (make_any _).mono ?_; rintro e wa ⟨rfl, hba, ht⟩; replace c0 := keep1 hba c0; replace c1 := keep1 hba c1; replace c2 := keep1 hba c2; replace c3 := keep1 hba c3; replace c4 := keep1 hba c4; replace c5 := keep1 hba c5; replace c6 := keep1 hba c6; replace c7 := keep1 hba c7; replace hbW := Below.trans hbW (Below.mono (w := _) ⟨hba.os, hba.tape, hba.output, hba.size, hba.block⟩ hbW.size); clear hba) | (go_at_call 10; refine (hPut_bad _ _ _ _ _ _ _ _ _ _ hr).mono ?_; rintro e wa ⟨rfl, hba⟩; replace c0 := keep1 hba c0; replace c1 := keep1 hba c1; replace c2 := keep1 hba c2; replace c3 := keep1 hba c3; replace c4 := keep1 hba c4; replace c5 := keep1 hba c5; replace c6 := keep1 hba c6; replace c7 := keep1 hba c7; replace hbW := Below.trans hbW (Below.mono (w := _) ⟨hba.os, hba.tape, hba.output, hba.size, hba.block⟩ hbW.size); clear hba))
    clear ht
    go_wp2_with fail
    go_region_held3 (fun w' => w'.cell? ⟨w.heap.size, 0, none⟩ = some (.int .i64 k) ∧ w'.cell? ⟨w.heap.size, 1, none⟩ = some (.int .i64 idx) ∧ w'.cell? ⟨w.heap.size, 2, none⟩ = some (.int .i64 len) ∧ w'.cell? ⟨w.heap.size, 3, none⟩ = some (.int .i64 stp) ∧ w'.cell? ⟨w.heap.size, 4, none⟩ = some (.int .i64 bnd) ∧ w'.cell? ⟨w.heap.size, 5, none⟩ = some (.bool lst) ∧ w'.cell? ⟨w.heap.size, 6, none⟩ = some (.int .u32 lnk) ∧ w'.cell? ⟨w.heap.size, 7, none⟩ = some (.int .i64 siz)) (exact ⟨c0, c1, c2, c3, c4, c5, c6, c7⟩)
      (first | (go_at_call 12; refine (hright_any _ _ _ _ _ _ _ _ _).mono ?_; rintro e wa ⟨rfl, hba⟩; replace c0 := keep1 hba c0; replace c1 := keep1 hba c1; replace c2 := keep1 hba c2; replace c3 := keep1 hba c3; replace c4 := keep1 hba c4; replace c5 := keep1 hba c5; replace c6 := keep1 hba c6; replace c7 := keep1 hba c7; replace hbW := Below.trans hbW (Below.mono (w := _) ⟨hba.os, hba.tape, hba.output, hba.size, hba.block⟩ hbW.size); clear hba) | (go_at_call 13; refine (hrright_any _ _ _ _ _ _ _ _ _).mono ?_; rintro e wa ⟨rfl, hba⟩; replace c0 := keep1 hba c0; replace c1 := keep1 hba c1; replace c2 := keep1 hba c2; replace c3 := keep1 hba c3; replace c4 := keep1 hba c4; replace c5 := keep1 hba c5; replace c6 := keep1 hba c6; replace c7 := keep1 hba c7; replace hbW := Below.trans hbW (Below.mono (w := _) ⟨hba.os, hba.tape, hba.output, hba.size, hba.block⟩ hbW.size); clear hba) | (go_at_call 14; refine (hlong_any _ _ _ _ _ _ _ _ _).mono ?_; rintro e wa ⟨rfl, hba⟩; replace c0 := keep1 hba c0; replace c1 := keep1 hba c1; replace c2 := keep1 hba c2; replace c3 := keep1 hba c3; replace c4 := keep1 hba c4; replace c5 := keep1 hba c5; replace c6 := keep1 hba c6; replace c7 := keep1 hba c7; replace hbW := Below.trans hbW (Below.mono (w := _) ⟨hba.os, hba.tape, hba.output, hba.size, hba.block⟩ hbW.size); clear hba) | (go_at_call 15; refine (hrlong_any _ _ _ _ _ _ _ _ _).mono ?_; rintro e wa ⟨rfl, hba⟩; replace c0 := keep1 hba c0; replace c1 := keep1 hba c1; replace c2 := keep1 hba c2; replace c3 := keep1 hba c3; replace c4 := keep1 hba c4; replace c5 := keep1 hba c5; replace c6 := keep1 hba c6; replace c7 := keep1 hba c7; replace hbW := Below.trans hbW (Below.mono (w := _) ⟨hba.os, hba.tape, hba.output, hba.size, hba.block⟩ hbW.size); clear hba))
    have dn : (longH k idx len stp bnd lst lnk siz != longH k idx len stp bnd lst lnk siz) = false := by simp
    go_wp2_with fail
    refine (hrright_any k idx len stp bnd lst lnk siz _).mono ?_
    rintro e wb ⟨rfl, hbb⟩
    rw [hr]
    replace hbW := Below.trans hbW (Below.mono (w := _) ⟨hbb.os, hbb.tape, hbb.output, hbb.size, hbb.block⟩ hbW.size)
    clear c0 c1 c2 c3 c4 c5 c6 c7 hbb
    go_wp2_with fail
    refine (known_any _).mono ?_
    rintro e w2 ⟨rfl, hb2⟩
    go_wp2_with fail
    go_ret
    exact ⟨rfl, hbW.trans (hb2.mono hbW.size)⟩
  | true =>
    have hr2 := of_decide_eq_true hr
    obtain ⟨g0, g1, g2, g3, g4, g5, _⟩ := hr2
    obtain ⟨K, rfl⟩ := Int.eq_ofNat_of_zero_le (show 0 ≤ k by omega)
    obtain ⟨IX, rfl⟩ := Int.eq_ofNat_of_zero_le (show 0 ≤ idx by omega)
    obtain ⟨LE, rfl⟩ := Int.eq_ofNat_of_zero_le (show 0 ≤ len by omega)
    obtain ⟨ST, rfl⟩ := Int.eq_ofNat_of_zero_le (show 0 ≤ stp by omega)
    obtain ⟨BN, rfl⟩ := Int.eq_ofNat_of_zero_le (show 0 ≤ bnd by omega)
    obtain ⟨LK, rfl⟩ := Int.eq_ofNat_of_zero_le (show 0 ≤ lnk by omega)
    obtain ⟨SZ, rfl⟩ := Int.eq_ofNat_of_zero_le (show 0 ≤ siz by omega)
    have hkk : K < 256 ∧ IX < 4294967296 ∧ LE < 4294967296 ∧ ST < 4294967296 ∧ BN < 4294967296 ∧ LK < 4294967296 ∧ SZ < 4294967296 := by omega
    have HK := hid hkk
    clear hkk g0 g1 g2 g3 g4 g5 hlk
    obtain ⟨L, hL⟩ : ∃ L, L = sealed (headHead K lst IX LE ST BN LK SZ) := ⟨_, rfl⟩
    have hP1 := fun g W (h : Tab W g) => hPut_ok g K IX LE ST BN LK SZ lst W h hr HK.out
    have hP2 := fun W => rhput_any K IX LE ST BN LK SZ lst W HK.out
    rw [← hL] at hP1 hP2
    have HP1 := hid hP1
    have HP2 := hid hP2
    clear hP1 hP2 hL
    have hbW : Below w.heap.size w (w.alloc (.cells #[.int .i64 (K : Int), .int .i64 (IX : Int), .int .i64 (LE : Int), .int .i64 (ST : Int), .int .i64 (BN : Int), .bool lst, .int .u32 (LK : Int), .int .i64 (SZ : Int)] 24)) := (Below.refl _ w).alloc (Nat.le_refl _) _
    have hrow := heap_alloc_new w (.cells #[.int .i64 (K : Int), .int .i64 (IX : Int), .int .i64 (LE : Int), .int .i64 (ST : Int), .int .i64 (BN : Int), .bool lst, .int .u32 (LK : Int), .int .i64 (SZ : Int)] 24)
    go_enter Try.func3, Try.ntmps3
    go_wp2_with fail
    generalize w.alloc (.cells #[.int .i64 (K : Int), .int .i64 (IX : Int), .int .i64 (LE : Int), .int .i64 (ST : Int), .int .i64 (BN : Int), .bool lst, .int .u32 (LK : Int), .int .i64 (SZ : Int)] 24) = W at *
    have c0 : W.cell? ⟨w.heap.size, 0, none⟩ = some (.int .i64 (K : Int)) := by rw [cell_of_row _ _ _ _ _ _ hrow]; rfl
    have c1 : W.cell? ⟨w.heap.size, 1, none⟩ = some (.int .i64 (IX : Int)) := by rw [cell_of_row _ _ _ _ _ _ hrow]; rfl
    have c2 : W.cell? ⟨w.heap.size, 2, none⟩ = some (.int .i64 (LE : Int)) := by rw [cell_of_row _ _ _ _ _ _ hrow]; rfl
    have c3 : W.cell? ⟨w.heap.size, 3, none⟩ = some (.int .i64 (ST : Int)) := by rw [cell_of_row _ _ _ _ _ _ hrow]; rfl
    have c4 : W.cell? ⟨w.heap.size, 4, none⟩ = some (.int .i64 (BN : Int)) := by rw [cell_of_row _ _ _ _ _ _ hrow]; rfl
    have c5 : W.cell? ⟨w.heap.size, 5, none⟩ = some (.bool lst) := by rw [cell_of_row _ _ _ _ _ _ hrow]; rfl
    have c6 : W.cell? ⟨w.heap.size, 6, none⟩ = some (.int .u32 (LK : Int)) := by rw [cell_of_row _ _ _ _ _ _ hrow]; rfl
    have c7 : W.cell? ⟨w.heap.size, 7, none⟩ = some (.int .i64 (SZ : Int)) := by rw [cell_of_row _ _ _ _ _ _ hrow]; rfl
    clear hrow
    go_region_held3 (fun w' => w'.cell? ⟨w.heap.size, 0, none⟩ = some (.int .i64 (K : Int)) ∧ w'.cell? ⟨w.heap.size, 1, none⟩ = some (.int .i64 (IX : Int)) ∧ w'.cell? ⟨w.heap.size, 2, none⟩ = some (.int .i64 (LE : Int)) ∧ w'.cell? ⟨w.heap.size, 3, none⟩ = some (.int .i64 (ST : Int)) ∧ w'.cell? ⟨w.heap.size, 4, none⟩ = some (.int .i64 (BN : Int)) ∧ w'.cell? ⟨w.heap.size, 5, none⟩ = some (.bool lst) ∧ w'.cell? ⟨w.heap.size, 6, none⟩ = some (.int .u32 (LK : Int)) ∧ w'.cell? ⟨w.heap.size, 7, none⟩ = some (.int .i64 (SZ : Int))) (exact ⟨c0, c1, c2, c3, c4, c5, c6, c7⟩)
      (first | (go_at_call 11; refine (make_any _).mono ?_; rintro e wa ⟨rfl, hba, ht⟩; replace c0 := keep1 hba c0; replace c1 := keep1 hba c1; replace c2 := keep1 hba c2; replace c3 := keep1 hba c3; replace c4 := keep1 hba c4; replace c5 := keep1 hba c5; replace c6 := keep1 hba c6; replace c7 := keep1 hba c7; replace hbW := Below.trans hbW (Below.mono (w := _) ⟨hba.os, hba.tape, hba.output, hba.size, hba.block⟩ hbW.size); clear hba) | (go_at_call 10; refine (HP1.out _ _ ht).mono ?_; rintro e wa ⟨v, rfl, hv⟩; obtain ⟨A, c, rfl, hs, hA, ho, hba⟩ := hv.parts; replace c0 := keep1 hba c0; replace c1 := keep1 hba c1; replace c2 := keep1 hba c2; replace c3 := keep1 hba c3; replace c4 := keep1 hba c4; replace c5 := keep1 hba c5; replace c6 := keep1 hba c6; replace c7 := keep1 hba c7; replace hbW := Below.trans hbW (Below.mono (w := _) ⟨hba.os, hba.tape, hba.output, hba.size, hba.block⟩ hbW.size); clear hba))
    clear ht hv ho hA
    go_wp2_with fail
    go_region_held3 (fun w' => w'.cell? ⟨w.heap.size, 0, none⟩ = some (.int .i64 (K : Int)) ∧ w'.cell? ⟨w.heap.size, 1, none⟩ = some (.int .i64 (IX : Int)) ∧ w'.cell? ⟨w.heap.size, 2, none⟩ = some (.int .i64 (LE : Int)) ∧ w'.cell? ⟨w.heap.size, 3, none⟩ = some (.int .i64 (ST : Int)) ∧ w'.cell? ⟨w.heap.size, 4, none⟩ = some (.int .i64 (BN : Int)) ∧ w'.cell? ⟨w.heap.size, 5, none⟩ = some (.bool lst) ∧ w'.cell? ⟨w.heap.size, 6, none⟩ = some (.int .u32 (LK : Int)) ∧ w'.cell? ⟨w.heap.size, 7, none⟩ = some (.int .i64 (SZ : Int))) (exact ⟨c0, c1, c2, c3, c4, c5, c6, c7⟩)
      (first | (go_at_call 12; refine (hright_any _ _ _ _ _ _ _ _ _).mono ?_; rintro e wa ⟨rfl, hba⟩; replace c0 := keep1 hba c0; replace c1 := keep1 hba c1; replace c2 := keep1 hba c2; replace c3 := keep1 hba c3; replace c4 := keep1 hba c4; replace c5 := keep1 hba c5; replace c6 := keep1 hba c6; replace c7 := keep1 hba c7; replace hbW := Below.trans hbW (Below.mono (w := _) ⟨hba.os, hba.tape, hba.output, hba.size, hba.block⟩ hbW.size); replace hs := Sees.below hs ⟨hba.os, hba.tape, hba.output, hba.size, hba.block⟩; clear hba) | (go_at_call 13; refine (hrright_any _ _ _ _ _ _ _ _ _).mono ?_; rintro e wa ⟨rfl, hba⟩; replace c0 := keep1 hba c0; replace c1 := keep1 hba c1; replace c2 := keep1 hba c2; replace c3 := keep1 hba c3; replace c4 := keep1 hba c4; replace c5 := keep1 hba c5; replace c6 := keep1 hba c6; replace c7 := keep1 hba c7; replace hbW := Below.trans hbW (Below.mono (w := _) ⟨hba.os, hba.tape, hba.output, hba.size, hba.block⟩ hbW.size); replace hs := Sees.below hs ⟨hba.os, hba.tape, hba.output, hba.size, hba.block⟩; clear hba) | (go_at_call 14; refine (hlong_any _ _ _ _ _ _ _ _ _).mono ?_; rintro e wa ⟨rfl, hba⟩; replace c0 := keep1 hba c0; replace c1 := keep1 hba c1; replace c2 := keep1 hba c2; replace c3 := keep1 hba c3; replace c4 := keep1 hba c4; replace c5 := keep1 hba c5; replace c6 := keep1 hba c6; replace c7 := keep1 hba c7; replace hbW := Below.trans hbW (Below.mono (w := _) ⟨hba.os, hba.tape, hba.output, hba.size, hba.block⟩ hbW.size); replace hs := Sees.below hs ⟨hba.os, hba.tape, hba.output, hba.size, hba.block⟩; clear hba) | (go_at_call 15; refine (hrlong_any _ _ _ _ _ _ _ _ _).mono ?_; rintro e wa ⟨rfl, hba⟩; replace c0 := keep1 hba c0; replace c1 := keep1 hba c1; replace c2 := keep1 hba c2; replace c3 := keep1 hba c3; replace c4 := keep1 hba c4; replace c5 := keep1 hba c5; replace c6 := keep1 hba c6; replace c7 := keep1 hba c7; replace hbW := Below.trans hbW (Below.mono (w := _) ⟨hba.os, hba.tape, hba.output, hba.size, hba.block⟩ hbW.size); replace hs := Sees.below hs ⟨hba.os, hba.tape, hba.output, hba.size, hba.block⟩; clear hba))
    go_wp2_with fail
    refine (hrright_any K IX LE ST BN lst LK SZ _).mono ?_
    rintro e wb ⟨rfl, hba⟩
    rw [hr]
    replace c0 := keep1 hba c0
    replace c1 := keep1 hba c1
    replace c2 := keep1 hba c2
    replace c3 := keep1 hba c3
    replace c4 := keep1 hba c4
    replace c5 := keep1 hba c5
    replace c6 := keep1 hba c6
    replace c7 := keep1 hba c7
    replace hbW := Below.trans hbW (Below.mono (w := _) ⟨hba.os, hba.tape, hba.output, hba.size, hba.block⟩ hbW.size)
    replace hs := Sees.below hs ⟨hba.os, hba.tape, hba.output, hba.size, hba.block⟩
    clear hba
    have hcv : ∀ W, SeesB W A L → (convert 25 9 (.slice A L.length c)).run Try.prog W = .ok (.string ⟨L.toArray⟩) W := fun W h => conv_bs A c L W h
    have hs1d : SeesB wb.drew A L := hs
    go_wp2_with fail
    go_region_with (first | (go_at_call 17; refine (HP2.out _).mono ?_; rintro e w6 ⟨v, rfl, hv⟩; obtain ⟨A6, c6', rfl, hs6, hA6, ho6, hb6⟩ := hv.parts; have d0 := keep1 (undrew hb6) c0; have d1 := keep1 (undrew hb6) c1; have d2 := keep1 (undrew hb6) c2; have d3 := keep1 (undrew hb6) c3; have d4 := keep1 (undrew hb6) c4; have d5 := keep1 (undrew hb6) c5; have d6 := keep1 (undrew hb6) c6; have d7 := keep1 (undrew hb6) c7; have hx6 : SeesB w6 A L := Sees.below hs (undrew hb6); have hcv6 : ∀ W, SeesB W A6 L → (convert 25 9 (.slice A6 L.length c6')).run Try.prog W = .ok (.string ⟨L.toArray⟩) W := fun W h => conv_bs A6 c6' L W h) | (go_at_call 16; refine (known_any _).mono ?_; rintro e w7 ⟨rfl, hb7⟩; have hx7 := Sees.below hx6 hb7))
    all_goals
      have hbw7 : Below w.heap.size w w7 := (hbW.trans (Below.mono (undrew hb6) hbW.size)).trans (hb7.mono (Nat.le_trans hbW.size hb6.size))
      clear hbW hb6 hb7 hx6 hx7 hs6 hv hA6 ho6 hcv hcv6 hs hs1d
      go_wp2_with fail
      go_ret
      exact ⟨rfl, hbw7⟩
end Go.Proofs.Ytffcebjamichdaa.headPuts
