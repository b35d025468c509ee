/- The walk of HeadSeals. -/
import Derived.Test.YtffcebjamichdaaHeadSeal
namespace Go.Proofs.Ytffcebjamichdaa.headSeals
set_option linter.unusedVariables false
open Go.RowKit
set_option maxHeartbeats 4000000 in
theorem walk (k idx len stp bnd : Int) (lst : Bool) (lnk siz : Int) (A : Option Addr) (c : Nat) (l : List UInt8) (w : World) (hlk : 0 ≤ lnk ∧ lnk < 4294967296) (hl : SeesB w A l ∧ l.length ≤ c ∧ c ≤ maxLen) :
    Calls Try.prog 4 #[.agg #[.int .i64 k, .int .i64 idx, .int .i64 len, .int .i64 stp, .int .i64 bnd, .bool lst, .int .u32 lnk, .int .i64 siz], .slice A l.length c] w fun e w' => e = .returned (.bool true) ∧ Below w.heap.size w w' := by
  obtain ⟨hl, _, _⟩ := hl
  have hbW : Below w.heap.size w (w.alloc (.cells #[.int .i64 k, .int .i64 idx, .int .i64 len, .int .i64 stp, .int .i64 bnd, .bool lst, .int .u32 lnk, .int .i64 siz] 24)) := (Below.refl _ w).alloc (Nat.le_refl _) _
  replace hl := SeesB.below hl hbW
  by_cases hbig : 300 < l.length
  · have d1 : decide (300 < (l.length : Int)) = true := by simp; omega
    go_enter Try.func4, Try.ntmps4
    go_wp2_with fail
    refine (known_any _).mono ?_
    rintro e w2 ⟨rfl, hb2⟩
    go_wp2_with fail
    go_ret
    exact ⟨rfl, hbW.trans (hb2.mono hbW.size)⟩
  have d1 : decide (300 < (l.length : Int)) = false := by simp; omega
  have hn : l.length ≤ 16777216 := by omega
  have hrow := heap_alloc_new w (.cells #[.int .i64 k, .int .i64 idx, .int .i64 len, .int .i64 stp, .int .i64 bnd, .bool lst, .int .u32 lnk, .int .i64 siz] 24)
  cases hr : rightH k idx len stp bnd lst lnk (l.length : Int) with
  | false =>
    go_enter Try.func4, Try.ntmps4
    go_wp2_with fail
    generalize w.alloc (.cells #[.int .i64 k, .int .i64 idx, .int .i64 len, .int .i64 stp, .int .i64 bnd, .bool lst, .int .u32 lnk, .int .i64 siz] 24) = W at *
    have c0 : W.cell? ⟨w.heap.size, 0, none⟩ = some (.int .i64 k) := by rw [cell_of_row _ _ _ _ _ _ hrow]; rfl
    have c1 : W.cell? ⟨w.heap.size, 1, none⟩ = some (.int .i64 idx) := by rw [cell_of_row _ _ _ _ _ _ hrow]; rfl
    have c2 : W.cell? ⟨w.heap.size, 2, none⟩ = some (.int .i64 len) := by rw [cell_of_row _ _ _ _ _ _ hrow]; rfl
    have c3 : W.cell? ⟨w.heap.size, 3, none⟩ = some (.int .i64 stp) := by rw [cell_of_row _ _ _ _ _ _ hrow]; rfl
    have c4 : W.cell? ⟨w.heap.size, 4, none⟩ = some (.int .i64 bnd) := by rw [cell_of_row _ _ _ _ _ _ hrow]; rfl
    have c5 : W.cell? ⟨w.heap.size, 5, none⟩ = some (.bool lst) := by rw [cell_of_row _ _ _ _ _ _ hrow]; rfl
    have c6 : W.cell? ⟨w.heap.size, 6, none⟩ = some (.int .u32 lnk) := by rw [cell_of_row _ _ _ _ _ _ hrow]; rfl
    have c7 : W.cell? ⟨w.heap.size, 7, none⟩ = some (.int .i64 siz) := by rw [cell_of_row _ _ _ _ _ _ hrow]; rfl
    clear hrow
    go_region_held3 (fun w' => w'.cell? ⟨w.heap.size, 0, none⟩ = some (.int .i64 k) ∧ w'.cell? ⟨w.heap.size, 1, none⟩ = some (.int .i64 idx) ∧ w'.cell? ⟨w.heap.size, 2, none⟩ = some (.int .i64 len) ∧ w'.cell? ⟨w.heap.size, 3, none⟩ = some (.int .i64 stp) ∧ w'.cell? ⟨w.heap.size, 4, none⟩ = some (.int .i64 bnd) ∧ w'.cell? ⟨w.heap.size, 5, none⟩ = some (.bool lst) ∧ w'.cell? ⟨w.heap.size, 6, none⟩ = some (.int .u32 lnk) ∧ w'.cell? ⟨w.heap.size, 7, none⟩ = some (.int .i64 siz)) (exact ⟨c0, c1, c2, c3, c4, c5, c6, c7⟩)
      (first | (go_at_call 11; refine (make_any _).mono ?_; rintro e wa ⟨rfl, hba, ht⟩; replace c0 := keep1 hba c0; replace c1 := keep1 hba c1; replace c2 := keep1 hba c2; replace c3 := keep1 hba c3; replace c4 := keep1 hba c4; replace c5 := keep1 hba c5; replace c6 := keep1 hba c6; replace c7 := keep1 hba c7; replace hbW := Below.trans hbW (Below.mono (w := _) ⟨hba.os, hba.tape, hba.output, hba.size, hba.block⟩ hbW.size); replace hl := Sees.below hl ⟨hba.os, hba.tape, hba.output, hba.size, hba.block⟩; clear hba) | (go_at_call 18; refine (hseal_bad _ _ _ _ _ _ _ _ _ _ _ _ _ hn hr).mono ?_; rintro e wa ⟨rfl, hba⟩; replace c0 := keep1 hba c0; replace c1 := keep1 hba c1; replace c2 := keep1 hba c2; replace c3 := keep1 hba c3; replace c4 := keep1 hba c4; replace c5 := keep1 hba c5; replace c6 := keep1 hba c6; replace c7 := keep1 hba c7; replace hbW := Below.trans hbW (Below.mono (w := _) ⟨hba.os, hba.tape, hba.output, hba.size, hba.block⟩ hbW.size); replace hl := Sees.below hl ⟨hba.os, hba.tape, hba.output, hba.size, hba.block⟩; clear hba))
    clear ht
    go_wp2_with fail
    refine (rhseal_bad _ _ _ _ _ _ _ _ _ _ _ _ hn hr).mono ?_
    rintro e wb ⟨rfl, hbb⟩
    replace hbW := hbW.trans (hbb.mono hbW.size)
    clear c0 c1 c2 c3 c4 c5 c6 c7 hbb hl
    have hcv : ∀ W, (convert 25 9 (.slice none 0 0)).run Try.prog W = .ok (.string ⟨#[]⟩) W := fun W => conv_bs none 0 [] W (Sees.nil _ _)
    go_wp2_with fail
    refine (known_any _).mono ?_
    rintro e w2 ⟨rfl, hb2⟩
    go_wp2_with fail
    go_ret
    exact ⟨rfl, hbW.trans (hb2.mono hbW.size)⟩
  | true =>
    have hr2 := of_decide_eq_true hr
    obtain ⟨g0, g1, g2, g3, g4, g5, _⟩ := hr2
    obtain ⟨K, rfl⟩ := Int.eq_ofNat_of_zero_le (show 0 ≤ k by omega)
    obtain ⟨IX, rfl⟩ := Int.eq_ofNat_of_zero_le (show 0 ≤ idx by omega)
    obtain ⟨LE, rfl⟩ := Int.eq_ofNat_of_zero_le (show 0 ≤ len by omega)
    obtain ⟨ST, rfl⟩ := Int.eq_ofNat_of_zero_le (show 0 ≤ stp by omega)
    obtain ⟨BN, rfl⟩ := Int.eq_ofNat_of_zero_le (show 0 ≤ bnd by omega)
    obtain ⟨LK, rfl⟩ := Int.eq_ofNat_of_zero_le (show 0 ≤ lnk by omega)
    have hkk : K < 256 ∧ IX < 4294967296 ∧ LE < 4294967296 ∧ ST < 4294967296 ∧ BN < 4294967296 ∧ LK < 4294967296 ∧ l.length < 4294967296 := by omega
    have HK := hid hkk
    clear hkk g0 g1 g2 g3 g4 g5 hlk
    obtain ⟨Y, hY⟩ : ∃ Y, Y = sealed (headHead K lst IX LE ST BN LK l.length) ++ l := ⟨_, rfl⟩
    have hP1 := fun g W (h : Tab W g) (hl : SeesB W A l) => hseal_ok g K IX LE ST BN LK lst siz A c l W h hl hn hr HK.out
    have hP2 := fun W (hl : SeesB W A l) => rhseal_ok K IX LE ST BN LK lst siz A c l W hl hn hr HK.out
    rw [← hY] at hP1 hP2
    have HP1 := hid hP1
    have HP2 := hid hP2
    clear hP1 hP2 hY
    have hsn : (sumI Y != sumI Y) = false := by simp
    go_enter Try.func4, Try.ntmps4
    go_wp2_with fail
    generalize w.alloc (.cells #[.int .i64 (K : Int), .int .i64 (IX : Int), .int .i64 (LE : Int), .int .i64 (ST : Int), .int .i64 (BN : Int), .bool lst, .int .u32 (LK : Int), .int .i64 siz] 24) = W at *
    have c0 : W.cell? ⟨w.heap.size, 0, none⟩ = some (.int .i64 (K : Int)) := by rw [cell_of_row _ _ _ _ _ _ hrow]; rfl
    have c1 : W.cell? ⟨w.heap.size, 1, none⟩ = some (.int .i64 (IX : Int)) := by rw [cell_of_row _ _ _ _ _ _ hrow]; rfl
    have c2 : W.cell? ⟨w.heap.size, 2, none⟩ = some (.int .i64 (LE : Int)) := by rw [cell_of_row _ _ _ _ _ _ hrow]; rfl
    have c3 : W.cell? ⟨w.heap.size, 3, none⟩ = some (.int .i64 (ST : Int)) := by rw [cell_of_row _ _ _ _ _ _ hrow]; rfl
    have c4 : W.cell? ⟨w.heap.size, 4, none⟩ = some (.int .i64 (BN : Int)) := by rw [cell_of_row _ _ _ _ _ _ hrow]; rfl
    have c5 : W.cell? ⟨w.heap.size, 5, none⟩ = some (.bool lst) := by rw [cell_of_row _ _ _ _ _ _ hrow]; rfl
    have c6 : W.cell? ⟨w.heap.size, 6, none⟩ = some (.int .u32 (LK : Int)) := by rw [cell_of_row _ _ _ _ _ _ hrow]; rfl
    have c7 : W.cell? ⟨w.heap.size, 7, none⟩ = some (.int .i64 siz) := by rw [cell_of_row _ _ _ _ _ _ hrow]; rfl
    clear hrow
    go_region_held3 (fun w' => w'.cell? ⟨w.heap.size, 0, none⟩ = some (.int .i64 (K : Int)) ∧ w'.cell? ⟨w.heap.size, 1, none⟩ = some (.int .i64 (IX : Int)) ∧ w'.cell? ⟨w.heap.size, 2, none⟩ = some (.int .i64 (LE : Int)) ∧ w'.cell? ⟨w.heap.size, 3, none⟩ = some (.int .i64 (ST : Int)) ∧ w'.cell? ⟨w.heap.size, 4, none⟩ = some (.int .i64 (BN : Int)) ∧ w'.cell? ⟨w.heap.size, 5, none⟩ = some (.bool lst) ∧ w'.cell? ⟨w.heap.size, 6, none⟩ = some (.int .u32 (LK : Int)) ∧ w'.cell? ⟨w.heap.size, 7, none⟩ = some (.int .i64 siz)) (exact ⟨c0, c1, c2, c3, c4, c5, c6, c7⟩)
      (first | (go_at_call 11; refine (make_any _).mono ?_; rintro e wa ⟨rfl, hba, ht⟩; replace c0 := keep1 hba c0; replace c1 := keep1 hba c1; replace c2 := keep1 hba c2; replace c3 := keep1 hba c3; replace c4 := keep1 hba c4; replace c5 := keep1 hba c5; replace c6 := keep1 hba c6; replace c7 := keep1 hba c7; replace hbW := Below.trans hbW (Below.mono (w := _) ⟨hba.os, hba.tape, hba.output, hba.size, hba.block⟩ hbW.size); replace hl := Sees.below hl ⟨hba.os, hba.tape, hba.output, hba.size, hba.block⟩; clear hba) | (go_at_call 18; refine (HP1.out _ _ ht hl).mono ?_; rintro e wa ⟨v, rfl, hv⟩; obtain ⟨A1, d1', rfl, hs, hA, ho, hba⟩ := hv.parts; replace c0 := keep1 hba c0; replace c1 := keep1 hba c1; replace c2 := keep1 hba c2; replace c3 := keep1 hba c3; replace c4 := keep1 hba c4; replace c5 := keep1 hba c5; replace c6 := keep1 hba c6; replace c7 := keep1 hba c7; replace hbW := Below.trans hbW (Below.mono (w := _) ⟨hba.os, hba.tape, hba.output, hba.size, hba.block⟩ hbW.size); replace hl := Sees.below hl ⟨hba.os, hba.tape, hba.output, hba.size, hba.block⟩; clear hba))
    clear ht hv ho hA
    go_wp2_with fail
    refine (HP2.out _ hl).mono ?_
    rintro e wb ⟨v, rfl, hv⟩
    obtain ⟨A2, d2, rfl, hs2, hA2, ho2, hbb⟩ := hv.parts
    have hs1 := hs.below hbb
    replace hbW := hbW.trans (hbb.mono hbW.size)
    have hcv1 := conv_bs A1 d1' (sealed Y) wb hs1
    have hcv2 := conv_bs A2 d2 (sealed Y) wb hs2
    clear c0 c1 c2 c3 c4 c5 c6 c7 hbb hl hv hA2 ho2 hs hs1 hs2 HP1 HP2
    go_wp2_with fail
    refine (known_any _).mono ?_
    rintro e w2 ⟨rfl, hb2⟩
    go_wp2_with fail
    go_ret
    exact ⟨rfl, hbW.trans (hb2.mono hbW.size)⟩
end Go.Proofs.Ytffcebjamichdaa.headSeals
