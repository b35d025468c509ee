/- Numbers that fit: the program's and the reference's. -/
import Derived.Test.YtfinefhebffpcaaInts
import Derived.Test.YtfinefhebffpcaaRight
namespace Go.Proofs.Ytfinefhebffpcaa
set_option linter.unusedVariables false
open Go.RowKit
/-- half of the numbers of so many bits -/
def halfN (n : Nat) : Nat := 2 ^ (n - 1)
theorem half_range (n : Nat) (h1 : 8 ≤ n) (h2 : n ≤ 24) : 128 ≤ halfN n ∧ halfN n ≤ 8388608 := by
  unfold halfN
  have a : 2 ^ 7 ≤ 2 ^ (n - 1) := Nat.pow_le_pow_right (by omega) (by omega)
  have b : 2 ^ (n - 1) ≤ 2 ^ 23 := Nat.pow_le_pow_right (by omega) (by omega)
  omega
def fitsB (x : Int) (n : Nat) : Bool := decide (-(halfN n : Int) ≤ x ∧ x ≤ (halfN n : Int) - 1)
set_option maxHeartbeats 2000000 in
theorem range_any (n : Nat) (w : World) (h1 : 8 ≤ n) (h2 : n ≤ 24) :
    Calls Try.prog 56 #[.int .i64 (n : Int)] w fun e w' => e = .returned (.tuple #[.int .i64 (-(halfN n : Int)), .int .i64 ((halfN n : Int) - 1)]) ∧ w = w' := by
  have hc : n = 8 ∨ n = 9 ∨ n = 10 ∨ n = 11 ∨ n = 12 ∨ n = 13 ∨ n = 14 ∨ n = 15 ∨ n = 16 ∨ n = 17 ∨ n = 18 ∨ n = 19 ∨ n = 20 ∨ n = 21 ∨ n = 22 ∨ n = 23 ∨ n = 24 := by omega
  rcases hc with rfl | rfl | rfl | rfl | rfl | rfl | rfl | rfl | rfl | rfl | rfl | rfl | rfl | rfl | rfl | rfl | rfl
  all_goals
    go_enter Try.func56, Try.ntmps56
    go_wp2_with fail
    go_ret2
    exact ⟨rfl, rfl⟩
set_option maxHeartbeats 1000000 in
theorem fits_any (x : Int) (n : Nat) (w : World) (h1 : 8 ≤ n) (h2 : n ≤ 24) :
    Calls Try.prog 52 #[.int .i64 x, .int .i64 (n : Int)] w fun e w' => e = .returned (.bool (fitsB x n)) ∧ w = w' := by
  have hr := range_any n w h1 h2
  obtain ⟨a, b⟩ := half_range n h1 h2
  unfold fitsB
  generalize halfN n = H at *
  have d0 : decide (-(H : Int) < 0) = true := decide_eq_true (by omega)
  by_cases hx : -(H : Int) ≤ x
  · have dx : decide (-(H : Int) ≤ x) = true := decide_eq_true hx
    by_cases hy : x ≤ (H : Int) - 1
    · have dy : decide (x ≤ (H : Int) - 1) = true := decide_eq_true hy
      rw [decide_eq_true (⟨hx, hy⟩ : -(H : Int) ≤ x ∧ x ≤ (H : Int) - 1)]
      go_enter Try.func52, Try.ntmps52
      go_wp2_with fail
      refine hr.mono ?_
      rintro e w1 ⟨rfl, rfl⟩
      go_wp2_with fail
      go_ret
      exact ⟨rfl, rfl⟩
    · have dy : decide (x ≤ (H : Int) - 1) = false := decide_eq_false hy
      rw [decide_eq_false (fun h => hy h.2 : ¬ (-(H : Int) ≤ x ∧ x ≤ (H : Int) - 1))]
      go_enter Try.func52, Try.ntmps52
      go_wp2_with fail
      refine hr.mono ?_
      rintro e w1 ⟨rfl, rfl⟩
      go_wp2_with fail
      go_ret
      exact ⟨rfl, rfl⟩
  · have dx : decide (-(H : Int) ≤ x) = false := decide_eq_false hx
    rw [decide_eq_false (fun h => hx h.1 : ¬ (-(H : Int) ≤ x ∧ x ≤ (H : Int) - 1))]
    go_enter Try.func52, Try.ntmps52
    go_wp2_with fail
    refine hr.mono ?_
    rintro e w1 ⟨rfl, rfl⟩
    go_wp2_with fail
    go_ret
    exact ⟨rfl, rfl⟩
set_option maxHeartbeats 1000000 in
theorem power_any (n : Nat) (w : World) (h : n ≤ 23) :
    Calls Try.prog 53 #[.int .i64 (n : Int)] w fun e w' => e = .returned (.int .i64 ((2 ^ n : Nat) : Int)) ∧ w = w' := by
  obtain ⟨R, hR⟩ : ∃ R, R = 2 ^ n := ⟨_, rfl⟩
  rw [← hR]
  have HR := hid hR
  clear hR
  go_enter Try.func53, Try.ntmps53
  go_wp2_with fail
  go_loop [3, 4] (fun p i => ∃ k P : Nat, k ≤ n ∧ i = .int .i64 (k : Int) ∧ p = .int .i64 (P : Int) ∧ P ≤ 8388608 ∧ Hid (P = 2 ^ k)) (fun _ i => n - (intOf i).toNat)
  case atStart => exact ⟨0, 1, by omega, rfl, rfl, by omega, hid rfl⟩
  case round =>
    obtain ⟨k, P, hk, rfl, rfl, hP, hE⟩ := hrel
    by_cases hlt : k < n
    · have dk : decide ((k : Int) < (n : Int)) = true := decide_eq_true (by omega)
      have d62 : decide ((k : Int) < 62) = true := decide_eq_true (by omega)
      have hb : 2 ^ (k + 1) ≤ 2 ^ 23 := Nat.pow_le_pow_right (by omega) (by omega)
      have HS := hid (show 2 * P = 2 ^ (k + 1) by rw [hE.out, Nat.pow_succ, Nat.mul_comm])
      have hB : 2 * P ≤ 8388608 := by rw [HS.out]; omega
      clear hb
      go_wp2_with fail
      go_round
      case rel => exact ⟨k + 1, 2 * P, by omega, by go_num, by go_num, hB, hid HS.out⟩
      case measure => simp [intOf]; omega
    · obtain rfl : k = n := by omega
      have dk : decide ((k : Int) < (k : Int)) = false := decide_eq_false (by omega)
      obtain rfl : P = R := by rw [hE.out, HR.out]
      go_wp2_with fail
      go_ret
      exact ⟨rfl, rfl⟩
set_option maxHeartbeats 1000000 in
theorem rfits_any (x : Int) (n : Nat) (w : World) (h1 : 8 ≤ n) (h2 : n ≤ 24) :
    Calls Try.prog 36 #[.int .i64 x, .int .i64 (n : Int)] w fun e w' => e = .returned (.bool (fitsB x n)) ∧ w = w' := by
  have hp := hid (power_any (n - 1) w (by omega))
  have hn1 : ((n - 1 : Nat) : Int) = (n : Int) - 1 := by omega
  obtain ⟨a, b⟩ := half_range n h1 h2
  unfold fitsB
  rw [hn1] at hp
  have hp2 : Calls Try.prog 53 #[.int .i64 ((n : Int) - 1)] w fun e w' => e = .returned (.int .i64 ((halfN n : Nat) : Int)) ∧ w = w' := hp.out
  have HP := hid hp2
  clear hp hp2 hn1
  generalize halfN n = H at *
  have e1 : decide (1 ≤ (n : Int)) = true := decide_eq_true (by omega)
  have e2 : decide ((n : Int) ≤ 62) = true := decide_eq_true (by omega)
  by_cases hx : -(H : Int) ≤ x
  · have dx : decide (-(H : Int) ≤ x) = true := decide_eq_true hx
    by_cases hy : x ≤ (H : Int) - 1
    · have dy : decide (x ≤ (H : Int) - 1) = true := decide_eq_true hy
      rw [decide_eq_true (⟨hx, hy⟩ : -(H : Int) ≤ x ∧ x ≤ (H : Int) - 1)]
      go_enter Try.func36, Try.ntmps36
      go_wp2_with fail
      refine HP.out.mono ?_
      rintro e w1 ⟨rfl, rfl⟩
      go_wp2_with fail
      refine HP.out.mono ?_
      rintro e w1 ⟨rfl, rfl⟩
      go_wp2_with fail
      go_ret
      exact ⟨rfl, rfl⟩
    · have dy : decide (x ≤ (H : Int) - 1) = false := decide_eq_false hy
      rw [decide_eq_false (fun h => hy h.2 : ¬ (-(H : Int) ≤ x ∧ x ≤ (H : Int) - 1))]
      go_enter Try.func36, Try.ntmps36
      go_wp2_with fail
      refine HP.out.mono ?_
      rintro e w1 ⟨rfl, rfl⟩
      go_wp2_with fail
      refine HP.out.mono ?_
      rintro e w1 ⟨rfl, rfl⟩
      go_wp2_with fail
      go_ret
      exact ⟨rfl, rfl⟩
  · have dx : decide (-(H : Int) ≤ x) = false := decide_eq_false hx
    rw [decide_eq_false (fun h => hx h.1 : ¬ (-(H : Int) ≤ x ∧ x ≤ (H : Int) - 1))]
    go_enter Try.func36, Try.ntmps36
    go_wp2_with fail
    refine HP.out.mono ?_
    rintro e w1 ⟨rfl, rfl⟩
    go_wp2_with fail
    go_ret
    exact ⟨rfl, rfl⟩
end Go.Proofs.Ytfinefhebffpcaa
