/- The reference's fields: U, I, Text. The maker's: U, I, Text, Len, whole. -/
import Derived.Test.YtbcddeiicneajaaRefField
import Derived.Test.YtbcddeiicneajaaMakerLen
namespace Go.Proofs.Ytbcddeiicneajaa
set_option linter.unusedVariables false
open Go.RowKit
def refU (v : Nat) (n : Int) : Int × List UInt8 := if n < 1 ∨ 8 < n then (1, []) else if n < 8 ∧ 256 ^ n.toNat ≤ v then (3, []) else (0, bytesLE v n.toNat)
def RefPost (w : World) (r : Int × List UInt8) (e : Ending) (w' : World) : Prop := ∃ v, e = .returned (.tuple #[v, .int .i64 r.1]) ∧ NewB w r.2 v w'
set_option maxHeartbeats 1000000 in
theorem rU_any (v : Nat) (n : Int) (w : World) (hv : v < 18446744073709551616) :
    Calls Try.prog 28 #[.int .u64 (v : Int), .int .i64 n] w (RefPost w (refU v n)) := by
  by_cases h1 : n < 1
  · have hr : refU v n = (1, []) := if_pos (.inl h1)
    rw [hr]
    have d1 : decide (n < 1) = true := by simpa using h1
    go_enter Try.func28, Try.ntmps28
    go_wp2_with fail
    go_ret2
    exact ⟨_, rfl, NewB.none_ w⟩
  have d1 : decide (n < 1) = false := by simpa using h1
  by_cases h2 : 8 < n
  · have hr : refU v n = (1, []) := if_pos (.inr h2)
    rw [hr]
    have d2 : decide (8 < n) = true := by simpa using h2
    go_enter Try.func28, Try.ntmps28
    go_wp2_with fail
    go_ret2
    exact ⟨_, rfl, NewB.none_ w⟩
  have d2 : decide (8 < n) = false := by simpa using h2
  obtain ⟨N, rfl⟩ := Int.eq_ofNat_of_zero_le (show 0 ≤ n by omega)
  by_cases h3 : N < 8
  · have d3 : (N : Int) < 8 := by omega
    by_cases h4 : 256 ^ N ≤ v
    · have hr : refU v (N : Int) = (3, []) := (if_neg (by omega)).trans (if_pos ⟨d3, by simpa using h4⟩)
      rw [hr]
      generalize hp : 256 ^ N = p at h4
      have HP := hid hp
      clear hp
      have d4 : decide ((p : Int) ≤ v) = true := by simp; omega
      have d4' : decide (p ≤ v) = true := by simp; omega
      go_enter Try.func28, Try.ntmps28
      go_wp2_with fail
      refine (power_any N w (by omega)).mono ?_
      rintro e w1 ⟨rfl, rfl⟩
      rw [HP.out]
      go_wp2_with fail
      go_ret2
      exact ⟨_, rfl, NewB.none_ w⟩
    · have hr : refU v (N : Int) = (0, bytesLE v N) := (if_neg (by omega)).trans (if_neg (fun h => h4 (by simpa using h.2)))
      rw [hr]
      generalize hp : 256 ^ N = p at h4
      have HP := hid hp
      clear hp
      have d4 : decide ((p : Int) ≤ v) = false := by simp; omega
      have d4' : decide (p ≤ v) = false := by simp; omega
      go_enter Try.func28, Try.ntmps28
      go_wp2_with fail
      refine (power_any N w (by omega)).mono ?_
      rintro e w1 ⟨rfl, rfl⟩
      rw [HP.out]
      go_wp2_with fail
      refine (rbytes_any v N _ hv (by omega)).mono ?_
      rintro e w1 ⟨x, rfl, hx⟩
      go_wp2_with fail
      go_ret2
      exact ⟨_, rfl, hx⟩
  · obtain rfl : N = 8 := by omega
    have hr : refU v ((8 : Nat) : Int) = (0, bytesLE v 8) := (if_neg (by omega)).trans (if_neg (by omega))
    rw [hr]
    have d3 : ¬ ((8 : Nat) : Int) < 8 := by omega
    go_enter Try.func28, Try.ntmps28
    go_wp2_with fail
    refine (rbytes_any v 8 _ hv (by omega)).mono ?_
    rintro e w1 ⟨x, rfl, hx⟩
    go_wp2_with fail
    go_ret2
    exact ⟨_, rfl, hx⟩
/-- laying what a call of the reference gives -/
def lay (s r : Int × List UInt8) : Int × List UInt8 := if s.1 ≠ 0 then s else (r.1, s.2 ++ r.2)
theorem putU_lay (s : Int × List UInt8) (v : Nat) (n : Int) : putU s v n = lay s (refU v n) := by
  unfold putU lay refU
  by_cases h0 : s.1 ≠ 0
  · rw [if_pos h0, if_pos h0]
  rw [if_neg h0, if_neg h0]
  by_cases h1 : n < 1 ∨ 8 < n
  · rw [if_pos h1, if_pos h1]; simp
  rw [if_neg h1, if_neg h1]
  by_cases h2 : n < 8 ∧ 256 ^ n.toNat ≤ v
  · rw [if_pos h2, if_pos h2]; simp
  rw [if_neg h2, if_neg h2]
end Go.Proofs.Ytbcddeiicneajaa
