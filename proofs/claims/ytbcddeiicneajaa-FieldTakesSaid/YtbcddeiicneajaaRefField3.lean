/- The reference's I and Text. -/
import Derived.Test.YtbcddeiicneajaaFieldI2
namespace Go.Proofs.Ytbcddeiicneajaa
set_option linter.unusedVariables false
open Go.RowKit
theorem rbytes_int (x n : Int) (w : World) (h0 : 0 ≤ x) (hx : x < 18446744073709551616) (hn0 : 0 ≤ n) (hn : n ≤ 8) :
    Calls Try.prog 45 #[.int .u64 x, .int .i64 n] w (ClonePost w (bytesLE x.toNat n.toNat)) := by
  obtain ⟨X, rfl⟩ := Int.eq_ofNat_of_zero_le h0
  obtain ⟨N, rfl⟩ := Int.eq_ofNat_of_zero_le hn0
  rw [Int.toNat_natCast, Int.toNat_natCast]
  exact rbytes_any X N w (by omega) (by omega)
def pI : Nat → Int
  | 1 => 256 | 2 => 65536 | 3 => 16777216 | 4 => 4294967296 | 5 => 1099511627776 | 6 => 281474976710656 | _ => 72057594037927936
theorem power_is (N : Nat) (w : World) (h : 1 ≤ N ∧ N ≤ 7) :
    Calls Try.prog 44 #[.int .i64 (N : Int)] w fun e w' => e = .returned (.int .u64 (pI N)) ∧ w = w' := by
  have e : ((256 ^ N : Nat) : Int) = pI N := by
    obtain rfl | rfl | rfl | rfl | rfl | rfl | rfl : N = 1 ∨ N = 2 ∨ N = 3 ∨ N = 4 ∨ N = 5 ∨ N = 6 ∨ N = 7 := by omega
    all_goals rfl
  rw [← e]
  exact power_any N w (by omega)
set_option maxHeartbeats 2000000 in
set_option maxRecDepth 20000 in
theorem rI_small (v : Int) (N : Nat) (w : World) (hv : -9223372036854775808 ≤ v ∧ v < 9223372036854775808) (hN : 1 ≤ N ∧ N ≤ 7) :
    Calls Try.prog 29 #[.int .i64 v, .int .i64 (N : Int)] w (RefPost w (refI v N)) := by
  by_cases hlo : v < -(half256 N : Int)
  · have hp : refI v N = (3, []) := by
      unfold refI
      rw [if_neg (by omega), if_pos ⟨by omega, .inl (by simpa using hlo)⟩]
    rw [hp]
    have dlo : decide (v < -(half256 N : Int)) = true := by simpa using hlo
    obtain rfl | rfl | rfl | rfl | rfl | rfl | rfl : N = 1 ∨ N = 2 ∨ N = 3 ∨ N = 4 ∨ N = 5 ∨ N = 6 ∨ N = 7 := by omega
    all_goals
      simp only [half256] at hlo dlo
      go_enter Try.func29, Try.ntmps29
      go_wp2_with fail
      refine (power_is _ w (by omega)).mono ?_
      rintro e w' ⟨rfl, rfl⟩
      simp only [pI]
      go_wp2_with fail
      go_ret2
      exact ⟨_, rfl, NewB.none_ w⟩
  have dlo : decide (v < -(half256 N : Int)) = false := by simpa using hlo
  by_cases hhi : (half256 N : Int) ≤ v
  · have hp : refI v N = (3, []) := by
      unfold refI
      rw [if_neg (by omega), if_pos ⟨by omega, .inr (by simpa using hhi)⟩]
    rw [hp]
    have dhi : decide ((half256 N : Int) ≤ v) = true := by simpa using hhi
    obtain rfl | rfl | rfl | rfl | rfl | rfl | rfl : N = 1 ∨ N = 2 ∨ N = 3 ∨ N = 4 ∨ N = 5 ∨ N = 6 ∨ N = 7 := by omega
    all_goals
      simp only [half256] at hlo dlo hhi dhi
      go_enter Try.func29, Try.ntmps29
      go_wp2_with fail
      refine (power_is _ w (by omega)).mono ?_
      rintro e w' ⟨rfl, rfl⟩
      simp only [pI]
      go_wp2_with fail
      go_ret2
      exact ⟨_, rfl, NewB.none_ w⟩
  have dhi : decide ((half256 N : Int) ≤ v) = false := by simpa using hhi
  have hp : refI v N = (0, bytesLE (v % (p256 N : Int)).toNat N) := by
    unfold refI
    rw [if_neg (by omega), if_neg (fun h3 => by have h4 := h3.2; rw [Int.toNat_natCast] at h4; omega)]; rfl
  rw [hp]
  have HE := hid (rfl : bytesLE (v % (p256 N : Int)).toNat N = bytesLE (v % (p256 N : Int)).toNat N)
  generalize hX : bytesLE (v % (p256 N : Int)).toNat N = X
  have HX := hid hX
  clear hX HE hp
  by_cases hneg : v < 0
  · obtain rfl | rfl | rfl | rfl | rfl | rfl | rfl : N = 1 ∨ N = 2 ∨ N = 3 ∨ N = 4 ∨ N = 5 ∨ N = 6 ∨ N = 7 := by omega
    all_goals
      simp only [half256] at hlo dlo hhi dhi
      go_enter Try.func29, Try.ntmps29
      go_wp2_with fail
      refine (power_is _ w (by omega)).mono ?_
      rintro e w' ⟨rfl, rfl⟩
      simp only [pI]
      go_wp2_with fail
      refine (rbytes_int _ _ w (by omega) (by omega) (by omega) (by omega)).mono ?_
      rintro e w' ⟨x, rfl, hx⟩
      go_wp2_with fail
      go_ret2
      refine ⟨_, rfl, ?_⟩
      rw [← HX.out]
      have hT := hid hx
      clear hx
      have hx := hT.out
      refine cast ?_ hx
      congr 1
      congr 1
      simp only [p256]
      omega
  · obtain rfl | rfl | rfl | rfl | rfl | rfl | rfl : N = 1 ∨ N = 2 ∨ N = 3 ∨ N = 4 ∨ N = 5 ∨ N = 6 ∨ N = 7 := by omega
    all_goals
      simp only [half256] at hlo dlo hhi dhi
      go_enter Try.func29, Try.ntmps29
      go_wp2_with fail
      refine (power_is _ w (by omega)).mono ?_
      rintro e w' ⟨rfl, rfl⟩
      simp only [pI]
      go_wp2_with fail
      refine (rbytes_int _ _ w (by omega) (by omega) (by omega) (by omega)).mono ?_
      rintro e w' ⟨x, rfl, hx⟩
      go_wp2_with fail
      go_ret2
      refine ⟨_, rfl, ?_⟩
      rw [← HX.out]
      have hT := hid hx
      clear hx
      have hx := hT.out
      refine cast ?_ hx
      congr 1
      congr 1
      simp only [p256]
      omega
set_option maxHeartbeats 2000000 in
set_option maxRecDepth 20000 in
theorem rI_any (v n : Int) (w : World) (hv : -9223372036854775808 ≤ v ∧ v < 9223372036854775808) :
    Calls Try.prog 29 #[.int .i64 v, .int .i64 n] w (RefPost w (refI v n)) := by
  by_cases h1 : n < 1
  · have hr : refI v n = (1, []) := if_pos (.inl h1)
    rw [hr]
    have d1 : decide (n < 1) = true := by simpa using h1
    go_enter Try.func29, Try.ntmps29
    go_wp2_with fail
    go_ret2
    exact ⟨_, rfl, NewB.none_ w⟩
  have d1 : decide (n < 1) = false := by simpa using h1
  by_cases h2 : 8 < n
  · have hr : refI v n = (1, []) := if_pos (.inr h2)
    rw [hr]
    have d2 : decide (8 < n) = true := by simpa using h2
    go_enter Try.func29, Try.ntmps29
    go_wp2_with fail
    go_ret2
    exact ⟨_, rfl, NewB.none_ w⟩
  obtain ⟨N, rfl⟩ := Int.eq_ofNat_of_zero_le (show 0 ≤ n by omega)
  by_cases h8 : N = 8
  · subst h8
    have hr : refI v ((8 : Nat) : Int) = (0, bytesLE (v % 18446744073709551616).toNat 8) := (if_neg (by omega)).trans (if_neg (by omega))
    rw [hr]
    obtain ⟨V, hV⟩ := Int.eq_ofNat_of_zero_le (show 0 ≤ v % 18446744073709551616 by omega)
    have hVl : V < 18446744073709551616 := by omega
    have HW := hid (show IntKind.u64.wrap v = (V : Int) by rw [IntKind.wrap_u64, hV])
    rw [hV, Int.toNat_natCast]
    clear hV hr
    change Calls _ _ #[_, .int .i64 8] _ _
    go_enter Try.func29, Try.ntmps29
    go_wp2_with fail
    rw [HW.out]
    refine (rbytes_any V 8 w hVl (by omega)).mono ?_
    rintro e w' ⟨x, rfl, hx⟩
    go_wp2_with fail
    go_ret2
    exact ⟨_, rfl, hx⟩
  · exact rI_small v N w hv (by omega)
end Go.Proofs.Ytbcddeiicneajaa
