/- The maker's I, of one to seven bytes, and of eight. -/
import Derived.Test.YtbcddeiicneajaaRefField2
namespace Go.Proofs.Ytbcddeiicneajaa
set_option linter.unusedVariables false
open Go.RowKit
def p256 : Nat → Nat
  | 1 => 256 | 2 => 65536 | 3 => 16777216 | 4 => 4294967296 | 5 => 1099511627776 | 6 => 281474976710656 | 7 => 72057594037927936 | _ => 18446744073709551616
def half256 : Nat → Nat
  | 1 => 128 | 2 => 32768 | 3 => 8388608 | 4 => 2147483648 | 5 => 549755813888 | 6 => 140737488355328 | _ => 36028797018963968
def mask256 : Nat → Int
  | 1 => 255 | 2 => 65535 | 3 => 16777215 | 4 => 4294967295 | 5 => 1099511627775 | 6 => 281474976710655 | _ => 72057594037927935
def refI (v n : Int) : Int × List UInt8 :=
  if n < 1 ∨ 8 < n then (1, []) else if n < 8 ∧ (v < -(half256 n.toNat : Int) ∨ (half256 n.toNat : Int) ≤ v) then (3, []) else (0, bytesLE (v % (p256 n.toNat : Int)).toNat n.toNat)
def putI (s : Int × List UInt8) (v n : Int) : Int × List UInt8 := lay s (refI v n)
theorem u64_mask (v : Int) (k : Nat) (hk : k ≤ 63) : bits .and .u64 (v % 18446744073709551616) ((2 ^ k - 1 : Nat) : Int) = (((v % (2 ^ k : Nat)).toNat : Nat) : Int) := by
  have hp : 2 ^ k ≤ 2 ^ 63 := Nat.pow_le_pow_right (by omega) hk
  have hpos : 0 < 2 ^ k := Nat.pow_pos (by omega)
  obtain ⟨V, hV⟩ := Int.eq_ofNat_of_zero_le (show 0 ≤ v % 18446744073709551616 by omega)
  have hVl : V < 18446744073709551616 := by omega
  rw [hV, bits_and_u64_nat V (2 ^ k - 1) hVl (by omega), Nat.and_two_pow_sub_one_eq_mod]
  have hd : ((2 ^ k : Nat) : Int) ∣ 18446744073709551616 := by
    have : (2 ^ k : Nat) ∣ 2 ^ 64 := Nat.pow_dvd_pow 2 (by omega)
    have h2 : ((2 ^ k : Nat) : Int) ∣ ((2 ^ 64 : Nat) : Int) := Int.natCast_dvd_natCast.2 this
    exact h2
  have e : v % ((2 ^ k : Nat) : Int) = ((V % 2 ^ k : Nat) : Int) := by
    rw [Int.natCast_emod, ← hV, Int.emod_emod_of_dvd _ hd]
  rw [e, Int.toNat_natCast]
theorem p256_pow (N : Nat) (h : 1 ≤ N ∧ N ≤ 7) : p256 N = 256 ^ N ∧ p256 N = 2 ^ (8 * N) ∧ p256 N = 2 * half256 N := by
  obtain rfl | rfl | rfl | rfl | rfl | rfl | rfl : N = 1 ∨ N = 2 ∨ N = 3 ∨ N = 4 ∨ N = 5 ∨ N = 6 ∨ N = 7 := by omega
  all_goals exact ⟨by decide, by decide, by decide⟩
theorem mask_is (v : Int) (N : Nat) (h : 1 ≤ N ∧ N ≤ 7) : bits .and .u64 (IntKind.u64.wrap v) (mask256 N) = (((v % (p256 N : Int)).toNat : Nat) : Int) := by
  rw [IntKind.wrap_u64, (p256_pow N h).2.1]
  have e : mask256 N = ((2 ^ (8 * N) - 1 : Nat) : Int) := by
    obtain rfl | rfl | rfl | rfl | rfl | rfl | rfl : N = 1 ∨ N = 2 ∨ N = 3 ∨ N = 4 ∨ N = 5 ∨ N = 6 ∨ N = 7 := by omega
    all_goals decide +kernel
  rw [e]
  exact u64_mask v (8 * N) (by omega)
/-- U is called with what fits -/
theorem putU_I (s : Int × List UInt8) (h0 : s.1 = 0) (v : Int) (N : Nat) (h : 1 ≤ N ∧ N ≤ 7) (hr : ¬ (v < -(half256 N : Int) ∨ (half256 N : Int) ≤ v)) :
    putU s (v % (p256 N : Int)).toNat N = putI s v N := by
  have hp := p256_pow N h
  have hlt : (v % (p256 N : Int)).toNat < 256 ^ N := by
    rw [← hp.1]
    have : 0 < p256 N := by rw [hp.1]; exact Nat.pow_pos (by omega)
    have h1 := Int.emod_nonneg v (show (p256 N : Int) ≠ 0 by omega)
    have h2 := Int.emod_lt_of_pos v (show (0 : Int) < p256 N by omega)
    omega
  have hU : refU (v % (p256 N : Int)).toNat (N : Int) = (0, bytesLE (v % (p256 N : Int)).toNat N) := by
    unfold refU
    rw [if_neg (by omega), if_neg (fun h3 => by have h4 := h3.2; rw [Int.toNat_natCast] at h4; omega)]; rfl
  have hI : refI v (N : Int) = (0, bytesLE (v % (p256 N : Int)).toNat N) := by
    unfold refI
    rw [if_neg (by omega), if_neg (fun h3 => hr (by have h4 := h3.2; rw [Int.toNat_natCast] at h4; exact h4))]; rfl
  rw [putU_lay, putI, hU, hI]
set_option maxHeartbeats 2000000 in
set_option maxRecDepth 20000 in
theorem makerI_small (g : Nat) (R : Nat → Prop) (l : List UInt8) (v : Int) (N : Nat) (w : World) (hm : Mk w g R 0 l) (hv : -9223372036854775808 ≤ v ∧ v < 9223372036854775808) (hN : 1 ≤ N ∧ N ≤ 7) (hl : l.length ≤ 140737488355000) :
    Calls Try.prog 24 #[.pointer (some ⟨g, 0, none⟩), .int .i64 v, .int .i64 (N : Int)] w (MkPost w g R (putI (0, l) v N)) := by
  have hc0 := hm.cell0
  have hf0 := hm.fr 0
  by_cases hlo : v < -(half256 N : Int)
  · have hp : putI (0, l) v N = (3, l) := by
      unfold putI lay refI
      rw [if_neg (by simp), if_neg (by omega), if_pos ⟨by omega, .inl (by simpa using hlo)⟩]; simp
    rw [hp]
    have hme := hm.err 3
    obtain rfl | rfl | rfl | rfl | rfl | rfl | rfl : N = 1 ∨ N = 2 ∨ N = 3 ∨ N = 4 ∨ N = 5 ∨ N = 6 ∨ N = 7 := by omega
    all_goals
      simp only [half256] at hlo
      go_enter Try.func24, Try.ntmps24
      go_wp2_with fail
      refine (mready_is g 0 true _ hc0 rfl).mono ?_
      rintro e w' ⟨rfl, rfl⟩
      go_wp2_with fail
      refine (may_yes g _ _ hc0 (by omega)).mono ?_
      rintro e w' ⟨rfl, rfl⟩
      go_wp2_with fail
      refine (fail_ok g 3 _ hc0 hf0).mono ?_
      rintro e w' ⟨rfl, rfl⟩
      go_wp2_with fail
      exact bodyPost_ret (results_none rfl _ _ _) rfl ⟨rfl, R, hme.1, hme.2, fun b h => .inl h⟩
  have dlo : decide (v < -(half256 N : Int)) = false := by simpa using hlo
  by_cases hhi : (half256 N : Int) ≤ v
  · have hp : putI (0, l) v N = (3, l) := by
      unfold putI lay refI
      rw [if_neg (by simp), if_neg (by omega), if_pos ⟨by omega, .inr (by simpa using hhi)⟩]; simp
    rw [hp]
    have dhi : decide ((half256 N : Int) ≤ v) = true := by simpa using hhi
    have hme := hm.err 3
    obtain rfl | rfl | rfl | rfl | rfl | rfl | rfl : N = 1 ∨ N = 2 ∨ N = 3 ∨ N = 4 ∨ N = 5 ∨ N = 6 ∨ N = 7 := by omega
    all_goals
      simp only [half256] at hlo hhi dlo dhi
      go_enter Try.func24, Try.ntmps24
      go_wp2_with fail
      refine (mready_is g 0 true _ hc0 rfl).mono ?_
      rintro e w' ⟨rfl, rfl⟩
      go_wp2_with fail
      refine (may_yes g _ _ hc0 (by omega)).mono ?_
      rintro e w' ⟨rfl, rfl⟩
      go_wp2_with fail
      refine (fail_ok g 3 _ hc0 hf0).mono ?_
      rintro e w' ⟨rfl, rfl⟩
      go_wp2_with fail
      exact bodyPost_ret (results_none rfl _ _ _) rfl ⟨rfl, R, hme.1, hme.2, fun b h => .inl h⟩
  · have dhi : decide ((half256 N : Int) ≤ v) = false := by simpa using hhi
    have HP := hid (putU_I (0, l) rfl v N hN (by omega))
    have HM := hid (mask_is v N hN)
    have hpp := p256_pow N hN
    have hmod : 0 ≤ v % (p256 N : Int) ∧ v % (p256 N : Int) < p256 N := by
      have : 0 < p256 N := by rw [hpp.1]; exact Nat.pow_pos (by omega)
      exact ⟨Int.emod_nonneg _ (by omega), Int.emod_lt_of_pos _ (by omega)⟩
    have hpl : p256 N ≤ 72057594037927936 := by
      obtain rfl | rfl | rfl | rfl | rfl | rfl | rfl : N = 1 ∨ N = 2 ∨ N = 3 ∨ N = 4 ∨ N = 5 ∨ N = 6 ∨ N = 7 := by omega
      all_goals decide
    have hXl : (v % (p256 N : Int)).toNat < 18446744073709551616 := by omega
    clear hpp hpl hmod
    rw [← HP.out]
    generalize hX : (v % (p256 N : Int)).toNat = X at HM hXl
    clear HP hX
    obtain rfl | rfl | rfl | rfl | rfl | rfl | rfl : N = 1 ∨ N = 2 ∨ N = 3 ∨ N = 4 ∨ N = 5 ∨ N = 6 ∨ N = 7 := by omega
    all_goals
      simp only [half256] at hlo hhi dlo dhi
      go_enter Try.func24, Try.ntmps24
      go_wp2_with fail
      refine (mready_is g 0 true _ hc0 rfl).mono ?_
      rintro e w' ⟨rfl, rfl⟩
      go_wp2_with fail
      refine (may_yes g _ _ hc0 (by omega)).mono ?_
      rintro e w' ⟨rfl, rfl⟩
      go_wp2_with fail
      have hb := HM.out
      simp only [mask256] at hb
      rw [hb]
      refine (makerU_any g R 0 l X _ _ hm hXl hl).mono ?_
      rintro e w' ⟨rfl, hpost⟩
      go_wp2_with fail
      go_end0
      exact ⟨rfl, hpost⟩
end Go.Proofs.Ytbcddeiicneajaa
