/- What FieldBack leans on: laid numbers are what they were. -/
import Derived.Test.YtbcddeiicneajaaTaker3
import Derived.Test.YtbcddeiicneajaaLaw04Makes
namespace Go.Proofs.Ytbcddeiicneajaa
set_option linter.unusedVariables false
open Go.RowKit
theorem valLE_bytesLE (v n : Nat) : valLE (bytesLE v n) = v % 256 ^ n := by
  induction n with
  | zero => simp [bytesLE, valLE, Nat.mod_one]
  | succ n ih =>
    rw [bytesLE_snoc, valLE_snoc, ih, bytesLE_length]
    have e : (UInt8.ofNat (v / 256 ^ n % 256)).toNat = v / 256 ^ n % 256 := by
      rw [UInt8.toNat_ofNat']; omega
    rw [e, Nat.pow_succ, Nat.mod_mul, Nat.mul_comm]
theorem sign_back (x : Int) (N : Nat) (hN : 1 ≤ N ∧ N ≤ 8) (hx : -9223372036854775808 ≤ x ∧ x < 9223372036854775808) (hr : N < 8 → -(half256 N : Int) ≤ x ∧ x < half256 N) :
    signI N ((x % (p256 N : Int)).toNat) = x := by
  obtain rfl | rfl | rfl | rfl | rfl | rfl | rfl | rfl : N = 1 ∨ N = 2 ∨ N = 3 ∨ N = 4 ∨ N = 5 ∨ N = 6 ∨ N = 7 ∨ N = 8 := by omega
  all_goals
    simp only [signI, p256, half256, IntKind.wrap_u64] at hr ⊢
    unfold wrap64
    simp only [Nat.reduceSub, Nat.reduceMul, Int.reducePow]
    omega
end Go.Proofs.Ytbcddeiicneajaa
namespace Go.Proofs.Ytbcddeiicneajaa.fieldBack
set_option linter.unusedVariables false
open Go.RowKit fieldMakes
theorem lay_zero {s r : Int × List UInt8} (h : (lay s r).1 = 0) : s.1 = 0 ∧ r.1 = 0 ∧ (lay s r).2 = s.2 ++ r.2 := by
  unfold lay at h ⊢
  by_cases h0 : s.1 ≠ 0
  · rw [if_pos h0] at h; exact absurd h h0
  · rw [if_neg h0] at h ⊢
    exact ⟨by omega, h, rfl⟩
theorem laid_pre (l : List Deed) (h : (laid l).1 = 0) : ∀ (d k : Nat), k + d = l.length → (laid (l.take k)).1 = 0 ∧ ∃ rest, (laid l).2 = (laid (l.take k)).2 ++ rest
  | 0, k, hk => by
    rw [List.take_of_length_le (by omega)]
    exact ⟨h, [], by simp⟩
  | d + 1, k, hk => by
    obtain ⟨h1, rest, h2⟩ := laid_pre l h d (k + 1) (by omega)
    rw [laid_step l k (by omega)] at h1 h2
    obtain ⟨h3, h4, h5⟩ := lay_zero h1
    exact ⟨h3, (res l[k]).2 ++ rest, by rw [h2, h5, List.append_assoc]⟩
/-- what stands at the place of a field -/
theorem laid_at (l : List Deed) (h : (laid l).1 = 0) (k : Nat) (hk : k < l.length) :
    (res l[k]).1 = 0 ∧ (laid (l.take (k + 1))).2 = (laid (l.take k)).2 ++ (res l[k]).2 ∧ ∃ rest, (laid l).2 = (laid (l.take k)).2 ++ ((res l[k]).2 ++ rest) := by
  obtain ⟨h1, rest, h2⟩ := laid_pre l h (l.length - (k + 1)) (k + 1) (by omega)
  rw [laid_step l k hk] at h1 h2 ⊢
  obtain ⟨h3, h4, h5⟩ := lay_zero h1
  exact ⟨h4, h5, rest, by rw [h2, h5, List.append_assoc]⟩
theorem tnext_at (P X rest : List UInt8) : tnext P.length (P ++ (X ++ rest)) X.length = ((0, P.length + X.length), X) := by
  unfold tnext
  rw [if_neg (by simp), List.drop_left, List.take_left]
theorem takeU_at (P X rest : List UInt8) (n : Int) (hn : 1 ≤ n ∧ n ≤ 8) (hX : X.length = n.toNat) : takeU (0, P.length) (P ++ (X ++ rest)) n = ((0, P.length + X.length), X) := by
  unfold takeU
  rw [if_neg (by simp), if_neg (by omega), ← hX]
  exact tnext_at P X rest
theorem refU_back {v : Nat} {n : Int} (hv : v < 18446744073709551616) (h : (refU v n).1 = 0) : 1 ≤ n ∧ n ≤ 8 ∧ (refU v n).2 = bytesLE v n.toNat ∧ (refU v n).2.length = n.toNat ∧ valLE (refU v n).2 = v := by
  unfold refU at h ⊢
  by_cases h1 : n < 1 ∨ 8 < n
  · rw [if_pos h1] at h; simp at h
  rw [if_neg h1] at h ⊢
  by_cases h2 : n < 8 ∧ 256 ^ n.toNat ≤ v
  · rw [if_pos h2] at h; simp at h
  rw [if_neg h2]
  refine ⟨by omega, by omega, rfl, bytesLE_length _ _, ?_⟩
  show valLE (bytesLE v n.toNat) = v
  rw [valLE_bytesLE, Nat.mod_eq_of_lt]
  by_cases h8 : n < 8
  · exact Nat.lt_of_not_le fun h => h2 ⟨h8, h⟩
  · have : n.toNat = 8 := by omega
    rw [this]; exact hv
theorem refI_back {x n : Int} (hx : -9223372036854775808 ≤ x ∧ x < 9223372036854775808) (h : (refI x n).1 = 0) : 1 ≤ n ∧ n ≤ 8 ∧ (refI x n).2.length = n.toNat ∧ signI n.toNat (valLE (refI x n).2) = x := by
  unfold refI at h ⊢
  by_cases h1 : n < 1 ∨ 8 < n
  · rw [if_pos h1] at h; simp at h
  rw [if_neg h1] at h ⊢
  by_cases h2 : n < 8 ∧ (x < -(half256 n.toNat : Int) ∨ (half256 n.toNat : Int) ≤ x)
  · rw [if_pos h2] at h; simp at h
  rw [if_neg h2]
  have hN : 1 ≤ n.toNat ∧ n.toNat ≤ 8 := by omega
  have hp : p256 n.toNat = 256 ^ n.toNat := by
    obtain h | h | h | h | h | h | h | h : n.toNat = 1 ∨ n.toNat = 2 ∨ n.toNat = 3 ∨ n.toNat = 4 ∨ n.toNat = 5 ∨ n.toNat = 6 ∨ n.toNat = 7 ∨ n.toNat = 8 := by omega
    all_goals rw [h]; rfl
  refine ⟨by omega, by omega, bytesLE_length _ _, ?_⟩
  show signI n.toNat (valLE (bytesLE (x % (p256 n.toNat : Int)).toNat n.toNat)) = x
  rw [valLE_bytesLE, Nat.mod_eq_of_lt]
  · exact sign_back x n.toNat hN hx fun h => by
      have := fun h3 => h2 ⟨by omega, h3⟩
      omega
  · rw [← hp]
    have : 0 < p256 n.toNat := by rw [hp]; exact Nat.pow_pos (by omega)
    have h1 := Int.emod_nonneg x (show (p256 n.toNat : Int) ≠ 0 by omega)
    have h2 := Int.emod_lt_of_pos x (show (0 : Int) < p256 n.toNat by omega)
    omega
end Go.Proofs.Ytbcddeiicneajaa.fieldBack
