import Derived.WalkKit
namespace Go.Proofs.YtkmhmehofipehaaDoor
set_option linter.unusedVariables false
/-- one step -/
def stepI (x : Int) : Int := if x % 2 = 1 then bits .xor .u32 (x / 2) 3988292384 else x / 2
def stepsI : Nat → Int → Int
  | 0, x => x
  | n + 1, x => stepI (stepsI n x)
theorem xor32 (a b : Int) (h1 : 0 ≤ a) (h2 : a < 4294967296) (h3 : 0 ≤ b) (h4 : b < 4294967296) : bits .xor .u32 a b = ((a.toNat ^^^ b.toNat : Nat) : Int) := by
  obtain ⟨A, rfl⟩ := Int.eq_ofNat_of_zero_le h1
  obtain ⟨B, rfl⟩ := Int.eq_ofNat_of_zero_le h3
  simpa using u32_xor_nat A B (by omega) (by omega)
theorem xor32_range (a b : Int) (h1 : 0 ≤ a) (h2 : a < 4294967296) (h3 : 0 ≤ b) (h4 : b < 4294967296) : 0 ≤ bits .xor .u32 a b ∧ bits .xor .u32 a b < 4294967296 := by
  rw [xor32 a b h1 h2 h3 h4]
  have := Nat.xor_lt_two_pow (x := a.toNat) (y := b.toNat) (n := 32) (by omega) (by omega)
  omega
theorem stepI_range (x : Int) (h0 : 0 ≤ x) (h1 : x < 4294967296) : 0 ≤ stepI x ∧ stepI x < 4294967296 := by
  unfold stepI
  split
  · exact xor32_range _ _ (by omega) (by omega) (by omega) (by omega)
  · omega
theorem stepsI_range (n : Nat) (x : Int) (h0 : 0 ≤ x) (h1 : x < 4294967296) : 0 ≤ stepsI n x ∧ stepsI n x < 4294967296 := by
  induction n with
  | zero => exact ⟨h0, h1⟩
  | succ n ih => exact stepI_range _ ih.1 ih.2
theorem and1_u32 (x : Int) (h0 : 0 ≤ x) (h1 : x < 4294967296) : bits .and .u32 x 1 = x % 2 := by
  obtain ⟨A, rfl⟩ := Int.eq_ofNat_of_zero_le h0
  have := u32_and_nat A 1 (by omega) (by omega)
  simpa [Nat.and_one_is_mod] using this
end Go.Proofs.YtkmhmehofipehaaDoor
