/- How many blocks samples have, in plain words. -/
import Derived.Test.YtllbemdeimgiiaaKit
namespace Go.Proofs.Ytllbemdeimgiiaa
set_option linter.unusedVariables false
def KnownZ (c b : Int) : Prop := 0 ≤ c ∧ c ≤ 4294967295 ∧ 1 ≤ b ∧ b ≤ 65536
instance (c b : Int) : Decidable (KnownZ c b) := by unfold KnownZ; infer_instance
def knownB (c b : Int) : Bool := decide (0 ≤ c) && (decide (c ≤ 4294967295) && (decide (1 ≤ b) && decide (b ≤ 65536)))
theorem knownB_iff (c b : Int) : knownB c b = true ↔ KnownZ c b := by simp [knownB, KnownZ]
def blocksN (c b : Nat) : Nat := c / b + (if 0 < c % b then 1 else 0)
def lengthN (c b i : Nat) : Nat := if i < blocksN c b then (if i + 1 = blocksN c b ∧ 0 < c % b then c % b else b) else 0
def blocksZ (c b : Int) : Int := if KnownZ c b then blocksN c.toNat b.toNat else 0
def lengthZ (c b i : Int) : Int := if KnownZ c b ∧ 0 ≤ i then lengthN c.toNat b.toNat i.toNat else 0
theorem blocks_up (c b : Nat) (hb : 1 ≤ b) : (c + b - 1) / b = blocksN c b := by
  unfold blocksN
  have h := Nat.div_add_mod c b
  have hm := Nat.mod_lt c (show 0 < b by omega)
  generalize c / b = q at *
  generalize c % b = r at *
  have e : c + b - 1 = (r + b - 1) + b * q := by omega
  rw [e, Nat.add_mul_div_left _ _ (by omega)]
  split
  · have : (r + b - 1) / b = 1 := Nat.div_eq_of_lt_le (by omega) (by omega)
    omega
  · have : (r + b - 1) / b = 0 := Nat.div_eq_of_lt (by omega)
    omega
theorem blocks_le (c b : Nat) (hb : 1 ≤ b) : blocksN c b ≤ c := by
  unfold blocksN
  have h := Nat.div_add_mod c b
  have hq : c / b ≤ b * (c / b) := Nat.le_mul_of_pos_left _ hb
  split <;> omega
theorem blocks_prod (c b i : Nat) (hb : 1 ≤ b) (hi : i < blocksN c b) : i * b ≤ c := by
  unfold blocksN at hi
  have h := Nat.div_add_mod c b
  have : i * b ≤ (c / b) * b := Nat.mul_le_mul_right b (by split at hi <;> omega)
  rw [Nat.mul_comm] at this
  rw [Nat.mul_comm (c / b) b] at this
  rw [Nat.mul_comm]; omega
theorem length_min (c b i : Nat) (hb : 1 ≤ b) (hi : i < blocksN c b) : min b (c - i * b) = lengthN c b i := by
  unfold lengthN
  rw [if_pos hi]
  unfold blocksN at hi ⊢
  have h := Nat.div_add_mod c b
  have hm := Nat.mod_lt c (show 0 < b by omega)
  generalize c / b = q at *
  generalize c % b = r at *
  by_cases hr : 0 < r
  · rw [if_pos hr] at hi ⊢
    by_cases hl : i = q
    · subst hl; rw [if_pos ⟨rfl, hr⟩, Nat.mul_comm i b]; omega
    · rw [if_neg (by omega)]
      have : (i + 1) * b ≤ q * b := Nat.mul_le_mul_right b (by omega)
      rw [Nat.mul_comm q b, Nat.add_mul] at this
      omega
  · rw [if_neg hr] at hi ⊢
    rw [if_neg (by omega)]
    have : (i + 1) * b ≤ q * b := Nat.mul_le_mul_right b (by omega)
    rw [Nat.mul_comm q b, Nat.add_mul] at this
    omega
theorem last_sum (c b : Nat) (hb : 1 ≤ b) (hn : 0 < blocksN c b) : (blocksN c b - 1) * b + lengthN c b (blocksN c b - 1) = c := by
  rw [← length_min c b _ hb (by omega)]
  unfold blocksN at hn ⊢
  have h := Nat.div_add_mod c b
  have hm := Nat.mod_lt c (show 0 < b by omega)
  generalize c / b = q at *
  generalize c % b = r at *
  split
  · have e : (q + 1 - 1) * b = b * q := by rw [Nat.add_sub_cancel, Nat.mul_comm]
    rw [e]; omega
  · rename_i hr
    rw [if_neg hr] at hn
    have e : (q + 0 - 1) * b + b = b * q := by
      obtain ⟨p, rfl⟩ : ∃ p, q = p + 1 := ⟨q - 1, by omega⟩
      rw [show p + 1 + 0 - 1 = p by omega, Nat.mul_comm b, Nat.add_mul]; omega
    omega
theorem first_full (c b : Nat) (hb : 1 ≤ b) (hn : 1 < blocksN c b) : lengthN c b 0 = b := by
  unfold lengthN
  rw [if_pos (by omega), if_neg (by omega)]
end Go.Proofs.Ytllbemdeimgiiaa
