/- Contracts: Length, of the program and of the reference. -/
import Derived.Test.YtllbemdeimgiiaaTailBlocks
namespace Go.Proofs.Ytllbemdeimgiiaa
set_option linter.unusedVariables false
open Go.RowKit
set_option maxHeartbeats 400000 in
theorem length_any (c b i : Int) (w : World) :
    Calls Try.prog 11 #[.int .i64 c, .int .i64 b, .int .i64 i] w fun e w' => e = .returned (.int .i64 (lengthZ c b i)) ∧ w = w' := by
  by_cases hi : i < 0
  · have h1 : decide (i < 0) = true := by simpa using hi
    have hz : lengthZ c b i = 0 := if_neg (by omega)
    go_enter Try.func11, Try.ntmps11
    go_wp2_with fail
    go_ret
    exact ⟨by rw [hz]; rfl, rfl⟩
  have h1 : decide (i < 0) = false := by simpa using hi
  by_cases hn : blocksZ c b ≤ i
  · have h2 : decide (blocksZ c b ≤ i) = true := by simpa using hn
    have hz : lengthZ c b i = 0 := by
      unfold lengthZ
      split
      · rename_i h
        rw [blocksZ, if_pos h.1] at hn
        rw [lengthN, if_neg (by omega)]; rfl
      · rfl
    go_enter Try.func11, Try.ntmps11
    go_wp2_with fail
    refine (blocks_any _ _ _).mono ?_
    rintro e w1 ⟨rfl, rfl⟩
    go_wp2_with fail
    go_ret
    exact ⟨by rw [hz]; rfl, rfl⟩
  · have h2 : decide (blocksZ c b ≤ i) = false := by simpa using hn
    have hk : KnownZ c b := by
      apply Decidable.byContradiction
      intro h
      rw [blocksZ, if_neg h] at hn
      omega
    have hz : lengthZ c b i = (lengthN c.toNat b.toNat i.toNat : Nat) := if_pos ⟨hk, by omega⟩
    have hbz : blocksZ c b = (blocksN c.toNat b.toNat : Nat) := if_pos hk
    rw [hbz] at hn
    have HZ := hid hz
    have HB := hid hbz
    clear hz hbz
    unfold KnownZ at hk
    obtain ⟨C, rfl⟩ := Int.eq_ofNat_of_zero_le hk.1
    obtain ⟨B, rfl⟩ := Int.eq_ofNat_of_zero_le (show 0 ≤ b by omega)
    obtain ⟨I, rfl⟩ := Int.eq_ofNat_of_zero_le (show 0 ≤ i by omega)
    simp only [Int.toNat_natCast] at HZ HB hn
    have hp := blocks_prod C B I (by omega) (by omega)
    have hp1 : 0 ≤ (I : Int) * B := Int.natCast_nonneg (I * B)
    have hp2 : (I : Int) * B ≤ C := by rw [← Int.natCast_mul]; omega
    have hm := length_min C B I (by omega) (by omega)
    have HM := hid hm
    clear hm hn
    go_enter Try.func11, Try.ntmps11
    go_wp2_with fail
    refine (blocks_any _ _ _).mono ?_
    rintro e w1 ⟨rfl, rfl⟩
    go_wp2_with fail
    all_goals
      go_ret
      exact ⟨by rw [HZ.out, ← HM.out]; exact ret_int (by omega), rfl⟩
/-- what the law says of lengths, in the walk's own tests -/
theorem rlength_last {c b i : Nat} (hi : i < blocksN c b) (h : i + 1 = blocksN c b) (hr : 0 < c % b) : lengthN c b i = c % b := by rw [lengthN, if_pos hi, if_pos ⟨h, hr⟩]
theorem rlength_full {c b i : Nat} (hi : i < blocksN c b) (h : ¬ (i + 1 = blocksN c b ∧ 0 < c % b)) : lengthN c b i = b := by rw [lengthN, if_pos hi, if_neg h]
set_option maxHeartbeats 400000 in
theorem rlength_any (c b i : Int) (w : World) :
    Calls Try.prog 12 #[.int .i64 c, .int .i64 b, .int .i64 i] w fun e w' => e = .returned (.int .i64 (lengthZ c b i)) ∧ w = w' := by
  by_cases hi : i < 0
  · have h1 : decide (i < 0) = true := by simpa using hi
    have hz : lengthZ c b i = 0 := if_neg (by omega)
    go_enter Try.func12, Try.ntmps12
    go_wp2_with fail
    refine (rblocks_any _ _ _).mono ?_
    rintro e w1 ⟨rfl, rfl⟩
    go_wp2_with fail
    go_ret
    exact ⟨by rw [hz]; rfl, rfl⟩
  have h1 : decide (i < 0) = false := by simpa using hi
  by_cases hn : blocksZ c b ≤ i
  · have h2 : decide (blocksZ c b ≤ i) = true := by simpa using hn
    have hz : lengthZ c b i = 0 := by
      unfold lengthZ
      split
      · rename_i h
        rw [blocksZ, if_pos h.1] at hn
        rw [lengthN, if_neg (by omega)]; rfl
      · rfl
    go_enter Try.func12, Try.ntmps12
    go_wp2_with fail
    refine (rblocks_any _ _ _).mono ?_
    rintro e w1 ⟨rfl, rfl⟩
    go_wp2_with fail
    go_ret
    exact ⟨by rw [hz]; rfl, rfl⟩
  · have hk : KnownZ c b := by
      apply Decidable.byContradiction
      intro h
      rw [blocksZ, if_neg h] at hn
      omega
    have hz : lengthZ c b i = (lengthN c.toNat b.toNat i.toNat : Nat) := if_pos ⟨hk, by omega⟩
    have hbz : blocksZ c b = (blocksN c.toNat b.toNat : Nat) := if_pos hk
    rw [hbz] at hn
    have HZ := hid hz
    have HB := hid hbz
    clear hz hbz
    unfold KnownZ at hk
    obtain ⟨C, rfl⟩ := Int.eq_ofNat_of_zero_le hk.1
    obtain ⟨B, rfl⟩ := Int.eq_ofNat_of_zero_le (show 0 ≤ b by omega)
    obtain ⟨I, rfl⟩ := Int.eq_ofNat_of_zero_le (show 0 ≤ i by omega)
    simp only [Int.toNat_natCast] at HZ HB hn
    have hle := blocks_le C B (by omega)
    have hlast : I < blocksN C B := by omega
    have hl := @rlength_last C B I hlast
    have hf := @rlength_full C B I hlast
    obtain ⟨n, hnn⟩ : ∃ n, blocksN C B = n := ⟨_, rfl⟩
    rw [hnn] at HB hn hle hlast hl hf
    clear hnn
    have h2 : decide (n ≤ I) = false := by simp; omega
    by_cases hr : 0 < C % B
    · by_cases hl1 : I + 1 = n
      · have HL := hid (hl hl1 hr)
        clear hl hf
        subst hl1
        have hr' : (0 : Int) < (C : Int) % B := by omega
        have ht : ((I : Int) == (((I + 1 : Nat) : Int) - 1)) = true := by rw [beq_iff_eq]; omega
        go_enter Try.func12, Try.ntmps12
        go_wp2_with fail
        refine (rblocks_any _ _ _).mono ?_
        rintro e w1 ⟨rfl, rfl⟩
        rw [HB.out]
        go_wp2_with fail
        go_ret
        exact ⟨by rw [HZ.out, HL.out]; exact ret_int (by simp), rfl⟩
      · have HL := hid (hf (by omega))
        clear hl hf
        have ht : ((I : Int) == ((n : Int) - 1)) = false := by rw [beq_eq_false_iff_ne]; omega
        go_enter Try.func12, Try.ntmps12
        go_wp2_with fail
        refine (rblocks_any _ _ _).mono ?_
        rintro e w1 ⟨rfl, rfl⟩
        rw [HB.out]
        go_wp2_with fail
        go_ret
        exact ⟨by rw [HZ.out, HL.out]; rfl, rfl⟩
    · have HL := hid (hf (by omega))
      clear hl hf
      have hr' : ¬ (0 : Int) < (C : Int) % B := by omega
      have hr2 : decide ((0 : Int) < (C : Int) % B) = false := by simp; omega
      go_enter Try.func12, Try.ntmps12
      go_wp2_with fail
      refine (rblocks_any _ _ _).mono ?_
      rintro e w1 ⟨rfl, rfl⟩
      rw [HB.out]
      go_wp2_with fail
      all_goals
        go_ret
        exact ⟨by rw [HZ.out, HL.out]; rfl, rfl⟩
end Go.Proofs.Ytllbemdeimgiiaa
