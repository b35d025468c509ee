/- The walk of TailBlocks. -/
import Derived.Test.YtllbemdeimgiiaaLaw28Known
namespace Go.Proofs.Ytllbemdeimgiiaa.tailBlocks
set_option linter.unusedVariables false
open Go.RowKit
theorem none_zero {c b : Nat} (h : blocksN c b = 0) : c = 0 := by
  unfold blocksN at h
  have e := Nat.div_add_mod c b
  by_cases hr : 0 < c % b
  · rw [if_pos hr] at h; exact absurd h (Nat.succ_ne_zero _)
  · have hq : c / b = 0 := by rw [if_neg hr] at h; simpa using h
    rw [hq] at e; omega
set_option maxHeartbeats 1000000 in
set_option maxRecDepth 20000 in
theorem walk (c b i : Int) (w : World) (hc : -9223372036854775808 ≤ c ∧ c < 9223372036854775808) (hb : -9223372036854775808 ≤ b ∧ b < 9223372036854775808) (hi : -9223372036854775808 ≤ i ∧ i < 9223372036854775808) :
    Calls Try.prog 3 #[.int .i64 c, .int .i64 b, .int .i64 i] w fun e w' => e = .returned (.bool true) ∧ Below w.heap.size w w' := by
  by_cases hk : KnownZ c b
  · have hK : knownB c b = true := (knownB_iff c b).2 hk
    have hz : blocksZ c b = (blocksN c.toNat b.toNat : Nat) := if_pos hk
    have hl0 : ∀ j : Nat, lengthZ c b j = (lengthN c.toNat b.toNat j : Nat) := fun j => by rw [lengthZ, if_pos ⟨hk, by omega⟩]; rfl
    have HL := hid hl0
    clear hl0
    unfold KnownZ at hk
    obtain ⟨C, rfl⟩ := Int.eq_ofNat_of_zero_le hk.1
    obtain ⟨B, rfl⟩ := Int.eq_ofNat_of_zero_le (show 0 ≤ b by omega)
    simp only [Int.toNat_natCast] at hz HL
    by_cases hn : blocksN C B = 0
    · have hC := none_zero hn
      subst hC
      rw [hn] at hz
      have hz' : blocksZ 0 (B : Int) = 0 := hz
      have HZ := hid hz'
      clear hz hz' hn
      change Calls _ _ #[.int .i64 0, .int .i64 (B : Int), .int .i64 i] _ _
      have hK' : knownB 0 (B : Int) = true := hK
      clear hK
      go_enter Try.func3, Try.ntmps3
      go_wp2_with fail
      refine (blocks_any _ _ _).mono ?_
      rintro e w1 ⟨rfl, rfl⟩
      rw [HZ.out]
      go_wp2_with fail
      refine (rblocks_any _ _ _).mono ?_
      rintro e w1 ⟨rfl, rfl⟩
      rw [HZ.out]
      go_wp2_with fail
      refine (length_any _ _ _ _).mono ?_
      rintro e w1 ⟨rfl, rfl⟩
      go_wp2_with fail
      refine (rlength_any _ _ _ _).mono ?_
      rintro e w1 ⟨rfl, rfl⟩
      go_wp2_with fail
      refine (rknown_any _ _ _).mono ?_
      rintro e w1 ⟨rfl, rfl⟩
      go_wp2_with fail
      refine (known_any _).mono ?_
      rintro e w2 ⟨rfl, hb2⟩
      go_wp2_with fail
      go_ret
      exact ⟨rfl, hb2⟩
    · have hlast := last_sum C B (by omega) (by omega)
      have hfirst := first_full C B (by omega)
      have hle := blocks_le C B (by omega)
      have hpr := blocks_prod C B (blocksN C B - 1) (by omega) (by omega)
      obtain ⟨n, hnn⟩ : ∃ n, blocksN C B = n := ⟨_, rfl⟩
      rw [hnn] at hz hn hlast hfirst hle hpr
      have HZ := hid hz
      have HLA := hid hlast
      have HFI := hid hfirst
      clear hz hnn hlast hfirst
      have hz0 : ((n : Int) == 0) = false := by rw [beq_eq_false_iff_ne]; omega
      have hp1 : 0 ≤ ((n : Int) - 1) * B := by rw [show (n : Int) - 1 = ((n - 1 : Nat) : Int) by omega]; exact Int.natCast_nonneg ((n - 1) * B)
      have hp2 : ((n : Int) - 1) * B ≤ C := by rw [show (n : Int) - 1 = ((n - 1 : Nat) : Int) by omega, ← Int.natCast_mul]; omega
      have hp3 : ((n : Int) - 1) * B = (((n - 1) * B : Nat) : Int) := by rw [Int.natCast_mul, show (n : Int) - 1 = ((n - 1 : Nat) : Int) by omega]
      have HP := hid hp3
      clear hp3
      go_enter Try.func3, Try.ntmps3
      go_wp2_with fail
      refine (blocks_any _ _ _).mono ?_
      rintro e w1 ⟨rfl, rfl⟩
      rw [HZ.out]
      go_wp2_with fail
      refine (rblocks_any _ _ _).mono ?_
      rintro e w1 ⟨rfl, rfl⟩
      rw [HZ.out]
      go_wp2_with fail
      refine (length_any _ _ _ _).mono ?_
      rintro e w1 ⟨rfl, rfl⟩
      go_wp2_with fail
      refine (rlength_any _ _ _ _).mono ?_
      rintro e w1 ⟨rfl, rfl⟩
      go_wp2_with fail
      refine (length_any _ _ _ _).mono ?_
      rintro e w1 ⟨rfl, rfl⟩
      rw [show (n : Int) - 1 = ((n - 1 : Nat) : Int) by omega, HL.out, ← Int.natCast_mul]
      have hfin : ((((n - 1) * B : Nat) : Int) + ((lengthN C B (n - 1) : Nat) : Int)) = (C : Int) := by rw [← Int.natCast_add, HLA.out]
      go_wp2_with fail
      · refine (known_any _).mono ?_
        rintro e w2 ⟨rfl, hb2⟩
        go_wp2_with fail
        go_ret
        exact ⟨rfl, hb2⟩
      · have hn1 : ¬ (n : Int) = 1 := by assumption
        have hf0 : lengthZ (C : Int) B 0 = B := by
          have := HL.out 0
          rw [HFI.out (by omega)] at this; exact this
        refine (length_any _ _ _ _).mono ?_
        rintro e w1 ⟨rfl, rfl⟩
        rw [hf0]
        clear hf0
        go_wp2_with fail
        refine (known_any _).mono ?_
        rintro e w2 ⟨rfl, hb2⟩
        go_wp2_with fail
        go_ret
        exact ⟨rfl, hb2⟩
  · have hK : knownB c b = false := by rw [← Bool.not_eq_true, knownB_iff]; exact hk
    have hz : blocksZ c b = 0 := if_neg hk
    have HZ := hid hz
    clear hz
    go_enter Try.func3, Try.ntmps3
    go_wp2_with fail
    refine (blocks_any _ _ _).mono ?_
    rintro e w1 ⟨rfl, rfl⟩
    rw [HZ.out]
    go_wp2_with fail
    refine (rblocks_any _ _ _).mono ?_
    rintro e w1 ⟨rfl, rfl⟩
    rw [HZ.out]
    go_wp2_with fail
    refine (length_any _ _ _ _).mono ?_
    rintro e w1 ⟨rfl, rfl⟩
    go_wp2_with fail
    refine (rlength_any _ _ _ _).mono ?_
    rintro e w1 ⟨rfl, rfl⟩
    go_wp2_with fail
    refine (rknown_any _ _ _).mono ?_
    rintro e w1 ⟨rfl, rfl⟩
    go_wp2_with fail
    refine (known_any _).mono ?_
    rintro e w2 ⟨rfl, hb2⟩
    go_wp2_with fail
    go_ret
    exact ⟨rfl, hb2⟩
end Go.Proofs.Ytllbemdeimgiiaa.tailBlocks
