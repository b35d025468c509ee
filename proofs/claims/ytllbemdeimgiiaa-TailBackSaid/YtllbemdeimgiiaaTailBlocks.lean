/- Contracts: known, Blocks, Length, of the program and of the reference. -/
import Derived.Test.YtllbemdeimgiiaaProg
import Derived.Test.YtllbemdeimgiiaaTailPlain
import Derived.WalkSpells
import Derived.WalkLawsBesides
namespace Go.Proofs.Ytllbemdeimgiiaa
set_option linter.unusedVariables false
open Go.RowKit
set_option maxHeartbeats 400000 in
theorem tknown_any (c b : Int) (w : World) :
    Calls Try.prog 26 #[.int .i64 c, .int .i64 b] w fun e w' => e = .returned (.bool (knownB c b)) ∧ w = w' := by
  go_enter Try.func26, Try.ntmps26
  go_wp2
  all_goals
    go_ret
    exact ⟨by simp [knownB, *]; try omega, rfl⟩
set_option maxHeartbeats 400000 in
theorem rknown_any (c b : Int) (w : World) :
    Calls Try.prog 13 #[.int .i64 c, .int .i64 b] w fun e w' => e = .returned (.bool (knownB c b)) ∧ w = w' := by
  go_enter Try.func13, Try.ntmps13
  go_wp2
  all_goals
    go_ret
    exact ⟨by simp [knownB, *]; try omega, rfl⟩
set_option maxHeartbeats 400000 in
theorem blocks_any (c b : Int) (w : World) :
    Calls Try.prog 9 #[.int .i64 c, .int .i64 b] w fun e w' => e = .returned (.int .i64 (blocksZ c b)) ∧ w = w' := by
  by_cases hk : KnownZ c b
  · have hK : knownB c b = true := (knownB_iff c b).2 hk
    have hk' := hk
    unfold KnownZ at hk
    obtain ⟨C, rfl⟩ := Int.eq_ofNat_of_zero_le hk.1
    obtain ⟨B, rfl⟩ := Int.eq_ofNat_of_zero_le (show 0 ≤ b by omega)
    have hu := blocks_up C B (by omega)
    have hu2 : ((C : Int) + B - 1) / B = (blocksN C B : Nat) := by
      rw [← hu, show (C : Int) + B - 1 = ((C + B - 1 : Nat) : Int) by omega]; rfl
    have HU := hid hu2
    clear hu hu2
    have hz : blocksZ (C : Int) (B : Int) = (blocksN C B : Nat) := if_pos hk'
    have HZ := hid hz
    clear hz
    go_enter Try.func9, Try.ntmps9
    go_wp2_with fail
    refine (tknown_any _ _ _).mono ?_
    rintro e w1 ⟨rfl, rfl⟩
    go_wp2_with fail
    go_ret
    exact ⟨by rw [HZ.out]; exact ret_int HU.out, rfl⟩
  · have hK : knownB c b = false := by rw [← Bool.not_eq_true, knownB_iff]; exact hk
    go_enter Try.func9, Try.ntmps9
    go_wp2_with fail
    refine (tknown_any _ _ _).mono ?_
    rintro e w1 ⟨rfl, rfl⟩
    go_wp2_with fail
    go_ret
    exact ⟨by rw [blocksZ, if_neg hk]; rfl, rfl⟩
set_option maxHeartbeats 400000 in
theorem rblocks_any (c b : Int) (w : World) :
    Calls Try.prog 10 #[.int .i64 c, .int .i64 b] w fun e w' => e = .returned (.int .i64 (blocksZ c b)) ∧ w = w' := by
  by_cases hk : KnownZ c b
  · have hK : knownB c b = true := (knownB_iff c b).2 hk
    have hk' := hk
    unfold KnownZ at hk
    obtain ⟨C, rfl⟩ := Int.eq_ofNat_of_zero_le hk.1
    obtain ⟨B, rfl⟩ := Int.eq_ofNat_of_zero_le (show 0 ≤ b by omega)
    have hz : blocksZ (C : Int) (B : Int) = (blocksN C B : Nat) := if_pos hk'
    have HZ := hid hz
    clear hz
    have hq0 : 0 ≤ (C : Int) / B := Int.natCast_nonneg (C / B)
    have hq1 : (C : Int) / B ≤ C := by have := Nat.div_le_self C B; omega
    go_enter Try.func10, Try.ntmps10
    go_wp2_with fail
    refine (rknown_any _ _ _).mono ?_
    rintro e w1 ⟨rfl, rfl⟩
    go_wp2_with fail
    · have h : (0 : Int) < (C : Int) % B := by assumption
      go_ret
      exact ⟨by rw [HZ.out, blocksN, if_pos (by omega)]; exact ret_int (by simp), rfl⟩
    · have h : (C : Int) % B ≤ 0 := by assumption
      go_ret
      exact ⟨by rw [HZ.out, blocksN, if_neg (by omega)]; exact ret_int (by simp), rfl⟩
  · have hK : knownB c b = false := by rw [← Bool.not_eq_true, knownB_iff]; exact hk
    go_enter Try.func10, Try.ntmps10
    go_wp2_with fail
    refine (rknown_any _ _ _).mono ?_
    rintro e w1 ⟨rfl, rfl⟩
    go_wp2_with fail
    go_ret
    exact ⟨by rw [blocksZ, if_neg hk]; rfl, rfl⟩
end Go.Proofs.Ytllbemdeimgiiaa
