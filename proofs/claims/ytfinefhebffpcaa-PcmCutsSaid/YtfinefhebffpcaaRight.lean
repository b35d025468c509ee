/- Which format, and which info, may be. -/
import Derived.Test.YtfinefhebffpcaaKit
import Derived.Test.YtfinefhebffpcaaProg
import Derived.Deep.QuietTactic
import Derived.BigQuiet
namespace Go.Proofs.Ytfinefhebffpcaa
set_option linter.unusedVariables false
open Go.RowKit
def rightF (ch bi ra : Int) : Bool := decide ((1 ≤ ch ∧ ch ≤ 8) ∧ (8 ≤ bi ∧ bi ≤ 24) ∧ (1 ≤ ra ∧ ra ≤ 1048575))
set_option maxHeartbeats 400000 in
theorem pwithin_any (x lo hi : Int) (b : Bool) (w : World) (h : decide (lo ≤ x ∧ x ≤ hi) = b) :
    Calls Try.prog 31 #[.int .i64 x, .int .i64 lo, .int .i64 hi] w fun e w' => e = .returned (.bool b) ∧ w = w' := by
  subst h
  by_cases h1 : lo ≤ x
  · have d1 : decide (lo ≤ x) = true := by simpa using h1
    by_cases h2 : x ≤ hi
    · have d2 : decide (x ≤ hi) = true := by simpa using h2
      go_enter Try.func31, Try.ntmps31
      go_wp2_with fail
      go_ret
      exact ⟨ret_bool (by simp [h1, h2]), rfl⟩
    · have d2 : decide (x ≤ hi) = false := by simpa using h2
      go_enter Try.func31, Try.ntmps31
      go_wp2_with fail
      go_ret
      exact ⟨ret_bool (by simp), rfl⟩
  · have d1 : decide (lo ≤ x) = false := by simpa using h1
    go_enter Try.func31, Try.ntmps31
    go_wp2_with fail
    go_ret
    exact ⟨ret_bool (by simp), rfl⟩
set_option maxHeartbeats 1000000 in
theorem pright_any (ch bi ra : Int) (w : World) :
    Calls Try.prog 10 #[.agg #[.int .i64 ch, .int .i64 bi, .int .i64 ra]] w fun e w' => e = .returned (.bool (rightF ch bi ra)) ∧ Below w.heap.size w w' := by
  have hb : Below w.heap.size w (w.alloc (.cells #[.int .i64 ch, .int .i64 bi, .int .i64 ra] 23)) := (Below.refl _ w).alloc (Nat.le_refl _) _
  by_cases h1 : 1 ≤ ch ∧ ch ≤ 8
  · by_cases h2 : 8 ≤ bi ∧ bi ≤ 24
    · go_enter Try.func10, Try.ntmps10
      go_wp2_with fail
      refine (pwithin_any ch 1 8 true _ (by simpa using h1)).mono ?_
      rintro e w' ⟨rfl, rfl⟩
      go_wp2_with fail
      refine (pwithin_any bi 8 24 true _ (by simpa using h2)).mono ?_
      rintro e w' ⟨rfl, rfl⟩
      go_wp2_with fail
      refine (pwithin_any ra 1 1048575 _ _ rfl).mono ?_
      rintro e w' ⟨rfl, rfl⟩
      go_wp2_with fail
      go_ret
      exact ⟨ret_bool (by simp [rightF, h1, h2]), hb⟩
    · go_enter Try.func10, Try.ntmps10
      go_wp2_with fail
      refine (pwithin_any ch 1 8 true _ (by simpa using h1)).mono ?_
      rintro e w' ⟨rfl, rfl⟩
      go_wp2_with fail
      refine (pwithin_any bi 8 24 false _ (decide_eq_false h2)).mono ?_
      rintro e w' ⟨rfl, rfl⟩
      go_wp2_with fail
      go_ret
      exact ⟨ret_bool (decide_eq_false (by omega)).symm, hb⟩
  · go_enter Try.func10, Try.ntmps10
    go_wp2_with fail
    refine (pwithin_any ch 1 8 false _ (decide_eq_false h1)).mono ?_
    rintro e w' ⟨rfl, rfl⟩
    go_wp2_with fail
    go_ret
    exact ⟨ret_bool (decide_eq_false (by omega)).symm, hb⟩
set_option maxHeartbeats 2000000 in
theorem rpright_any (ch bi ra : Int) (w : World) :
    Calls Try.prog 11 #[.agg #[.int .i64 ch, .int .i64 bi, .int .i64 ra]] w fun e w' => e = .returned (.bool (rightF ch bi ra)) ∧ Below w.heap.size w w' := by
  have hb : Below w.heap.size w (w.alloc (.cells #[.int .i64 ch, .int .i64 bi, .int .i64 ra] 23)) := (Below.refl _ w).alloc (Nat.le_refl _) _
  by_cases h1 : ¬ 1 ≤ ch
  · have d1 : decide (1 ≤ ch) = false := by simpa using h1
    go_enter Try.func11, Try.ntmps11
    go_wp2_with fail
    go_ret
    exact ⟨ret_bool (decide_eq_false (by omega)).symm, hb⟩
  replace h1 := Decidable.not_not.1 h1
  have d1 : decide (1 ≤ ch) = true := by simpa using h1
  by_cases h2 : ¬ ch ≤ 8
  · have d2 : decide (ch ≤ 8) = false := by simpa using h2
    go_enter Try.func11, Try.ntmps11
    go_wp2_with fail
    go_ret
    exact ⟨ret_bool (decide_eq_false (by omega)).symm, hb⟩
  replace h2 := Decidable.not_not.1 h2
  have d2 : decide (ch ≤ 8) = true := by simpa using h2
  by_cases h3 : ¬ 8 ≤ bi
  · have d3 : decide (8 ≤ bi) = false := by simpa using h3
    go_enter Try.func11, Try.ntmps11
    go_wp2_with fail
    go_ret
    exact ⟨ret_bool (decide_eq_false (by omega)).symm, hb⟩
  replace h3 := Decidable.not_not.1 h3
  have d3 : decide (8 ≤ bi) = true := by simpa using h3
  by_cases h4 : ¬ bi ≤ 24
  · have d4 : decide (bi ≤ 24) = false := by simpa using h4
    go_enter Try.func11, Try.ntmps11
    go_wp2_with fail
    go_ret
    exact ⟨ret_bool (decide_eq_false (by omega)).symm, hb⟩
  replace h4 := Decidable.not_not.1 h4
  have d4 : decide (bi ≤ 24) = true := by simpa using h4
  by_cases h5 : ¬ 1 ≤ ra
  · have d5 : decide (1 ≤ ra) = false := by simpa using h5
    go_enter Try.func11, Try.ntmps11
    go_wp2_with fail
    go_ret
    exact ⟨ret_bool (decide_eq_false (by omega)).symm, hb⟩
  replace h5 := Decidable.not_not.1 h5
  have d5 : decide (1 ≤ ra) = true := by simpa using h5
  by_cases h6 : ra ≤ 1048575
  · have d6 : decide (ra ≤ 1048575) = true := by simpa using h6
    go_enter Try.func11, Try.ntmps11
    go_wp2_with fail
    go_ret
    exact ⟨ret_bool (decide_eq_true ⟨⟨h1, h2⟩, ⟨h3, h4⟩, h5, h6⟩).symm, hb⟩
  · have d6 : decide (ra ≤ 1048575) = false := by simpa using h6
    go_enter Try.func11, Try.ntmps11
    go_wp2_with fail
    go_ret
    exact ⟨ret_bool (decide_eq_false (by omega)).symm, hb⟩
end Go.Proofs.Ytfinefhebffpcaa
