/- Which files may belong together. -/
import Derived.Test.YtafjjkcfndaclaaInfoRight
import Derived.Laws.StructEq
import Derived.WalkSpells
import Derived.WalkLawsBesides
namespace Go.Proofs.Ytafjjkcfndaclaa
set_option linter.unusedVariables false
open Go.RowKit
def sameF (ch bi ra ch' bi' ra' : Int) : Bool := (ch == ch') && ((bi == bi') && (ra == ra'))
def sameI (k ch bi ra bl sh k' ch' bi' ra' bl' sh' : Int) : Bool := (k == k') && (sameF ch bi ra ch' bi' ra' && ((bl == bl') && (sh == sh')))
theorem eq_format (d : Nat) (ch bi ra ch' bi' ra' : Int) (w : World) :
    (Op.equalIn (d + 1 + 1) 23 (.agg #[.int .i64 ch, .int .i64 bi, .int .i64 ra]) (.agg #[.int .i64 ch', .int .i64 bi', .int .i64 ra'])).run Try.prog w = .ok (sameF ch bi ra ch' bi' ra') w := by
  have u3 := Try.underlying3
  have a3 := Try.isAgg3
  have z3 := Try.sizeOf3
  have hS : Try.prog.underlying 23 = some (.struct (Try.prog.fieldsOf 23)) := by kernel_rfl
  have hp : Try.prog.stoodInHeld 23 = false := by kernel_rfl
  rw [run_equalIn_agg w (d + 1) 23 _ _ hS hp]
  simp only [Program.fieldsOf, Try.underlying23]
  go_simp
  unfold sameF
  by_cases h1 : ch = ch' <;> by_cases h2 : bi = bi' <;> by_cases h3 : ra = ra' <;> simp [h1, h2, h3]
theorem eq_info (k ch bi ra bl sh k' ch' bi' ra' bl' sh' : Int) (w : World) :
    (Op.equalIn 10000 25 (.agg #[.int .i64 k, .int .i64 ch, .int .i64 bi, .int .i64 ra, .int .i64 bl, .int .i64 sh]) (.agg #[.int .i64 k', .int .i64 ch', .int .i64 bi', .int .i64 ra', .int .i64 bl', .int .i64 sh'])).run Try.prog w = .ok (sameI k ch bi ra bl sh k' ch' bi' ra' bl' sh') w := by
  have u3 := Try.underlying3
  have a3 := Try.isAgg3
  have z3 := Try.sizeOf3
  have a4 := Try.isAgg23
  have z4 := Try.sizeOf23
  have hS : Try.prog.underlying 25 = some (.struct (Try.prog.fieldsOf 25)) := by kernel_rfl
  have hp : Try.prog.stoodInHeld 25 = false := by kernel_rfl
  rw [show (10000 : Nat) = 9999 + 1 from rfl, run_equalIn_agg w 9999 25 _ _ hS hp]
  simp only [Program.fieldsOf, Try.underlying25]
  go_simp
  unfold sameI sameF
  by_cases h1 : k = k' <;> by_cases h2 : bl = bl' <;> by_cases h3 : sh = sh' <;> by_cases h4 : ch = ch' <;> by_cases h5 : bi = bi' <;> by_cases h6 : ra = ra' <;> simp [h1, h2, h3, h4, h5, h6]
def matesB (k ch bi ra bl sh k' ch' bi' ra' bl' sh' : Int) : Bool := (k == 1) && ((k' == 2) && (sameF ch bi ra ch' bi' ra' && ((bl == bl') && (sh == sh'))))
set_option maxHeartbeats 2000000 in
theorem mates_any (k ch bi ra bl sh k' ch' bi' ra' bl' sh' : Int) (w : World) :
    Calls Try.prog 15 #[.agg #[.int .i64 k, .int .i64 ch, .int .i64 bi, .int .i64 ra, .int .i64 bl, .int .i64 sh], .agg #[.int .i64 k', .int .i64 ch', .int .i64 bi', .int .i64 ra', .int .i64 bl', .int .i64 sh']] w fun e w' => e = .returned (.bool (matesB k ch bi ra bl sh k' ch' bi' ra' bl' sh')) ∧ Below w.heap.size w w' := by
  have hb : Below w.heap.size w ((w.alloc (.cells #[.int .i64 k, .int .i64 ch, .int .i64 bi, .int .i64 ra, .int .i64 bl, .int .i64 sh] 25)).alloc (.cells #[.int .i64 k', .int .i64 ch', .int .i64 bi', .int .i64 ra', .int .i64 bl', .int .i64 sh'] 25)) := ((Below.refl _ w).alloc (Nat.le_refl _) _).alloc (by simp) _
  by_cases h1 : k = 1
  · have d1 : (k != 1) = false := by simpa using h1
    have e1 : (k == 1) = true := by simpa using h1
    by_cases h2 : k' = 2
    · have d2 : (k' != 2) = false := by simpa using h2
      have e2 : (k' == 2) = true := by simpa using h2
      clear h1 h2
      have hq := fun W => eq_info k' ch bi ra bl sh k' ch' bi' ra' bl' sh' W
      rw [show sameI k' ch bi ra bl sh k' ch' bi' ra' bl' sh' = matesB k ch bi ra bl sh k' ch' bi' ra' bl' sh' by unfold sameI matesB; rw [e1, e2]; simp] at hq
      go_enter Try.func15, Try.ntmps15
      go_wp2_with fail
      go_ret
      exact ⟨rfl, ((Below.refl _ w).alloc (Nat.le_refl _) _).alloc (by simp) _⟩
    · have d2 : (k' != 2) = true := by simpa using h2
      have e2 : (k' == 2) = false := by simpa using h2
      clear h1 h2
      go_enter Try.func15, Try.ntmps15
      go_wp2_with fail
      go_ret
      exact ⟨ret_bool (by unfold matesB; rw [e2]; simp), hb⟩
  · have d1 : (k != 1) = true := by simpa using h1
    have e1 : (k == 1) = false := by simpa using h1
    clear h1
    go_enter Try.func15, Try.ntmps15
    go_wp2_with fail
    go_ret
    exact ⟨ret_bool (by unfold matesB; rw [e1]; simp), hb⟩
set_option maxHeartbeats 2000000 in
theorem rmates_any (k ch bi ra bl sh k' ch' bi' ra' bl' sh' : Int) (w : World) :
    Calls Try.prog 16 #[.agg #[.int .i64 k, .int .i64 ch, .int .i64 bi, .int .i64 ra, .int .i64 bl, .int .i64 sh], .agg #[.int .i64 k', .int .i64 ch', .int .i64 bi', .int .i64 ra', .int .i64 bl', .int .i64 sh']] w fun e w' => e = .returned (.bool (matesB k ch bi ra bl sh k' ch' bi' ra' bl' sh')) ∧ Below w.heap.size w w' := by
  have hb : Below w.heap.size w ((w.alloc (.cells #[.int .i64 k, .int .i64 ch, .int .i64 bi, .int .i64 ra, .int .i64 bl, .int .i64 sh] 25)).alloc (.cells #[.int .i64 k', .int .i64 ch', .int .i64 bi', .int .i64 ra', .int .i64 bl', .int .i64 sh'] 25)) := ((Below.refl _ w).alloc (Nat.le_refl _) _).alloc (by simp) _
  have hq := fun W => eq_format 9998 ch bi ra ch' bi' ra' W
  cases e1 : (k == 1) with
  | false =>
    go_enter Try.func16, Try.ntmps16
    go_wp2_with fail
    go_ret
    exact ⟨ret_bool (by unfold matesB; simp [e1]), hb⟩
  | true =>
  cases e2 : (k' == 2) with
  | false =>
    go_enter Try.func16, Try.ntmps16
    go_wp2_with fail
    go_ret
    exact ⟨ret_bool (by unfold matesB; simp [e2]), hb⟩
  | true =>
  cases e3 : sameF ch bi ra ch' bi' ra' with
  | false =>
    rw [e3] at hq
    go_enter Try.func16, Try.ntmps16
    go_wp2_with fail
    go_ret
    exact ⟨ret_bool (by unfold matesB; simp [e3]), hb⟩
  | true =>
  rw [e3] at hq
  cases e4 : (bl == bl') with
  | false =>
    go_enter Try.func16, Try.ntmps16
    go_wp2_with fail
    go_ret
    exact ⟨ret_bool (by unfold matesB; simp [e4]), hb⟩
  | true =>
  cases e5 : (sh == sh') with
  | false =>
    go_enter Try.func16, Try.ntmps16
    go_wp2_with fail
    go_ret
    exact ⟨ret_bool (by unfold matesB; simp [e5]), hb⟩
  | true =>
    go_enter Try.func16, Try.ntmps16
    go_wp2_with fail
    go_ret
    exact ⟨ret_bool (by unfold matesB; simp [e1, e2, e3, e4, e5]), hb⟩
end Go.Proofs.Ytafjjkcfndaclaa
