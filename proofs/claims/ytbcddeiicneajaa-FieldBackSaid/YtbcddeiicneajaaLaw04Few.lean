/- Are calls few, and short? -/
import Derived.Test.YtbcddeiicneajaaLaw04Do
import Derived.Test.YtbcddeiicneajaaActs
namespace Go.Proofs.Ytbcddeiicneajaa
set_option linter.unusedVariables false
open Go.RowKit
/-- what few says when it lets calls through -/
def FewPost (w : World) (l : List Deed) (e : Ending) (w' : World) : Prop := ∃ b, e = .returned (.bool b) ∧ w = w' ∧ (b = true → l.length ≤ 50 ∧ ∀ x ∈ l, x.s.size ≤ 300)
set_option maxHeartbeats 1000000 in
theorem few_any (A : Option Addr) (c : Nat) (l : List Deed) (w : World) (hl : SeesA w A l) (hc : l.length ≤ c ∧ c ≤ maxLen) :
    Calls Try.prog 8 #[.slice A l.length c] w (FewPost w l) := by
  go_enter Try.func8, Try.ntmps8
  go_wp2_with fail
  go_loop [3] (fun i => ∃ k : Nat, k ≤ l.length ∧ k ≤ 60 ∧ i = .int .i64 k ∧ ∀ x ∈ l.take k, x.s.size ≤ 300) (fun i => l.length - (intOf i).toNat)
  case atStart => exact ⟨0, by omega, by omega, rfl, by simp⟩
  case round =>
    obtain ⟨k, hk, hk60, rfl, hall⟩ := hrel
    by_cases hlt : k < l.length
    · have d1 : decide (k < l.length) = true := by simpa using hlt
      by_cases hlt6 : k < 60
      · have d2 : decide ((k : Int) < 60) = true := by simp; omega
        obtain ⟨a, rfl, _, _, _, h3⟩ := hl.at hlt
        by_cases hs : 300 < l[k].s.size
        · have d3 : decide (300 < (l[k].s.size : Int)) = true := by simp; omega
          go_wp2_with fail
          go_ret
          exact ⟨false, rfl, rfl, fun h => by cases h⟩
        · have d3 : decide (300 < (l[k].s.size : Int)) = false := by simp; omega
          go_wp2_with fail
          refine ⟨⟨k + 1, hlt, hlt6, by go_num, fun x hx => ?_⟩, by simp [intOf]; omega⟩
          rw [List.take_succ_eq_append_getElem hlt, List.mem_append] at hx
          rcases hx with h | h
          · exact hall x h
          · rw [List.mem_singleton.1 h]; omega
      · have d2 : decide ((k : Int) < 60) = false := by simp; omega
        have d4 : decide ((l.length : Int) ≤ 50) = false := by simp; omega
        go_wp2_with fail
        go_ret
        exact ⟨_, rfl, rfl, fun h => by cases h⟩
    · obtain rfl : k = l.length := by omega
      have d1 : decide (l.length < l.length) = false := by simp
      rw [List.take_length] at hall
      by_cases h5 : l.length ≤ 50
      · have d4 : decide ((l.length : Int) ≤ 50) = true := by simp; omega
        go_wp2_with fail
        go_ret
        exact ⟨_, rfl, rfl, fun h => ⟨h5, hall⟩⟩
      · have d4 : decide ((l.length : Int) ≤ 50) = false := by simp; omega
        go_wp2_with fail
        go_ret
        exact ⟨_, rfl, rfl, fun h => by cases h⟩
end Go.Proofs.Ytbcddeiicneajaa
