/- Are tags few, and short? -/
import Derived.Test.YtlcbfikmljmlpaaDoorTagsSees
namespace Go.Proofs.YtlcbfikmljmlpaaDoor
set_option linter.unusedVariables false
open Go.RowKit
/-- what Few says when it lets tags through -/
def FewT (w : World) (l : List TagV) (e : Ending) (w' : World) : Prop := ∃ b, e = .returned (.bool b) ∧ w = w' ∧ (b = true → l.length ≤ 70 ∧ ∀ x ∈ l, x.k.size ≤ 100 ∧ x.v.size ≤ 1500)
set_option maxHeartbeats 1000000 in
theorem fewT_any (A : Option Addr) (c : Nat) (l : List TagV) (w : World) (hl : SeesT w A l) (hc : l.length ≤ c ∧ c ≤ maxLen) :
    Calls Tryd.prog 9 #[.slice A l.length c] w (FewT w l) := by
  unfold maxLen at hc
  go_enter Tryd.func9, Tryd.ntmps9
  go_wp2_with fail
  go_loop [3] (fun i => ∃ k : Nat, k ≤ l.length ∧ k ≤ 100 ∧ i = .int .i64 k ∧ ∀ x ∈ l.take k, x.k.size ≤ 100 ∧ x.v.size ≤ 1500) (fun i => l.length - (intOf i).toNat)
  case atStart => exact ⟨0, by omega, by omega, rfl, by simp⟩
  case round =>
    obtain ⟨k, hk, hk60, rfl, hall⟩ := hrel
    by_cases hlt : k < l.length
    · have d1 : decide ((k : Int) < (l.length : Int)) = true := decide_eq_true (by omega)
      have dkl : (k : Int) < (l.length : Int) := by omega
      by_cases hlt6 : k < 100
      · have d2 : decide ((k : Int) < 100) = true := decide_eq_true (by omega)
        obtain ⟨a, rfl, x1, x2⟩ := hl.at hlt
        by_cases hs : 100 < l[k].k.size
        · have d3 : decide (100 < (l[k].k.size : Int)) = true := decide_eq_true (by omega)
          clear hall
          go_wp2_with fail
          go_ret
          exact ⟨false, rfl, rfl, fun h => by cases h⟩
        · have d3 : decide (100 < (l[k].k.size : Int)) = false := decide_eq_false (by omega)
          by_cases hv : 1500 < l[k].v.size
          · have d4 : decide (1500 < (l[k].v.size : Int)) = true := decide_eq_true (by omega)
            clear hall
            go_wp2_with fail
            go_ret
            exact ⟨false, rfl, rfl, fun h => by cases h⟩
          · have d4 : decide (1500 < (l[k].v.size : Int)) = false := decide_eq_false (by omega)
            go_wp2_with fail
            refine ⟨⟨k + 1, hlt, hlt6, by go_num, fun x hx => ?_⟩, by simp [intOf]; omega⟩
            rw [List.take_succ_eq_append_getElem hlt, List.mem_append] at hx
            rcases hx with h | h
            · exact hall x h
            · rw [List.mem_singleton.1 h]; omega
      · have d2 : decide ((k : Int) < 100) = false := decide_eq_false (by omega)
        have d4 : decide ((l.length : Int) ≤ 70) = false := decide_eq_false (by omega)
        go_wp2_with fail
        go_ret
        exact ⟨_, rfl, rfl, fun h => by cases h⟩
    · obtain rfl : k = l.length := by omega
      have d1 : decide ((l.length : Int) < (l.length : Int)) = false := decide_eq_false (by omega)
      rw [List.take_length] at hall
      by_cases h5 : l.length ≤ 70
      · have d4 : decide ((l.length : Int) ≤ 70) = true := decide_eq_true (by omega)
        go_wp2_with fail
        go_ret
        exact ⟨_, rfl, rfl, fun h => ⟨h5, hall⟩⟩
      · have d4 : decide ((l.length : Int) ≤ 70) = false := decide_eq_false (by omega)
        go_wp2_with fail
        go_ret
        exact ⟨_, rfl, rfl, fun h => by cases h⟩
end Go.Proofs.YtlcbfikmljmlpaaDoor
