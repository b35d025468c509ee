/- Slices of whole numbers compared. -/
import Derived.Test.YtfinefhebffpcaaInts
import Derived.Deep.QuietTactic
import Derived.BigQuiet
namespace Go.Proofs.Ytfinefhebffpcaa
set_option linter.unusedVariables false
open Go.RowKit
theorem drewBelow {B : Nat} {w0 w : World} (h : Below B w0 w) (n : Nat) : Below B w0 (w.drewN n) := ⟨h.os, h.tape, h.output, h.size, h.block⟩
set_option maxHeartbeats 1000000 in
theorem equalI_any (A B : Option Addr) (c d : Nat) (l m : List Int) (w : World) (hl : SeesI w A l) (hm : SeesI w B m) (h1 : l.length ≤ maxLen) (h2 : m.length ≤ maxLen) :
    Calls Try.prog 43 #[.slice A l.length c, .slice B m.length d] w fun e w' => e = .returned (.bool (decide (l = m))) ∧ Below w.heap.size w w' := by
  unfold maxLen at h1 h2
  by_cases hlen : l.length = m.length
  · have d1 : ((l.length : Int) != m.length) = false := by simp [hlen]
    have HLEN := hid hlen
    clear hlen
    go_enter Try.func43, Try.ntmps43
    go_wp2_with fail
    go_loopw [5, 13] (fun x i wr => ∃ k : Nat, k ≤ l.length ∧ i = .int .i64 k ∧ l.take k = m.take k ∧ Below w.heap.size w wr) (fun x i _ => l.length - (intOf i).toNat)
    case atStart => exact ⟨0, by omega, rfl, by simp, Below.refl _ _⟩
    case round =>
      obtain ⟨k, hk, rfl, he, hbw⟩ := hrel
      have HE := hid he
      clear he
      by_cases hlt : k < l.length
      · have hd : decide (k < l.length) = true := by simpa using hlt
        have hltm : k < m.length := by rw [← HLEN.out]; exact hlt
        have f1 : (k : Int) < m.length := by omega
        obtain ⟨a, rfl, ca⟩ := (hl.below hbw).at hlt
        obtain ⟨b, rfl, cb⟩ := (hm.below hbw).at hltm
        have f2 : (k : Int) < l.length := by omega
        by_cases heq : l[k] = m[k]
        · have d2 : (l[k] != m[k]) = false := by rw [heq]; simp
          have HEQ := hid heq
          clear heq
          go_wp2_with fail
          go_quiet (fail)
          go_wp2_with fail
          refine ⟨⟨k + 1, hlt, by go_num, by rw [List.take_succ_eq_append_getElem hlt, List.take_succ_eq_append_getElem hltm, HE.out, HEQ.out], drewBelow hbw _⟩, by simp [intOf]; omega⟩
        · have d2 : (l[k] != m[k]) = true := by simpa using heq
          have hne : decide (l = m) = false := by
            simp only [decide_eq_false_iff_not]
            rintro rfl
            exact heq rfl
          have HNE := hid hne
          clear heq hne
          go_wp2_with fail
          go_quiet (fail)
          go_wp2_with fail
          go_ret
          exact ⟨ret_bool HNE.out.symm, drewBelow hbw _⟩
      · obtain rfl : k = l.length := by omega
        have hd : decide (l.length < l.length) = false := by simp
        have : l = m := by
          have he := HE.out
          rw [List.take_length] at he
          rw [he, HLEN.out, List.take_length]
        have HT := hid this
        clear this
        go_wp2_with fail
        go_ret
        exact ⟨ret_bool (decide_eq_true HT.out).symm, hbw⟩
  · have d1 : ((l.length : Int) != m.length) = true := by simp; omega
    have hne : decide (l = m) = false := by
      simp only [decide_eq_false_iff_not]
      rintro rfl
      exact hlen rfl
    have HNE := hid hne
    clear hlen hne
    go_enter Try.func43, Try.ntmps43
    go_wp2_with fail
    go_ret
    exact ⟨ret_bool HNE.out.symm, Below.refl _ _⟩
set_option maxHeartbeats 1000000 in
theorem rints_any (A B : Option Addr) (c d : Nat) (l m : List Int) (w : World) (hl : SeesI w A l) (hm : SeesI w B m) (h1 : l.length ≤ maxLen) (h2 : m.length ≤ maxLen) :
    Calls Try.prog 20 #[.slice A l.length c, .slice B m.length d] w fun e w' => e = .returned (.bool (decide (l = m))) ∧ Below w.heap.size w w' := by
  unfold maxLen at h1 h2
  by_cases hlen : l.length = m.length
  · have d1 : ((l.length : Int) != m.length) = false := by simp [hlen]
    have HLEN := hid hlen
    clear hlen
    go_enter Try.func20, Try.ntmps20
    go_wp2_with fail
    go_loopw [5] (fun i wr => ∃ k : Nat, k ≤ l.length ∧ i = .int .i64 k ∧ l.take k = m.take k ∧ Below w.heap.size w wr) (fun i _ => l.length - (intOf i).toNat)
    case atStart => exact ⟨0, by omega, rfl, by simp, Below.refl _ _⟩
    case round =>
      obtain ⟨k, hk, rfl, he, hbw⟩ := hrel
      have HE := hid he
      clear he
      by_cases hlt : k < l.length
      · have hd : decide (k < l.length) = true := by simpa using hlt
        have hltm : k < m.length := by rw [← HLEN.out]; exact hlt
        have f1 : (k : Int) < m.length := by omega
        obtain ⟨a, rfl, ca⟩ := (hl.below hbw).at hlt
        obtain ⟨b, rfl, cb⟩ := (hm.below hbw).at hltm
        have f2 : (k : Int) < l.length := by omega
        by_cases heq : l[k] = m[k]
        · have d2 : (l[k] != m[k]) = false := by rw [heq]; simp
          have HEQ := hid heq
          clear heq
          go_wp2_with fail
          go_quiet (fail)
          go_wp2_with fail
          refine ⟨⟨k + 1, hlt, by go_num, by rw [List.take_succ_eq_append_getElem hlt, List.take_succ_eq_append_getElem hltm, HE.out, HEQ.out], drewBelow hbw _⟩, by simp [intOf]; omega⟩
        · have d2 : (l[k] != m[k]) = true := by simpa using heq
          have hne : decide (l = m) = false := by
            simp only [decide_eq_false_iff_not]
            rintro rfl
            exact heq rfl
          have HNE := hid hne
          clear heq hne
          go_wp2_with fail
          go_quiet (fail)
          go_wp2_with fail
          go_ret
          exact ⟨ret_bool HNE.out.symm, drewBelow hbw _⟩
      · obtain rfl : k = l.length := by omega
        have hd : decide (l.length < l.length) = false := by simp
        have : l = m := by
          have he := HE.out
          rw [List.take_length] at he
          rw [he, HLEN.out, List.take_length]
        have HT := hid this
        clear this
        go_wp2_with fail
        go_ret
        exact ⟨ret_bool (decide_eq_true HT.out).symm, hbw⟩
  · have d1 : ((l.length : Int) != m.length) = true := by simp; omega
    have hne : decide (l = m) = false := by
      simp only [decide_eq_false_iff_not]
      rintro rfl
      exact hlen rfl
    have HNE := hid hne
    clear hlen hne
    go_enter Try.func20, Try.ntmps20
    go_wp2_with fail
    go_ret
    exact ⟨ret_bool HNE.out.symm, Below.refl _ _⟩
end Go.Proofs.Ytfinefhebffpcaa
