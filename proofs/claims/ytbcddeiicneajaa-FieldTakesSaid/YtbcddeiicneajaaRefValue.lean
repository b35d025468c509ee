/- The reference's value of a field's bytes. -/
import Derived.Test.YtbcddeiicneajaaTaker2
namespace Go.Proofs.Ytbcddeiicneajaa
set_option linter.unusedVariables false
open Go.RowKit
theorem valLE_cons (b : UInt8) (l : List UInt8) : valLE (b :: l) = b.toNat + 256 * valLE l := rfl
theorem valLE_drop (l : List UInt8) (k : Nat) (h : k < l.length) : valLE (l.drop k) = l[k].toNat + 256 * valLE (l.drop (k + 1)) := by
  rw [List.drop_eq_getElem_cons h, valLE_cons]
set_option maxHeartbeats 1000000 in
theorem rvalue_any (A : Option Addr) (c : Nat) (l : List UInt8) (w : World) (hl : SeesB w A l) (hlen : l.length ≤ 8) :
    Calls Try.prog 39 #[.slice A l.length c] w fun e w' => e = .returned (.int .u64 (valLE l : Nat)) ∧ w = w' := by
  go_enter Try.func39, Try.ntmps39
  go_wp2_with fail
  go_loop [3, 4] (fun v i => ∃ k : Nat, k ≤ l.length ∧ i = .int .i64 ((k : Int) - 1) ∧ v = .int .u64 (valLE (l.drop k) : Nat)) (fun _ i => (intOf i + 1).toNat)
  case atStart => exact ⟨l.length, Nat.le_refl _, by simp; try omega, by simp [valLE]⟩
  case round =>
    obtain ⟨k, hk, rfl, rfl⟩ := hrel
    by_cases h0 : k = 0
    · subst h0
      rw [List.drop_zero, show ((0 : Nat) : Int) - 1 = -1 from rfl]
      go_wp2_with fail
      go_ret
      exact ⟨rfl, rfl⟩
    · obtain ⟨j, hj⟩ : ∃ j, k = j + 1 := ⟨k - 1, by omega⟩
      subst hj
      have hjl : j < l.length := by omega
      obtain ⟨a, rfl, hc⟩ := hl.at hjl
      have hbl := byte_lt l[j]
      have hb0 : 0 ≤ (l[j].toNat : Int) := by omega
      have hvl := valLE_lt (l.drop (j + 1))
      have hdl : (l.drop (j + 1)).length ≤ 7 := by simp; omega
      have hp := Nat.pow_le_pow_right (show 0 < 256 by omega) hdl
      have HV := hid (valLE_drop l j hjl)
      generalize valLE (l.drop (j + 1)) = V at *
      have hV : V < 72057594037927936 := by omega
      have e1 : ((j + 1 : Nat) : Int) - 1 = (j : Int) := by omega
      rw [e1]
      have hd : decide (0 ≤ (j : Int)) = true := by simp
      clear hvl hp e1 h0
      go_wp2_with fail
      refine ⟨⟨j, by omega, rfl, ?_⟩, ?_⟩
      · rw [HV.out, show ((l[j].toNat + 256 * V : Nat) : Int) = 256 * (V : Int) + l[j].toNat by omega]
      · show ((j : Int) - 1 + 1).toNat < ((j : Int) + 1).toNat
        omega
end Go.Proofs.Ytbcddeiicneajaa
