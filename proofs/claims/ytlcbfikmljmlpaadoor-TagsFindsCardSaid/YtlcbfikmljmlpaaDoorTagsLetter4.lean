/- The reference's Letter: four bytes. -/
import Derived.Test.YtlcbfikmljmlpaaDoorTagsLetter
namespace Go.Proofs.YtlcbfikmljmlpaaDoor
set_option linter.unusedVariables false
open Go.RowKit
def v4 (s : ByteArray) (p : Nat) : Nat → Nat
  | 0 => byL s p % 8
  | k + 1 => v4 s p k * 64 + byL s (p + (k + 1)) % 64
theorem v4_lt (s : ByteArray) (p : Nat) : ∀ k, v4 s p k < 8 * 64 ^ k
  | 0 => by unfold v4; omega
  | k + 1 => by
    have := v4_lt s p k
    unfold v4
    rw [Nat.pow_succ]
    omega
theorem v4_b (s : ByteArray) (p k : Nat) (h : k ≤ 3) : v4 s p k < 2097152 := by
  have := v4_lt s p k
  have h2 : 64 ^ k ≤ 64 ^ 3 := Nat.pow_le_pow_right (by omega) h
  omega
theorem v4_3 (s : ByteArray) (p : Nat) : v4 s p 3 = r4 s p := by
  unfold r4
  have e : v4 s p 3 = ((byL s p % 8 * 64 + byL s (p + 1) % 64) * 64 + byL s (p + 2) % 64) * 64 + byL s (p + 3) % 64 := rfl
  rw [e]; omega
theorem conL_no (s : ByteArray) (p : Nat) (h : s.size ≤ p ∨ byL s p < 128 ∨ 191 < byL s p) : conL s p = false := by
  unfold conL
  rw [Bool.eq_false_iff]
  intro g
  simp only [Bool.and_eq_true, decide_eq_true_eq, beq_iff_eq] at g
  omega
theorem conL_yes (s : ByteArray) (p : Nat) (h : p < s.size) (h1 : ¬ byL s p < 128) (h2 : ¬ 191 < byL s p) : conL s p = true := by
  unfold conL
  simp only [Bool.and_eq_true, decide_eq_true_eq, beq_iff_eq]
  omega
set_option maxRecDepth 20000 in
set_option maxHeartbeats 4000000 in
theorem letter_4 (s : ByteArray) (p : Nat) (w : World) (hp : p < s.size) (hs : s.size ≤ 140737488355328) (hc : 240 ≤ byL s p ∧ byL s p < 245) :
    Calls Tryd.prog 63 #[.string s, .int .i64 p] w fun e w' => e = .returned (.tuple #[.int .i64 (((letL s p).1 : Nat) : Int), .int .i64 (((letL s p).2 : Nat) : Int)]) ∧ w = w' := by
  obtain ⟨L, hL⟩ : ∃ L, L = letL s p := ⟨_, rfl⟩
  rw [← hL]
  have HNO := hid (show ∀ k, 1 ≤ k → k ≤ 3 → conL s (p + k) = false → L = (0, 0) from fun k h1 h2 h => by
    rw [hL]
    refine letL_no4 s p hc ?_
    have hk : k = 1 ∨ k = 2 ∨ k = 3 := by omega
    rcases hk with rfl | rfl | rfl
    · exact .inl h
    · exact .inr (.inl h)
    · exact .inr (.inr h))
  have HOK := hid (show (∀ j, 1 ≤ j → j < 4 → conL s (p + j) = true) → L = if (decide (65536 ≤ v4 s p 3) && okR (v4 s p 3)) = true then (4, v4 s p 3) else (0, 0) from fun h => by
    rw [hL, v4_3]; exact letL_ok4 s p hc ⟨h 1 (by omega) (by omega), h 2 (by omega) (by omega), h 3 (by omega) (by omega)⟩)
  clear hL
  have i0 : (s[p]'hp).toNat = byL s p := (byL_at s p hp).symm
  have hv0 : v4 s p 0 = byL s p - 240 := by show byL s p % 8 = _; omega
  have HV0 := hid hv0
  clear hv0
  generalize byL s p = x at *
  have hx8 : (x : Int) < 256 := by omega
  have zx : wrap64 (x : Int) = (x : Int) := by unfold wrap64; omega
  have d0 : decide ((x : Int) < 128) = false := decide_eq_false (by omega)
  have dl2 : decide (194 ≤ (x : Int)) = true := decide_eq_true (by omega)
  have dh2 : decide ((x : Int) < 224) = false := decide_eq_false (by omega)
  have dl3 : decide (224 ≤ (x : Int)) = true := decide_eq_true (by omega)
  have dh3 : decide ((x : Int) < 240) = false := decide_eq_false (by omega)
  have dl4 : decide (240 ≤ (x : Int)) = true := decide_eq_true (by omega)
  have dh4 : decide ((x : Int) < 245) = true := decide_eq_true (by omega)
  go_enter Tryd.func63, Tryd.ntmps63
  go_wp2_with fail
  clear dl2 dh2 dl3 dh3 dl4 dh4 d0 i0
  go_loop [8, 10] (fun xv kv => ∃ k X : Nat, 1 ≤ k ∧ k ≤ 4 ∧ kv = .int .i64 (k : Int) ∧ xv = .int .i64 (X : Int) ∧ X < 2097152 ∧ Hid (X = v4 s p (k - 1) ∧ ∀ j, 1 ≤ j → j < k → conL s (p + j) = true)) (fun _ kv => 4 - (intOf kv).toNat)
  case atStart => exact ⟨1, x - 240, by omega, by omega, rfl, by go_num, by omega, hid ⟨HV0.out.symm, fun j h1 h2 => absurd h2 (by omega)⟩⟩
  case round =>
    obtain ⟨k, X, hk1, hk2, rfl, rfl, hX, hP⟩ := hrel
    by_cases hk4 : k < 4
    · have dk : decide ((k : Int) < 4) = true := decide_eq_true (by omega)
      by_cases hsz : p + k < s.size
      · have dz : decide ((s.size : Int) ≤ (p : Int) + (k : Int)) = false := decide_eq_false (by omega)
        have ii : (s[p + k]'hsz).toNat = byL s (p + k) := (byL_at s (p + k) hsz).symm
        have HY := hid (conL_yes s (p + k) hsz)
        have HN := hid (conL_no s (p + k))
        have hy8 := byL_lt s (p + k)
        have HV := hid (show v4 s p k = v4 s p (k - 1) * 64 + byL s (p + k) % 64 by
          obtain ⟨m, rfl⟩ : ∃ m, k = m + 1 := ⟨k - 1, by omega⟩
          rfl)
        have HVb := v4_b s p k (by omega)
        generalize byL s (p + k) = y at *
        by_cases hlo : y < 128
        · have dlo : decide ((y : Int) < 128) = true := decide_eq_true (by omega)
          obtain rfl : L = (0, 0) := HNO.out k hk1 (by omega) (HN.out (.inr (.inl hlo)))
          clear HNO HOK HV HY HN hP
          go_wp2_with fail
          go_ret2
          exact ⟨rfl, rfl⟩
        have dlo : decide ((y : Int) < 128) = false := decide_eq_false (by omega)
        by_cases hhi : 191 < y
        · have dhi : decide (191 < (y : Int)) = true := decide_eq_true (by omega)
          obtain rfl : L = (0, 0) := HNO.out k hk1 (by omega) (HN.out (.inr (.inr hhi)))
          clear HNO HOK HV HY HN hP
          go_wp2_with fail
          go_ret2
          exact ⟨rfl, rfl⟩
        have dhi : decide (191 < (y : Int)) = false := decide_eq_false (by omega)
        have zy : wrap64 (y : Int) = (y : Int) := by unfold wrap64; omega
        have HV2 := hid (show v4 s p k = 64 * X + y - 128 by rw [HV.out, hP.out.1]; omega)
        generalize hV : v4 s p k = V at *
        have HV3 := hid hV
        clear hV
        go_wp2_with fail
        go_round
        case rel => exact ⟨k + 1, V, by omega, by omega, by go_num, by have := HV2.out; go_num, HVb, hid ⟨HV3.out.symm, fun j h1 h2 => by
          by_cases hj : j = k
          · rw [hj]; exact HY.out hlo hhi
          · exact hP.out.2 j h1 (by omega)⟩⟩
        case measure => simp [intOf]; omega
      · have dz : decide ((s.size : Int) ≤ (p : Int) + (k : Int)) = true := decide_eq_true (by omega)
        obtain rfl : L = (0, 0) := HNO.out k hk1 (by omega) (conL_no s (p + k) (.inl (by omega)))
        clear HNO HOK hP
        go_wp2_with fail
        go_ret2
        exact ⟨rfl, rfl⟩
    · obtain rfl : k = 4 := by omega
      have hL2 := HOK.out hP.out.2
      have hX3 : X = v4 s p 3 := hP.out.1
      rw [← hX3] at hL2
      clear hX3 HNO HOK hP HV0
      by_cases t0 : X < 65536
      · have e0 : decide ((X : Int) < 65536) = true := decide_eq_true (by omega)
        obtain rfl : L = (0, 0) := by rw [hL2, if_neg (by unfold okR; simp; omega)]
        clear hL2
        go_wp2_with fail
        go_ret2
        exact ⟨rfl, rfl⟩
      have e0 : decide ((X : Int) < 65536) = false := decide_eq_false (by omega)
      by_cases t1 : 1114111 < X
      · have e1 : decide (1114111 < (X : Int)) = true := decide_eq_true (by omega)
        obtain rfl : L = (0, 0) := by rw [hL2, if_neg (by unfold okR; simp; omega)]
        clear hL2
        go_wp2_with fail
        go_ret2
        exact ⟨rfl, rfl⟩
      have e1 : decide (1114111 < (X : Int)) = false := decide_eq_false (by omega)
      by_cases t2 : 55296 ≤ X
      · have e2 : decide (55296 ≤ (X : Int)) = true := decide_eq_true (by omega)
        by_cases t3 : X ≤ 57343
        · have e3 : decide ((X : Int) ≤ 57343) = true := decide_eq_true (by omega)
          obtain rfl : L = (0, 0) := by rw [hL2, if_neg (by unfold okR; simp; omega)]
          clear hL2
          go_wp2_with fail
          go_ret2
          exact ⟨rfl, rfl⟩
        · have e3 : decide ((X : Int) ≤ 57343) = false := decide_eq_false (by omega)
          obtain rfl : L = (4, X) := by rw [hL2, if_pos (by unfold okR; simp; omega)]
          clear hL2
          go_wp2_with fail
          go_ret2
          exact ⟨rfl, rfl⟩
      · have e2 : decide (55296 ≤ (X : Int)) = false := decide_eq_false (by omega)
        obtain rfl : L = (4, X) := by rw [hL2, if_pos (by unfold okR; simp; omega)]
        clear hL2
        go_wp2_with fail
        go_ret2
        exact ⟨rfl, rfl⟩
theorem letter_any (s : ByteArray) (p : Nat) (w : World) (hp : p < s.size) (hs : s.size ≤ 140737488355328) :
    Calls Tryd.prog 63 #[.string s, .int .i64 p] w fun e w' => e = .returned (.tuple #[.int .i64 (((letL s p).1 : Nat) : Int), .int .i64 (((letL s p).2 : Nat) : Int)]) ∧ w = w' := by
  by_cases h1 : byL s p < 128
  · exact letter_1 s p w hp hs h1
  · by_cases h2 : byL s p < 194
    · exact letter_0 s p w hp hs (.inl ⟨by omega, h2⟩)
    · by_cases h3 : byL s p < 224
      · exact letter_2 s p w hp hs ⟨by omega, h3⟩
      · by_cases h4 : byL s p < 240
        · exact letter_3 s p w hp hs ⟨by omega, h4⟩
        · by_cases h5 : byL s p < 245
          · exact letter_4 s p w hp hs ⟨by omega, h5⟩
          · exact letter_0 s p w hp hs (.inr (by omega))
end Go.Proofs.YtlcbfikmljmlpaaDoor
