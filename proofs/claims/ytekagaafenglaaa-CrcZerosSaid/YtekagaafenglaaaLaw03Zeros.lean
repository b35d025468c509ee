/- The walk of CrcZeros. -/
import Derived.Test.YtekagaafenglaaaLaw03Known
import Derived.Test.YtekagaafenglaaaCrcSkip
namespace Go.Proofs.Ytekagaafenglaaa.crcZeros
set_option linter.unusedVariables false
open Go.RowKit
theorem zerosI_nat (S n : Nat) (h : S < 4294967296) : zerosI (S : Int) n = ((stepsN (8 * n) (S ^^^ 4294967295) ^^^ 4294967295 : Nat) : Int) := by
  have hX : S ^^^ 4294967295 < 2 ^ 32 := Nat.xor_lt_two_pow (by omega) (by omega)
  have e : ∀ x : Nat, x < 4294967296 → bits .xor .u32 (x : Int) 4294967295 = ((x ^^^ 4294967295 : Nat) : Int) := fun x hx => xor32_nat x 4294967295 hx (by omega)
  unfold zerosI
  rw [e S h, stepsI_nat _ _ (by omega), e _ (stepsN_lt _ _ (by omega))]
theorem zerosI_zero (s : Int) (h : 0 ≤ s ∧ s < 4294967296) : zerosI s 0 = s := by
  obtain ⟨S, rfl⟩ := Int.eq_ofNat_of_zero_le h.1
  rw [zerosI_nat S 0 (by omega)]
  have : stepsN (8 * 0) (S ^^^ 4294967295) ^^^ 4294967295 = S := by rw [show stepsN (8 * 0) (S ^^^ 4294967295) = S ^^^ 4294967295 from rfl, Nat.xor_assoc, Nat.xor_self, Nat.xor_zero]
  rw [this]
theorem zerosI_range (s : Int) (n : Nat) (h : 0 ≤ s ∧ s < 4294967296) : 0 ≤ zerosI s n ∧ zerosI s n < 4294967296 := by
  have h1 := xor32_range s 4294967295 h.1 h.2 (by omega) (by omega)
  have h2 := stepsI_range (8 * n) _ h1.1 h1.2
  exact xor32_range _ _ h2.1 h2.2 (by omega) (by omega)
theorem zerosI_add (s : Int) (a b : Nat) (h : 0 ≤ s ∧ s < 4294967296) : zerosI (zerosI s a) b = zerosI s (a + b) := by
  obtain ⟨S, rfl⟩ := Int.eq_ofNat_of_zero_le h.1
  have hX : S ^^^ 4294967295 < 2 ^ 32 := Nat.xor_lt_two_pow (by omega) (by omega)
  have hY := stepsN_lt (8 * a) (S ^^^ 4294967295) (by omega)
  have hZ : stepsN (8 * a) (S ^^^ 4294967295) ^^^ 4294967295 < 2 ^ 32 := Nat.xor_lt_two_pow (by omega) (by omega)
  rw [zerosI_nat S a (by omega), zerosI_nat _ b (by omega), zerosI_nat S (a + b) (by omega), Nat.xor_assoc, Nat.xor_self, Nat.xor_zero, stepsN_plus, show 8 * b + 8 * a = 8 * (a + b) by omega]
set_option maxHeartbeats 1000000 in
set_option maxRecDepth 20000 in
theorem walk (s n : Int) (w : World) (hs : 0 ≤ s ∧ s < 4294967296) (hn : -9223372036854775808 ≤ n ∧ n < 9223372036854775808) :
    Calls Try.prog 7 #[.int .u32 s, .int .i64 n] w fun e w' => e = .returned (.bool true) ∧ Below w.heap.size w w' := by
  by_cases h0 : n < 0
  · go_enter Try.func7, Try.ntmps7
    go_wp2_with fail
    refine (make_any _).mono ?_
    rintro e w1 ⟨rfl, hb, ht⟩
    go_wp2_with fail
    refine (zeros_any _ _ _ _ hs hn).mono ?_
    rintro e w2 ⟨rfl, hb2⟩
    rw [show n.toNat = 0 by omega, zerosI_zero s hs]
    go_wp2_with fail
    refine (known_any _).mono ?_
    rintro e w5 ⟨rfl, hb5⟩
    go_wp2_with fail
    go_ret
    have hbc := hb.trans (hb2.mono hb.size)
    exact ⟨rfl, hbc.trans (hb5.mono hbc.size)⟩
  · obtain ⟨N, rfl⟩ := Int.eq_ofNat_of_zero_le (show 0 ≤ n by omega)
    have hN : N < 9223372036854775808 := by omega
    clear h0 hn
    obtain ⟨z, hz⟩ : ∃ z, z = zerosI s N := ⟨_, rfl⟩
    have HZ := hid hz
    clear hz
    have hra := zerosI_range s (N / 2) hs
    have hadd : zerosI (zerosI s (N / 2)) (N - N / 2) = z := by rw [HZ.out, zerosI_add s _ _ hs, show N / 2 + (N - N / 2) = N by omega]
    have HA := hid hadd
    clear hadd
    by_cases hbig : 3000 < N
    · have hd : decide (3000 < (N : Int)) = true := by simp; omega
      go_enter Try.func7, Try.ntmps7
      go_wp2_with fail
      refine (make_any _).mono ?_
      rintro e w1 ⟨rfl, hb, ht⟩
      go_wp2_with fail
      refine (zeros_any _ _ _ _ hs (by omega)).mono ?_
      rintro e w2 ⟨rfl, hb2⟩
      rw [show ((N : Int) / 2).toNat = N / 2 by omega]
      go_wp2_with fail
      refine (zeros_any _ _ _ _ hra (by omega)).mono ?_
      rintro e w3 ⟨rfl, hb3⟩
      rw [show ((N : Int) - (N : Int) / 2).toNat = N - N / 2 by omega, HA.out]
      go_wp2_with fail
      refine (zeros_any _ _ _ _ hs (by omega)).mono ?_
      rintro e w4 ⟨rfl, hb4⟩
      rw [Int.toNat_natCast, ← HZ.out]
      go_wp2_with fail
      refine (known_any _).mono ?_
      rintro e w5 ⟨rfl, hb5⟩
      go_wp2_with fail
      go_ret
      have hbc := hb.trans (hb2.mono hb.size)
      have hbd := hbc.trans (hb3.mono hbc.size)
      have hbe := hbd.trans (hb4.mono hbd.size)
      exact ⟨rfl, hbe.trans (hb5.mono hbe.size)⟩
    · have hd : decide (3000 < (N : Int)) = false := by simp; omega
      go_enter Try.func7, Try.ntmps7
      go_wp2_with fail
      refine (make_any _).mono ?_
      rintro e w1 ⟨rfl, hb, ht⟩
      go_wp2_with fail
      refine (zeros_any _ _ _ _ hs (by omega)).mono ?_
      rintro e w2 ⟨rfl, hb2⟩
      rw [show ((N : Int) / 2).toNat = N / 2 by omega]
      go_wp2_with fail
      refine (zeros_any _ _ _ _ hra (by omega)).mono ?_
      rintro e w3 ⟨rfl, hb3⟩
      rw [show ((N : Int) - (N : Int) / 2).toNat = N - N / 2 by omega, HA.out]
      go_wp2_with fail
      refine (zeros_any _ _ _ _ hs (by omega)).mono ?_
      rintro e w4 ⟨rfl, hb4⟩
      rw [Int.toNat_natCast, ← HZ.out]
      go_wp2_with fail
      refine (zeros_any _ _ _ _ hs (by omega)).mono ?_
      rintro e w6 ⟨rfl, hb6⟩
      rw [Int.toNat_natCast, ← HZ.out]
      go_wp2_with fail
      refine (rzeros_any _ _ _ hs (by omega)).mono ?_
      rintro e w7 ⟨rfl, rfl⟩
      rw [Int.toNat_natCast, ← HZ.out]
      go_wp2_with fail
      refine (known_any _).mono ?_
      rintro e w5 ⟨rfl, hb5⟩
      go_wp2_with fail
      go_ret
      have hbc := hb.trans (hb2.mono hb.size)
      have hbd := hbc.trans (hb3.mono hbc.size)
      have hbe := hbd.trans (hb4.mono hbd.size)
      have hbf := hbe.trans (hb6.mono hbe.size)
      exact ⟨rfl, hbf.trans (hb5.mono hbf.size)⟩
end Go.Proofs.Ytekagaafenglaaa.crcZeros
