/- The sums, in plain words. -/
import Derived.Test.YtekagaafenglaaaCrcPlain
import Derived.Test.YtekagaafenglaaaKit
namespace Go.Proofs.Ytekagaafenglaaa
/-- the steps of a byte -/
def byteI (x : Int) (b : UInt8) : Int := stepsI 8 (bits .xor .u32 x (b.toNat : Int))
def bytesI (x : Int) (l : List UInt8) : Int := l.foldl byteI x
def nextI (s : Int) (l : List UInt8) : Int := bits .xor .u32 (bytesI (bits .xor .u32 s 4294967295) l) 4294967295
def sumI (l : List UInt8) : Int := nextI 0 l
theorem byteI_range (x : Int) (b : UInt8) (h0 : 0 ≤ x) (h1 : x < 4294967296) : 0 ≤ byteI x b ∧ byteI x b < 4294967296 := by
  have h := xor32_range x (b.toNat : Int) h0 h1 (by omega) (by have := b.toNat_lt; omega)
  exact stepsI_range 8 _ h.1 h.2
theorem bytesI_range (l : List UInt8) : ∀ (x : Int), 0 ≤ x → x < 4294967296 → 0 ≤ bytesI x l ∧ bytesI x l < 4294967296 := by
  induction l with
  | nil => intro x h0 h1; exact ⟨h0, h1⟩
  | cons b l ih => intro x h0 h1; have h := byteI_range x b h0 h1; exact ih _ h.1 h.2
theorem nextI_range (s : Int) (l : List UInt8) (h0 : 0 ≤ s) (h1 : s < 4294967296) : 0 ≤ nextI s l ∧ nextI s l < 4294967296 := by
  have h := xor32_range s 4294967295 h0 h1 (by omega) (by omega)
  have h' := bytesI_range l _ h.1 h.2
  exact xor32_range _ _ h'.1 h'.2 (by omega) (by omega)
theorem bytesI_snoc (x : Int) (l : List UInt8) (k : Nat) (h : k < l.length) : bytesI x (l.take (k + 1)) = byteI (bytesI x (l.take k)) l[k] := by
  rw [List.take_succ_eq_append_getElem h]; unfold bytesI; rw [List.foldl_append]; rfl

/-! steps are linear: over Nat -/
def stepN (n : Nat) : Nat := (n / 2) ^^^ (if n % 2 = 1 then 3988292384 else 0)
def stepsN : Nat → Nat → Nat
  | 0, x => x
  | n + 1, x => stepN (stepsN n x)
theorem stepN_lt (n : Nat) (h : n < 4294967296) : stepN n < 4294967296 := by
  have : stepN n < 2 ^ 32 := by
    apply Nat.xor_lt_two_pow
    · omega
    · split <;> omega
  omega
theorem stepsN_lt (k n : Nat) (h : n < 4294967296) : stepsN k n < 4294967296 := by
  induction k with
  | zero => exact h
  | succ k ih => exact stepN_lt _ ih
theorem stepI_nat (n : Nat) (hn : n < 4294967296) : stepI (n : Int) = (stepN n : Nat) := by
  unfold stepI stepN
  by_cases h : n % 2 = 1
  · rw [if_pos (by omega), if_pos h, xor32 _ _ (by omega) (by omega) (by omega) (by omega)]
    have e1 : ((n : Int) / 2).toNat = n / 2 := by omega
    rw [e1]; rfl
  · rw [if_neg (by omega), if_neg h]; simp
theorem stepsI_nat (k n : Nat) (hn : n < 4294967296) : stepsI k (n : Int) = (stepsN k n : Nat) := by
  induction k with
  | zero => rfl
  | succ k ih => rw [stepsI, ih, stepI_nat _ (stepsN_lt k n hn)]; rfl
theorem stepN_xor (a b : Nat) : stepN (a ^^^ b) = stepN a ^^^ stepN b := by
  have hd : (a ^^^ b) / 2 = (a / 2) ^^^ (b / 2) := by
    have := Nat.shiftRight_xor_distrib (a := a) (b := b) (i := 1)
    simpa [Nat.shiftRight_eq_div_pow] using this
  have hm : (a ^^^ b) % 2 = (a % 2 + b % 2) % 2 := by
    have := Nat.xor_mod_two_pow (a := a) (b := b) (n := 1)
    rw [Nat.pow_one] at this
    rw [this]
    rcases Nat.mod_two_eq_zero_or_one a with h | h <;> rcases Nat.mod_two_eq_zero_or_one b with h' | h' <;> rw [h, h']
    all_goals decide
  unfold stepN
  rw [hd, hm]
  rcases Nat.mod_two_eq_zero_or_one a with h | h <;> rcases Nat.mod_two_eq_zero_or_one b with h' | h' <;> rw [h, h'] <;> simp
  · rw [Nat.xor_assoc]
  · rw [Nat.xor_assoc, Nat.xor_assoc, Nat.xor_comm 3988292384]
  · rw [Nat.xor_assoc, ← Nat.xor_assoc 3988292384, Nat.xor_comm 3988292384 (b / 2), Nat.xor_assoc]; simp
theorem stepsN_xor (k a b : Nat) : stepsN k (a ^^^ b) = stepsN k a ^^^ stepsN k b := by
  induction k with
  | zero => rfl
  | succ k ih => simp only [stepsN, ih, stepN_xor]
theorem stepsN_shift (k m : Nat) : stepsN k (2 ^ k * m) = m := by
  have gen : ∀ j, j ≤ k → stepsN j (2 ^ k * m) = 2 ^ (k - j) * m := by
    intro j
    induction j with
    | zero => intro _; rfl
    | succ j ih =>
      intro hj
      rw [stepsN, ih (by omega)]
      have e : 2 ^ (k - j) * m = 2 * (2 ^ (k - (j + 1)) * m) := by
        rw [show k - j = (k - (j + 1)) + 1 by omega, Nat.pow_succ]
        rw [Nat.mul_comm (2 ^ (k - (j + 1))) 2, Nat.mul_assoc]
      rw [e, stepN, if_neg (by omega)]
      simp
  simpa using gen k (Nat.le_refl k)
/-- the table's way is the way of eight steps -/
theorem feedN (x b : Nat) (hb : b < 256) : (x / 256) ^^^ stepsN 8 ((x % 256) ^^^ b) = stepsN 8 (x ^^^ b) := by
  have hx : x = (2 ^ 8 * (x / 256)) ^^^ (x % 256) := by
    have h := Nat.two_pow_add_eq_or_of_lt (i := 8) (b := x % 256) (by omega) (x / 256)
    have h2 : 2 ^ 8 * (x / 256) ||| x % 256 = 2 ^ 8 * (x / 256) ^^^ x % 256 := by
      apply Nat.eq_of_testBit_eq
      intro i
      rw [Nat.testBit_or, Nat.testBit_xor, Nat.testBit_two_pow_mul]
      by_cases hi : i < 8
      · have h8 : ¬ 8 ≤ i := by omega
        simp [h8]
      · have : (x % 256).testBit i = false := Nat.testBit_lt_two_pow (Nat.lt_of_lt_of_le (by omega : x % 256 < 2 ^ 8) (Nat.pow_le_pow_right (by omega) (by omega)))
        simp [this]
    exact (show x = 2 ^ 8 * (x / 256) + x % 256 by omega).trans (h.trans h2)
  conv => rhs; rw [hx, Nat.xor_assoc, stepsN_xor, stepsN_shift]
theorem xor32_nat (a b : Nat) (h1 : a < 4294967296) (h2 : b < 4294967296) : bits .xor .u32 (a : Int) (b : Int) = ((a ^^^ b : Nat) : Int) := u32_xor_nat a b h1 h2
theorem xor8_range (a b : Int) (h1 : 0 ≤ a) (h2 : a < 256) (h3 : 0 ≤ b) (h4 : b < 256) : 0 ≤ bits .xor .u8 a b ∧ bits .xor .u8 a b < 256 := by
  rw [u8_xor a b h1 h2 h3 h4]
  have := Nat.xor_lt_two_pow (x := a.toNat) (y := b.toNat) (n := 8) (by omega) (by omega)
  omega
theorem feedI (x : Int) (b : UInt8) (h0 : 0 ≤ x) (h1 : x < 4294967296) :
    bits .xor .u32 (x / 256) (stepsI 8 (bits .xor .u8 (x % 256) (b.toNat : Int))) = byteI x b := by
  obtain ⟨X, rfl⟩ := Int.eq_ofNat_of_zero_le h0
  have hb := b.toNat_lt
  have e1 : ((X : Int) / 256) = ((X / 256 : Nat) : Int) := by omega
  have e2 : ((X : Int) % 256) = ((X % 256 : Nat) : Int) := by omega
  have hx : (X % 256) ^^^ b.toNat < 2 ^ 8 := Nat.xor_lt_two_pow (by omega) (by omega)
  have hx2 : X ^^^ b.toNat < 2 ^ 32 := Nat.xor_lt_two_pow (by omega) (by omega)
  rw [e1, e2, u8_xor_nat _ _ (by omega) (by omega), stepsI_nat _ _ (by omega), xor32_nat _ _ (by omega) (stepsN_lt _ _ (by omega)), feedN _ _ hb]
  unfold byteI
  rw [xor32_nat _ _ (by omega) (by omega), stepsI_nat _ _ (by omega)]
end Go.Proofs.Ytekagaafenglaaa
