/- The sums, in plain words. -/
import Derived.Test.YtkmhmehofipehaaDoorK4
import Derived.Test.YtkmhmehofipehaaDoorK1
import Derived.Deep.RegionHeld3
import Derived.Test.YtkmhmehofipehaaDoorK3
namespace Go.Proofs.YtkmhmehofipehaaDoor
set_option linter.unusedVariables false
/-- the steps of a byte -/
def byteI (x : Int) (b : UInt8) : Int := stepsI 8 (bits .xor .u32 x (b.toNat : Int))
def bytesI (x : Int) (l : List UInt8) : Int := l.foldl byteI x
def nextI (s : Int) (l : List UInt8) : Int := bits .xor .u32 (bytesI (bits .xor .u32 s 4294967295) l) 4294967295
def sumI (l : List UInt8) : Int := nextI 0 l
/-- so many bytes 0 -/
def zerosI (s : Int) (n : Nat) : Int := bits .xor .u32 (stepsI (8 * n) (bits .xor .u32 s 4294967295)) 4294967295
theorem byteI_range (x : Int) (b : UInt8) (h0 : 0 ≤ x) (h1 : x < 4294967296) : 0 ≤ byteI x b ∧ byteI x b < 4294967296 := by
  have h := xor32_range x (b.toNat : Int) h0 h1 (by omega) (by have := b.toNat_lt; omega)
  exact stepsI_range 8 _ h.1 h.2
theorem bytesI_range (l : List UInt8) : ∀ (x : Int), 0 ≤ x → x < 4294967296 → 0 ≤ bytesI x l ∧ bytesI x l < 4294967296 := by
  induction l with
  | nil => intro x h0 h1; exact ⟨h0, h1⟩
  | cons b l ih => intro x h0 h1; have h := byteI_range x b h0 h1; exact ih _ h.1 h.2
theorem nextI_range (s : Int) (l : List UInt8) (h0 : 0 ≤ s) (h1 : s < 4294967296) : 0 ≤ nextI s l ∧ nextI s l < 4294967296 := by
  have h := xor32_range s 4294967295 h0 h1 (by omega) (by omega)
  have h' := bytesI_range l _ h.1 h.2
  exact xor32_range _ _ h'.1 h'.2 (by omega) (by omega)
theorem bytesI_snoc (x : Int) (l : List UInt8) (k : Nat) (h : k < l.length) : bytesI x (l.take (k + 1)) = byteI (bytesI x (l.take k)) l[k] := by
  rw [List.take_succ_eq_append_getElem h]; unfold bytesI; rw [List.foldl_append]; rfl

theorem ofInt_i64' (a : Nat) (ha : a < 9223372036854775808) : (BitVec.ofInt 64 (a : Int)).toNat = a := by
  rw [BitVec.ofInt_natCast, BitVec.toNat_ofNat]; exact Nat.mod_eq_of_lt (by omega)
theorem i64_and_nat (a b : Nat) (ha : a < 9223372036854775808) (hb : b < 9223372036854775808) : bits .and .i64 (a : Int) (b : Int) = ((a &&& b : Nat) : Int) := by
  have hx : a &&& b < 2 ^ 63 := Nat.and_lt_two_pow _ (by omega)
  show IntKind.i64.wrap ((BitVec.ofInt 64 (a : Int) &&& BitVec.ofInt 64 (b : Int)).toNat : Int) = _
  rw [BitVec.toNat_and, ofInt_i64' a ha, ofInt_i64' b hb, IntKind.wrap_i64]
  omega
/-! steps are linear: over Nat -/
def stepN (n : Nat) : Nat := (n / 2) ^^^ (if n % 2 = 1 then 3988292384 else 0)
def stepsN : Nat → Nat → Nat
  | 0, x => x
  | n + 1, x => stepN (stepsN n x)
theorem stepN_lt (n : Nat) (h : n < 4294967296) : stepN n < 4294967296 := by
  have : stepN n < 2 ^ 32 := by
    apply Nat.xor_lt_two_pow
    · omega
    · split <;> omega
  omega
theorem stepsN_lt (k n : Nat) (h : n < 4294967296) : stepsN k n < 4294967296 := by
  induction k with
  | zero => exact h
  | succ k ih => exact stepN_lt _ ih
theorem stepI_nat (n : Nat) (hn : n < 4294967296) : stepI (n : Int) = (stepN n : Nat) := by
  unfold stepI stepN
  by_cases h : n % 2 = 1
  · rw [if_pos (by omega), if_pos h, xor32 _ _ (by omega) (by omega) (by omega) (by omega)]
    have e1 : ((n : Int) / 2).toNat = n / 2 := by omega
    rw [e1]; rfl
  · rw [if_neg (by omega), if_neg h]; simp
theorem stepsI_nat (k n : Nat) (hn : n < 4294967296) : stepsI k (n : Int) = (stepsN k n : Nat) := by
  induction k with
  | zero => rfl
  | succ k ih => rw [stepsI, ih, stepI_nat _ (stepsN_lt k n hn)]; rfl
theorem stepN_xor (a b : Nat) : stepN (a ^^^ b) = stepN a ^^^ stepN b := by
  have hd : (a ^^^ b) / 2 = (a / 2) ^^^ (b / 2) := by
    have := Nat.shiftRight_xor_distrib (a := a) (b := b) (i := 1)
    simpa [Nat.shiftRight_eq_div_pow] using this
  have hm : (a ^^^ b) % 2 = (a % 2 + b % 2) % 2 := by
    have := Nat.xor_mod_two_pow (a := a) (b := b) (n := 1)
    rw [Nat.pow_one] at this
    rw [this]
    rcases Nat.mod_two_eq_zero_or_one a with h | h <;> rcases Nat.mod_two_eq_zero_or_one b with h' | h' <;> rw [h, h']
    all_goals decide
  unfold stepN
  rw [hd, hm]
  rcases Nat.mod_two_eq_zero_or_one a with h | h <;> rcases Nat.mod_two_eq_zero_or_one b with h' | h' <;> rw [h, h'] <;> simp
  · rw [Nat.xor_assoc]
  · rw [Nat.xor_assoc, Nat.xor_assoc, Nat.xor_comm 3988292384]
  · rw [Nat.xor_assoc, ← Nat.xor_assoc 3988292384, Nat.xor_comm 3988292384 (b / 2), Nat.xor_assoc]; simp
theorem stepsN_xor (k a b : Nat) : stepsN k (a ^^^ b) = stepsN k a ^^^ stepsN k b := by
  induction k with
  | zero => rfl
  | succ k ih => simp only [stepsN, ih, stepN_xor]
theorem stepsN_shift (k m : Nat) : stepsN k (2 ^ k * m) = m := by
  have gen : ∀ j, j ≤ k → stepsN j (2 ^ k * m) = 2 ^ (k - j) * m := by
    intro j
    induction j with
    | zero => intro _; rfl
    | succ j ih =>
      intro hj
      rw [stepsN, ih (by omega)]
      have e : 2 ^ (k - j) * m = 2 * (2 ^ (k - (j + 1)) * m) := by
        rw [show k - j = (k - (j + 1)) + 1 by omega, Nat.pow_succ]
        rw [Nat.mul_comm (2 ^ (k - (j + 1))) 2, Nat.mul_assoc]
      rw [e, stepN, if_neg (by omega)]
      simp
  simpa using gen k (Nat.le_refl k)
/-- the table's way is the way of eight steps -/
theorem feedN (x b : Nat) (hb : b < 256) : (x / 256) ^^^ stepsN 8 ((x % 256) ^^^ b) = stepsN 8 (x ^^^ b) := by
  have hx : x = (2 ^ 8 * (x / 256)) ^^^ (x % 256) := by
    have h := Nat.two_pow_add_eq_or_of_lt (i := 8) (b := x % 256) (by omega) (x / 256)
    have h2 : 2 ^ 8 * (x / 256) ||| x % 256 = 2 ^ 8 * (x / 256) ^^^ x % 256 := by
      apply Nat.eq_of_testBit_eq
      intro i
      rw [Nat.testBit_or, Nat.testBit_xor, Nat.testBit_two_pow_mul]
      by_cases hi : i < 8
      · have h8 : ¬ 8 ≤ i := by omega
        simp [h8]
      · have : (x % 256).testBit i = false := Nat.testBit_lt_two_pow (Nat.lt_of_lt_of_le (by omega : x % 256 < 2 ^ 8) (Nat.pow_le_pow_right (by omega) (by omega)))
        simp [this]
    exact (show x = 2 ^ 8 * (x / 256) + x % 256 by omega).trans (h.trans h2)
  conv => rhs; rw [hx, Nat.xor_assoc, stepsN_xor, stepsN_shift]
theorem xor32_nat (a b : Nat) (h1 : a < 4294967296) (h2 : b < 4294967296) : bits .xor .u32 (a : Int) (b : Int) = ((a ^^^ b : Nat) : Int) := u32_xor_nat a b h1 h2
theorem xor8_range (a b : Int) (h1 : 0 ≤ a) (h2 : a < 256) (h3 : 0 ≤ b) (h4 : b < 256) : 0 ≤ bits .xor .u8 a b ∧ bits .xor .u8 a b < 256 := by
  rw [u8_xor a b h1 h2 h3 h4]
  have := Nat.xor_lt_two_pow (x := a.toNat) (y := b.toNat) (n := 8) (by omega) (by omega)
  omega
theorem feedI (x : Int) (b : UInt8) (h0 : 0 ≤ x) (h1 : x < 4294967296) :
    bits .xor .u32 (x / 256) (stepsI 8 (bits .xor .u8 (x % 256) (b.toNat : Int))) = byteI x b := by
  obtain ⟨X, rfl⟩ := Int.eq_ofNat_of_zero_le h0
  have hb := b.toNat_lt
  have e1 : ((X : Int) / 256) = ((X / 256 : Nat) : Int) := by omega
  have e2 : ((X : Int) % 256) = ((X % 256 : Nat) : Int) := by omega
  have hx : (X % 256) ^^^ b.toNat < 2 ^ 8 := Nat.xor_lt_two_pow (by omega) (by omega)
  have hx2 : X ^^^ b.toNat < 2 ^ 32 := Nat.xor_lt_two_pow (by omega) (by omega)
  rw [e1, e2, u8_xor_nat _ _ (by omega) (by omega), stepsI_nat _ _ (by omega), xor32_nat _ _ (by omega) (stepsN_lt _ _ (by omega)), feedN _ _ hb]
  unfold byteI
  rw [xor32_nat _ _ (by omega) (by omega), stepsI_nat _ _ (by omega)]
/-! parts -/
def nextN (s : Nat) (l : List UInt8) : Nat := l.foldl (fun x b => stepsN 8 (x ^^^ b.toNat)) s
theorem nextN_lt (l : List UInt8) : ∀ s, s < 4294967296 → nextN s l < 4294967296 := by
  induction l with
  | nil => intro s h; exact h
  | cons b l ih =>
    intro s h
    have hb := b.toNat_lt
    have hx : s ^^^ b.toNat < 2 ^ 32 := Nat.xor_lt_two_pow (by omega) (by omega)
    exact ih _ (stepsN_lt _ _ (by omega))
theorem byteI_nat (x : Nat) (b : UInt8) (h : x < 4294967296) : byteI (x : Int) b = ((stepsN 8 (x ^^^ b.toNat) : Nat) : Int) := by
  have hb := b.toNat_lt
  have hx : x ^^^ b.toNat < 2 ^ 32 := Nat.xor_lt_two_pow (by omega) (by omega)
  unfold byteI
  rw [xor32_nat _ _ (by omega) (by omega), stepsI_nat _ _ (by omega)]
theorem bytesI_nat (l : List UInt8) : ∀ (x : Nat), x < 4294967296 → bytesI (x : Int) l = ((nextN x l : Nat) : Int) := by
  induction l with
  | nil => intro x h; rfl
  | cons b l ih =>
    intro x h
    have hb := b.toNat_lt
    have hx : x ^^^ b.toNat < 2 ^ 32 := Nat.xor_lt_two_pow (by omega) (by omega)
    show bytesI (byteI x b) l = _
    rw [byteI_nat x b h, ih _ (stepsN_lt _ _ (by omega))]; rfl
theorem stepsN_plus (a b x : Nat) : stepsN a (stepsN b x) = stepsN (a + b) x := by
  induction a with
  | zero => rw [Nat.zero_add]; rfl
  | succ a ih => rw [show a + 1 + b = (a + b) + 1 by omega, stepsN, stepsN, ih]
/-- what was ahead goes through all steps, beside the bytes -/
theorem nextN_xor (l : List UInt8) : ∀ (a b : Nat), nextN (a ^^^ b) l = stepsN (8 * l.length) a ^^^ nextN b l := by
  induction l with
  | nil => intro a b; simp [nextN, stepsN]
  | cons c l ih =>
    intro a b
    show nextN (stepsN 8 ((a ^^^ b) ^^^ c.toNat)) l = _ ^^^ nextN (stepsN 8 (b ^^^ c.toNat)) l
    rw [Nat.xor_assoc, stepsN_xor, ih, stepsN_plus, show 8 * l.length + 8 = 8 * (c :: l).length by simp; omega]
theorem nextI_append (s : Int) (a b : List UInt8) (h0 : 0 ≤ s) (h1 : s < 4294967296) : nextI (nextI s a) b = nextI s (a ++ b) := by
  obtain ⟨S, rfl⟩ := Int.eq_ofNat_of_zero_le h0
  have hX : S ^^^ 4294967295 < 2 ^ 32 := Nat.xor_lt_two_pow (by omega) (by omega)
  have hA := nextN_lt a (S ^^^ 4294967295) (by omega)
  have hX2 : nextN (S ^^^ 4294967295) a ^^^ 4294967295 < 2 ^ 32 := Nat.xor_lt_two_pow (by omega) (by omega)
  have e : ∀ x : Nat, x < 4294967296 → bits .xor .u32 (x : Int) 4294967295 = ((x ^^^ 4294967295 : Nat) : Int) := fun x hx => xor32_nat x 4294967295 hx (by omega)
  unfold nextI
  rw [e S (by omega), bytesI_nat _ _ (by omega), e _ hA, e _ (by omega), Nat.xor_assoc, Nat.xor_self, Nat.xor_zero, bytesI_nat _ _ hA, bytesI_nat _ _ (by omega)]
  have : nextN (nextN (S ^^^ 4294967295) a) b = nextN (S ^^^ 4294967295) (a ++ b) := by unfold nextN; rw [List.foldl_append]
  rw [this]
theorem joinI (a b : List UInt8) : bits .xor .u32 (stepsI (8 * b.length) (sumI a)) (sumI b) = sumI (a ++ b) := by
  have e : ∀ x : Nat, x < 4294967296 → bits .xor .u32 (x : Int) 4294967295 = ((x ^^^ 4294967295 : Nat) : Int) := fun x hx => xor32_nat x 4294967295 hx (by omega)
  have hA := nextN_lt a 4294967295 (by omega)
  have hB := nextN_lt b 4294967295 (by omega)
  have hC := nextN_lt (a ++ b) 4294967295 (by omega)
  have s : ∀ l : List UInt8, sumI l = ((nextN 4294967295 l ^^^ 4294967295 : Nat) : Int) := by
    intro l
    have hL := nextN_lt l 4294967295 (by omega)
    have h0 := e 0 (by omega)
    rw [Nat.zero_xor] at h0
    unfold sumI nextI
    rw [show (0 : Int) = ((0 : Nat) : Int) from rfl, h0, bytesI_nat _ _ (by omega), e _ hL]
  have hX : nextN 4294967295 a ^^^ 4294967295 < 2 ^ 32 := Nat.xor_lt_two_pow (by omega) (by omega)
  have hY : nextN 4294967295 b ^^^ 4294967295 < 2 ^ 32 := Nat.xor_lt_two_pow (by omega) (by omega)
  rw [s, s, s, stepsI_nat _ _ (by omega), xor32_nat _ _ (stepsN_lt _ _ (by omega)) (by omega)]
  have h1 : nextN 4294967295 (a ++ b) = nextN (nextN 4294967295 a) b := by unfold nextN; rw [List.foldl_append]
  have h2 := nextN_xor b (nextN 4294967295 a ^^^ 4294967295) 4294967295
  rw [Nat.xor_assoc, Nat.xor_self, Nat.xor_zero] at h2
  rw [h1, h2, Nat.xor_assoc]
/-! a changed byte changes the sum -/
theorem xor_cancel {a b c : Nat} (h : a ^^^ c = b ^^^ c) : a = b := by
  have := congrArg (· ^^^ c) h
  simpa [Nat.xor_assoc] using this
theorem stepN_inj (a b : Nat) (ha : a < 4294967296) (hb : b < 4294967296) (h : stepN a = stepN b) : a = b := by
  have key : ∀ n : Nat, n < 4294967296 → (stepN n).testBit 31 = decide (n % 2 = 1) := by
    intro n hn
    have h0 : (n / 2).testBit 31 = false := Nat.testBit_lt_two_pow (by omega)
    unfold stepN
    rw [Nat.testBit_xor, h0]
    split
    · rename_i h; simp [h]; decide +kernel
    · rename_i h; simp [h]
  have h31 : decide (a % 2 = 1) = decide (b % 2 = 1) := by rw [← key a ha, ← key b hb, h]
  have hm : a % 2 = b % 2 := by
    have := decide_eq_decide.1 h31
    omega
  have hd : a / 2 = b / 2 := by
    unfold stepN at h
    rw [hm] at h
    exact xor_cancel h
  omega
theorem stepsN_inj (k a b : Nat) (ha : a < 4294967296) (hb : b < 4294967296) (h : stepsN k a = stepsN k b) : a = b := by
  induction k with
  | zero => exact h
  | succ k ih => exact ih (stepN_inj _ _ (stepsN_lt _ _ ha) (stepsN_lt _ _ hb) h)
theorem nextN_inj (l : List UInt8) : ∀ (a b : Nat), a < 4294967296 → b < 4294967296 → nextN a l = nextN b l → a = b := by
  induction l with
  | nil => intro a b _ _ h; exact h
  | cons c l ih =>
    intro a b ha hb h
    have hc := c.toNat_lt
    have hx : a ^^^ c.toNat < 2 ^ 32 := Nat.xor_lt_two_pow (by omega) (by omega)
    have hy : b ^^^ c.toNat < 2 ^ 32 := Nat.xor_lt_two_pow (by omega) (by omega)
    exact xor_cancel (stepsN_inj 8 _ _ (by omega) (by omega) (ih _ _ (stepsN_lt _ _ (by omega)) (stepsN_lt _ _ (by omega)) h))
theorem sumI_nat (l : List UInt8) : sumI l = ((nextN 4294967295 l ^^^ 4294967295 : Nat) : Int) := by
  have e : ∀ x : Nat, x < 4294967296 → bits .xor .u32 (x : Int) 4294967295 = ((x ^^^ 4294967295 : Nat) : Int) := fun x hx => xor32_nat x 4294967295 hx (by omega)
  have hL := nextN_lt l 4294967295 (by omega)
  have h0 := e 0 (by omega)
  rw [Nat.zero_xor] at h0
  unfold sumI nextI
  rw [show (0 : Int) = ((0 : Nat) : Int) from rfl, h0, bytesI_nat _ _ (by omega), e _ hL]
theorem sumI_range (l : List UInt8) : 0 ≤ sumI l ∧ sumI l < 4294967296 := nextI_range 0 l (by omega) (by omega)
theorem sumI_change (l : List UInt8) (i : Nat) (hi : i < l.length) (y : UInt8) (hy : y ≠ l[i]) : sumI (l.set i y) ≠ sumI l := by
  intro h
  rw [sumI_nat, sumI_nat] at h
  have h1 : nextN 4294967295 (l.set i y) = nextN 4294967295 l := xor_cancel (by omega : nextN 4294967295 (l.set i y) ^^^ 4294967295 = nextN 4294967295 l ^^^ 4294967295)
  have e1 : l.set i y = l.take i ++ y :: l.drop (i + 1) := List.set_eq_take_append_cons_drop.trans (if_pos hi)
  have e2 : l = l.take i ++ l[i] :: l.drop (i + 1) := by
    conv => lhs; rw [← List.take_append_drop i l, List.drop_eq_getElem_cons hi]
  have e3 : ∀ z : UInt8, nextN 4294967295 (l.take i ++ z :: l.drop (i + 1)) = nextN (stepsN 8 (nextN 4294967295 (l.take i) ^^^ z.toNat)) (l.drop (i + 1)) := by
    intro z; unfold nextN; rw [List.foldl_append]; rfl
  rw [e1, e3] at h1
  conv at h1 => rhs; rw [e2, e3]
  have hA := nextN_lt (l.take i) 4294967295 (by omega)
  have hx : ∀ z : UInt8, nextN 4294967295 (l.take i) ^^^ z.toNat < 4294967296 := by
    intro z
    have hz := z.toNat_lt
    have : nextN 4294967295 (l.take i) ^^^ z.toNat < 2 ^ 32 := Nat.xor_lt_two_pow (by omega) (by omega)
    omega
  have h2 := stepsN_inj 8 _ _ (hx _) (hx _) (nextN_inj _ _ _ (stepsN_lt _ _ (hx _)) (stepsN_lt _ _ (hx _)) h1)
  rw [Nat.xor_comm _ y.toNat, Nat.xor_comm _ (l[i]).toNat] at h2
  exact hy (UInt8.toNat_inj.1 (xor_cancel h2))
end Go.Proofs.YtkmhmehofipehaaDoor
/- Contracts of the sums: the table's Next and Sum, the reference's. -/
namespace Go.Proofs.YtkmhmehofipehaaDoor
set_option linter.unusedVariables false
open Go.RowKit
set_option maxHeartbeats 400000 in
theorem feed_any (g : Nat) (x : Int) (b : UInt8) (w : World) (ht : Tab w g) (h0 : 0 ≤ x) (h1 : x < 4294967296) :
    Calls Tryd.prog 106 #[.pointer (some ⟨g, 0, none⟩), .int .u32 x, .int .u8 (b.toNat : Int)] w fun e w' => e = .returned (.int .u32 (byteI x b)) ∧ w = w' := by
  have hx := xor8_range (x % 256) b.toNat (by omega) (by omega) (by omega) (byte_lt b)
  have hf := hid (feedI x b h0 h1)
  generalize hy : bits .xor .u8 (x % 256) (b.toNat : Int) = y at hx hf
  obtain ⟨Y, rfl⟩ := Int.eq_ofNat_of_zero_le hx.1
  have hc := ht.cell Y (by omega)
  clear ht
  go_enter Tryd.func106, Tryd.ntmps106
  go_wp2
  go_ret
  exact ⟨by rw [← hf.out]; rfl, rfl⟩
set_option maxHeartbeats 400000 in
theorem next_any (g : Nat) (s : Int) (A : Option Addr) (c : Nat) (l : List UInt8) (w : World) (ht : Tab w g) (h0 : 0 ≤ s) (h1 : s < 4294967296) (hl : SeesB w A l) (hlen : l.length ≤ 140737488355328) :
    Calls Tryd.prog 79 #[.pointer (some ⟨g, 0, none⟩), .int .u32 s, .slice A l.length c] w fun e w' => e = .returned (.int .u32 (nextI s l)) ∧ w = w' := by
  have hr := xor32_range s 4294967295 h0 h1 (by omega) (by omega)
  go_enter Tryd.func79, Tryd.ntmps79
  go_wp2
  go_loop [7, 16] (fun x i => ∃ k : Nat, k ≤ l.length ∧ i = .int .i64 k ∧ x = .int .u32 (bytesI (bits .xor .u32 s 4294967295) (l.take k))) (fun _ i => l.length - (intOf i).toNat)
  case atStart => exact ⟨0, by omega, rfl, rfl⟩
  case round =>
    obtain ⟨k, hk, rfl, rfl⟩ := hrel
    have hx := bytesI_range (l.take k) _ hr.1 hr.2
    by_cases hlt : k < l.length
    · obtain ⟨a, rfl, hc⟩ := hl.at hlt
      have hn := hid (bytesI_snoc (bits .xor .u32 s 4294967295) l k hlt)
      generalize hb : l[k] = b at hc hn
      go_wp2_with (go_at_call 106; refine (feed_any g _ b _ ht (by omega) (by omega)).mono ?_; rintro e w' ⟨rfl, rfl⟩)
      go_round
      case rel => exact ⟨k + 1, by omega, by go_num, by rw [hn.out]⟩
      case measure => simp [intOf]; omega
    · obtain rfl : k = l.length := by omega
      go_wp2
      go_ret
      exact ⟨by rw [nextI, ← List.take_length (l := l)]; rfl, rfl⟩
set_option maxHeartbeats 400000 in
theorem rstep_any (x : Int) (w : World) (h0 : 0 ≤ x) (h1 : x < 4294967296) :
    Calls Tryd.prog 108 #[.int .u32 x] w fun e w' => e = .returned (.int .u32 (stepI x)) ∧ w = w' := by
  by_cases h : x % 2 = 1
  · have h' : (x % 2 == 1) = true := beq_iff_eq.2 h
    go_enter Tryd.func108, Tryd.ntmps108
    go_wp2
    go_ret
    exact ⟨by rw [stepI, if_pos h]; rfl, rfl⟩
  · have h' : (x % 2 == 1) = false := beq_eq_false_iff_ne.2 h
    go_enter Tryd.func108, Tryd.ntmps108
    go_wp2
    go_ret
    exact ⟨by rw [stepI, if_neg h]; rfl, rfl⟩
set_option maxHeartbeats 400000 in
theorem eight_any (x : Int) (w : World) (h0 : 0 ≤ x) (h1 : x < 4294967296) :
    Calls Tryd.prog 91 #[.int .u32 x] w fun e w' => e = .returned (.int .u32 (stepsI 8 x)) ∧ w = w' := by
  go_enter Tryd.func91, Tryd.ntmps91
  go_wp2
  go_loop [0, 3] (fun y i => ∃ k : Nat, k ≤ 8 ∧ i = .int .i64 k ∧ y = .int .u32 (stepsI k x)) (fun _ i => 8 - (intOf i).toNat)
  case atStart => exact ⟨0, by omega, rfl, rfl⟩
  case round =>
    obtain ⟨k, hk, rfl, rfl⟩ := hrel
    have hx := stepsI_range k x h0 h1
    by_cases hlt : k < 8
    · go_wp2_with (go_at_call 108; refine (rstep_any _ _ (by omega) (by omega)).mono ?_; rintro e w' ⟨rfl, rfl⟩)
      go_round
      case rel => exact ⟨k + 1, by omega, by go_num, rfl⟩
      case measure => simp [intOf]; omega
    · obtain rfl : k = 8 := by omega
      go_wp2
      go_ret
      exact ⟨rfl, rfl⟩
set_option maxHeartbeats 400000 in
theorem rnext_any (s : Int) (A : Option Addr) (c : Nat) (l : List UInt8) (w : World) (h0 : 0 ≤ s) (h1 : s < 4294967296) (hl : SeesB w A l) (hlen : l.length ≤ 140737488355328) :
    Calls Tryd.prog 61 #[.int .u32 s, .slice A l.length c] w fun e w' => e = .returned (.int .u32 (nextI s l)) ∧ w = w' := by
  have hr := xor32_range s 4294967295 h0 h1 (by omega) (by omega)
  go_enter Tryd.func61, Tryd.ntmps61
  go_wp2
  go_loop [5, 6] (fun x i => ∃ k : Nat, k ≤ l.length ∧ i = .int .i64 k ∧ x = .int .u32 (bytesI (bits .xor .u32 s 4294967295) (l.take k))) (fun _ i => l.length - (intOf i).toNat)
  case atStart => exact ⟨0, by omega, rfl, rfl⟩
  case round =>
    obtain ⟨k, hk, rfl, rfl⟩ := hrel
    have hx := bytesI_range (l.take k) _ hr.1 hr.2
    by_cases hlt : k < l.length
    · obtain ⟨a, rfl, hc⟩ := hl.at hlt
      have hn := hid (bytesI_snoc (bits .xor .u32 s 4294967295) l k hlt)
      generalize hb : l[k] = b at hc hn
      have hbm : (b.toNat : Int) % 4294967296 = b.toNat := by have := byte_lt b; omega
      have hx2 := xor32_range _ (b.toNat : Int) hx.1 hx.2 (by omega) (by have := byte_lt b; omega)
      go_wp2_with (go_at_call 91; refine (eight_any _ _ (by omega) (by omega)).mono ?_; rintro e w' ⟨rfl, rfl⟩)
      go_round
      case rel => exact ⟨k + 1, by omega, by go_num, by rw [hn.out]; rfl⟩
      case measure => simp [intOf]; omega
    · obtain rfl : k = l.length := by omega
      go_wp2
      go_ret
      exact ⟨by rw [nextI, ← List.take_length (l := l)]; rfl, rfl⟩
set_option maxHeartbeats 400000 in
theorem rsum_any (A : Option Addr) (c : Nat) (l : List UInt8) (w : World) (hl : SeesB w A l) (hlen : l.length ≤ 140737488355328) :
    Calls Tryd.prog 35 #[.slice A l.length c] w fun e w' => e = .returned (.int .u32 (sumI l)) ∧ w = w' := by
  go_enter Tryd.func35, Tryd.ntmps35
  go_wp2_with (go_at_call 61; refine (rnext_any 0 _ _ _ _ (by omega) (by omega) hl hlen).mono ?_; rintro e w' ⟨rfl, rfl⟩)
  go_ret
  exact ⟨rfl, rfl⟩
set_option maxHeartbeats 400000 in
theorem sum_any (g : Nat) (A : Option Addr) (c : Nat) (l : List UInt8) (w : World) (ht : Tab w g) (hl : SeesB w A l) (hlen : l.length ≤ 140737488355328) :
    Calls Tryd.prog 48 #[.pointer (some ⟨g, 0, none⟩), .slice A l.length c] w fun e w' => e = .returned (.int .u32 (sumI l)) ∧ w = w' := by
  go_enter Tryd.func48, Tryd.ntmps48
  go_wp2_with (go_at_call 79; refine (next_any g 0 _ _ _ _ ht (by omega) (by omega) hl hlen).mono ?_; rintro e w' ⟨rfl, rfl⟩)
  go_ret
  exact ⟨rfl, rfl⟩
end Go.Proofs.YtkmhmehofipehaaDoor
/- A region that draws its order, with two operations (k, and m that waits for k) that turn the world from state 0 to 1 and to 2; each other operation yields one value in any state, and keeps it: all orders come to one end. -/
namespace Go.Proofs.YtkmhmehofipehaaDoor
set_option linter.unusedVariables false
open Go.RowKit
section
variable {P : Program} {ops : Array Oper} {md : Region.Mode} {S : Nat → World → Prop} {k m : Nat}
def HeldAt3 (P : Program) (ops : Array Oper) (S : Nat → World → Prop) (k m i : Nat) (o : Oper) (v : Value) (a : Act) : Prop :=
  (Region.wanted o (yielded ops a.tmps) = true ∧ (i ≠ k ∧ i ≠ m) ∧ ∀ b w, S b w → HeldUpon P (S b) v ((execOp a.eval o).run P w)) ∨
  (Region.wanted o (yielded ops a.tmps) = true ∧ i = k ∧ ∀ w, S 0 w → HeldUpon P (S 1) v ((execOp a.eval o).run P w)) ∨
  (Region.wanted o (yielded ops a.tmps) = true ∧ i = m ∧ ∀ w, S 1 w → HeldUpon P (S 2) v ((execOp a.eval o).run P w)) ∨
  (Region.wanted o (yielded ops a.tmps) = false ∧ (i ≠ k ∧ i ≠ m) ∧ v = undef)
def hOp3 (P : Program) (ops : Array Oper) (S : Nat → World → Prop) (k m i : Nat) (K : Act → Prop) (a : Act) : Prop :=
  match ops[i]? with
  | none => K a
  | some o => ∃ v, HeldAt3 P ops S k m i o v a ∧ K (a.put o.dst v)
theorem hOp3_mono {i : Nat} {a : Act} {K K' : Act → Prop} (h : ∀ a, K a → K' a) (hh : hOp3 P ops S k m i K a) : hOp3 P ops S k m i K' a := by
  unfold hOp3 at *
  split
  · exact h _ (by simpa [*] using hh)
  · rename_i o ho
    simp only [ho] at hh
    obtain ⟨v, h1, h2⟩ := hh
    exact ⟨v, h1, h _ h2⟩
theorem HeldAt3.of_same {i : Nat} {o : Oper} {v : Value} {a a' : Act} (hy : HeldAt3 P ops S k m i o v a) (he : execOp a'.eval o = execOp a.eval o)
    (hw : Region.wanted o (yielded ops a'.tmps) = Region.wanted o (yielded ops a.tmps)) : HeldAt3 P ops S k m i o v a' := by
  unfold HeldAt3 at *
  rw [he, hw]
  exact hy
theorem hOp3_put {i j : Nat} {oi oj : Oper} {v : Value} (hj : ops[j]? = some oj) (hap : oi.apart ops oj = true)
    (hsi : ∀ cs b, oi.op ≠ .select cs b) (hsj : ∀ cs b, oj.op ≠ .select cs b) {K : Act → Prop} {a : Act}
    (hy : HeldAt3 P ops S k m i oi v a) (h : hOp3 P ops S k m j K (a.put oi.dst v)) :
    hOp3 P ops S k m j (fun a' => HeldAt3 P ops S k m i oi v a' ∧ K (a'.put oi.dst v)) a := by
  obtain ⟨h1, h2, h3⟩ := Oper.apart_spec hap
  unfold hOp3 at *
  simp only [hj] at *
  obtain ⟨u, hu, hK⟩ := h
  refine ⟨u, ?_, ?_, ?_⟩
  · exact hu.of_same (execOp_put oj hsj a oi.dst v h1).symm (wanted_put oj a oi.dst v h1).symm
  · exact hy.of_same (execOp_put oi hsi a oj.dst u h3) (wanted_put oi a oj.dst u h3)
  · rw [← Act.put_comm a v u h2]; exact hK
def wpAnyT3 (P : Program) (md : Region.Mode) (ops : Array Oper) (S : Nat → World → Prop) (k m : Nat) (Q : Act → Prop) : Nat → Array Bool → Act → Prop
  | 0, listed, a => Region.ready md ops listed = [] ∧ (listed.getD k true = true ∧ listed.getD m true = true) ∧ Q a
  | fuel + 1, listed, a =>
    (Region.ready md ops listed = [] → (listed.getD k true = true ∧ listed.getD m true = true) ∧ Q a) ∧
    ∀ i ∈ Region.ready md ops listed, hOp3 P ops S k m i (wpAnyT3 P md ops S k m Q fuel (listed.setIfInBounds i true)) a
theorem wpAnyT3_first {Q : Act → Prop} {i : Nat} {oi : Oper} {v : Value} (hi : ops[i]? = some oi) (hsel : ∀ (j : Nat) (o : Oper) cs b, ops[j]? = some o → o.op ≠ .select cs b) :
    ∀ (fuel : Nat) (listed : Array Bool) (a : Act),
      (∀ j oj, ops[j]? = some oj → j ≠ i → listed.getD j true = false → (∀ e ∈ oj.after, Region.binds md e = true → e.on ≠ i) → oi.apart ops oj = true) →
      i ∈ Region.ready md ops listed → HeldAt3 P ops S k m i oi v a →
      wpAnyT3 P md ops S k m Q fuel (listed.setIfInBounds i true) (a.put oi.dst v) → wpAnyT3 P md ops S k m Q (fuel + 1) listed a := by
  intro fuel
  induction fuel with
  | zero =>
    intro listed a _ hr hy H
    refine ⟨fun h => (by rw [h] at hr; cases hr), fun j hj => ?_⟩
    by_cases hji : j = i
    · subst hji; unfold hOp3; simp only [hi]; exact ⟨v, hy, H⟩
    · have := ready_mono hj hji
      rw [H.1] at this
      cases this
  | succ fuel ih =>
    intro listed a hfree hr hy H
    refine ⟨fun h => (by rw [h] at hr; cases hr), fun j hj => ?_⟩
    by_cases hji : j = i
    · subst hji; unfold hOp3; simp only [hi]; exact ⟨v, hy, H⟩
    · have h1 := H.2 j (ready_mono hj hji)
      obtain ⟨hjun, oj, hoj, hall⟩ := mem_ready.1 hj
      have hnot : ∀ e ∈ oj.after, Region.binds md e = true → e.on ≠ i := fun e he hb heq => by
        have h1 := hall e he hb
        have h0 := (mem_ready.1 hr).1
        rw [heq] at h1
        rcases Nat.lt_or_ge i listed.size with h' | h'
        · simp [h'] at h0 h1; rw [h0] at h1; cases h1
        · simp [Array.getElem?_eq_none h'] at h1
      have h2 := hOp3_put hoj (hfree j oj hoj hji hjun hnot) (fun cs b => hsel i oi cs b hi) (fun cs b => hsel j oj cs b hoj) hy h1
      have hfree' : ∀ n ok, ops[n]? = some ok → n ≠ i → (listed.setIfInBounds j true).getD n true = false →
          (∀ e ∈ ok.after, Region.binds md e = true → e.on ≠ i) → oi.apart ops ok = true := fun n ok hk hki hun hno => by
        refine hfree n ok hk hki ?_ hno
        by_cases hjk : j = n
        · subst hjk; exact hjun
        · rw [getD_set_ne true hjk] at hun; exact hun
      refine hOp3_mono (fun a' h3 => ih (listed.setIfInBounds j true) a' hfree' (ready_mono hr (Ne.symm hji)) h3.1 ?_) h2
      rw [Array.setIfInBounds_comm _ _ hji]
      exact h3.2
/-- the operations, one by one, in the order of the text -/
def wpHeld3 (P : Program) (ops : Array Oper) (S : Nat → World → Prop) (k m : Nat) (Q : Act → Prop) : Nat → List Oper → Act → Prop
  | _, [], a => Q a
  | i, o :: rest, a => ∃ v, HeldAt3 P ops S k m i o v a ∧ wpHeld3 P ops S k m Q (i + 1) rest (a.put o.dst v)
theorem wpAnyT3_lex {Q : Act → Prop} (hs : Region.noSelect ops = true) : ∀ (l : List Oper) (c : Nat) (listed : Array Bool) (a : Act), (∀ j, l[j]? = ops[c + j]?) → listed.size = ops.size → (∀ j, j < c → listed.getD j true = true) →
    Region.lexFrom md ops l.length c listed = true → wpHeld3 P ops S k m Q c l a → wpAnyT3 P md ops S k m Q l.length listed a
  | [], c, listed, a, hl, hsz, hd, hB, h => ⟨by simpa [Region.lexFrom] using hB, by
      have hc : ops.size ≤ c := by have := hl 0; simpa using this
      have key : ∀ x, listed.getD x true = true := fun x => by
        rcases Nat.lt_or_ge x c with h1 | h1
        · exact hd x h1
        · have h2 : listed.size ≤ x := by omega
          simp [Array.getElem?_eq_none h2]
      exact ⟨key k, key m⟩, h⟩
  | o :: l, c, listed, a, hl, hsz, hd, hB, h => by
    have h0 : ops[c]? = some o := by simpa using (hl 0).symm
    simp only [List.length_cons, Region.lexFrom, Bool.and_eq_true] at hB
    obtain ⟨⟨hr, hf⟩, hB'⟩ := hB
    obtain ⟨v, hy, hK⟩ := h
    refine wpAnyT3_first h0 (Region.noSelect_spec hs) l.length listed a (Region.free_spec h0 hf) (by simpa using hr) hy
      (wpAnyT3_lex hs l (c + 1) _ _ (fun j => by have := hl (j + 1); simpa [Nat.add_assoc, Nat.add_comm 1 j] using this) (by simpa using hsz) (fun j hj => ?_) hB' hK)
    by_cases hjc : c = j
    · subst hjc; exact getD_set_self _ _
    · rw [getD_set_ne true hjc]; exact hd j (by omega)
def stOf (k m : Nat) (listed : Array Bool) : Nat := if listed.getD m true = true then 2 else if listed.getD k true = true then 1 else 0
theorem wpOp_of_hOp3 {i : Nat} {a : Act} {w : World} {b b' : Nat} {K : Act → Prop} {K' : Act → World → Prop} {Q' : Exit → Act → World → Prop} (hi : (i ≠ k ∧ i ≠ m → b' = b) ∧ (i = k → b = 0 ∧ b' = 1) ∧ (i = m → b = 1 ∧ b' = 2)) (hw : S b w) (h : ∀ a w, S b' w → K a → K' a w) (hh : hOp3 P ops S k m i K a) (hin : i < ops.size) : wpOp P ops Q' i K' a w := by
  unfold hOp3 at hh
  unfold wpOp
  split
  · rename_i ho; rw [Array.getElem?_eq_none_iff] at ho; omega
  · rename_i o ho
    simp only [ho] at hh
    obtain ⟨v, hy, hK⟩ := hh
    have fin : ∀ r : Result Next, HeldUpon P (S b') v r → Oper.upon P o a K' Q' r := fun r hr => by
      cases r with
      | ok n w' =>
        cases n <;> simp only [HeldUpon] at hr <;> simp only [Oper.upon]
        case value u => obtain ⟨rfl, hs⟩ := hr; exact h _ _ hs hK
        case skip => obtain ⟨rfl, hs⟩ := hr; exact h _ _ hs hK
        case enter f args => exact hr.mono fun e w'' ⟨he, hs⟩ => by subst he; exact h _ _ hs hK
      | halt x w' => simp only [HeldUpon] at hr
    rcases hy with ⟨hwt, hne, hy⟩ | ⟨hwt, heq, hy⟩ | ⟨hwt, heq, hy⟩ | ⟨hwt, hne, rfl⟩
    · rw [if_pos hwt]
      obtain rfl := hi.1 hne
      exact .inl (fin _ (hy _ w hw))
    · rw [if_pos hwt]
      obtain ⟨rfl, rfl⟩ := hi.2.1 heq
      exact .inl (fin _ (hy w hw))
    · rw [if_pos hwt]
      obtain ⟨rfl, rfl⟩ := hi.2.2 heq
      exact .inl (fin _ (hy w hw))
    · rw [if_neg (by rw [hwt]; simp)]
      obtain rfl := hi.1 hne
      exact h _ _ hw hK
theorem wpAny_of_held3 {Q : Act → Prop} {Q' : Exit → Act → World → Prop} (hkm : k ≠ m) (hms : m < ops.size) (hed : ∀ o, ops[m]? = some o → o.after.any (fun e => Region.binds md e && e.on == k) = true) (hQ : ∀ a w, S 2 w → Q a → Q' .normal a w) : ∀ (fuel : Nat) (listed : Array Bool) (a : Act) (w : World), listed.size = ops.size → (listed.getD k true = false → listed.getD m true = false) → S (stOf k m listed) w →
    wpAnyT3 P md ops S k m Q fuel listed a → wpAny P md ops Q' fuel listed a w
  | 0, _, _, _, _, _, hw, h => ⟨h.1, hQ _ _ (by unfold stOf at hw; rw [if_pos h.2.1.2] at hw; exact hw) h.2.2⟩
  | fuel + 1, listed, _, _, hsz, hord, hw, h => ⟨fun h0 => hQ _ _ (by unfold stOf at hw; rw [if_pos (h.1 h0).1.2] at hw; exact hw) (h.1 h0).2, fun i hi => by
      obtain ⟨hun, oi, hoi, hall⟩ := mem_ready.1 hi
      have hkfirst : i = m → listed.getD k true = true := fun him => by
        subst him
        obtain ⟨e, he, hb⟩ := Array.any_eq_true'.1 (hed oi hoi)
        simp only [Bool.and_eq_true, beq_iff_eq] at hb
        have h1 := hall e he hb.1
        rw [hb.2] at h1
        rcases Nat.lt_or_ge k listed.size with h' | h'
        · simpa [h'] using h1
        · simp [Array.getElem?_eq_none h']
      refine wpOp_of_hOp3 (b := stOf k m listed) (b' := stOf k m (listed.setIfInBounds i true)) ⟨fun hne => ?_, fun heq => ?_, fun heq => ?_⟩ hw (fun a' w' hw' => wpAny_of_held3 hkm hms hed hQ fuel _ a' w' (by simpa using hsz) ?_ hw') (h.2 i hi) (Array.getElem?_eq_some_iff.1 hoi).1
      · unfold stOf; rw [getD_set_ne true hne.1, getD_set_ne true hne.2]
      · subst heq
        unfold stOf
        rw [getD_set_self, getD_set_ne true hkm, hord hun, hun]; simp
      · subst heq
        unfold stOf
        rw [getD_set_self, hun, hkfirst rfl]; simp
      · intro hk
        by_cases hik : i = k
        · subst hik; rw [getD_set_self] at hk; cases hk
        · rw [getD_set_ne true hik] at hk
          by_cases him : i = m
          · rw [hkfirst him] at hk; cases hk
          · rw [getD_set_ne true him]; exact hord hk⟩
theorem wp_region_held3 {id : Nat} {Q : Exit → Act → World → Prop} {a : Act} {w : World} {l : List Oper} (S : Nat → World → Prop) (k m : Nat) (hk : k < l.length) (hml : m < l.length) (hkm : k ≠ m) (hm : P.follows .mixedOrders = true) (hB : Region.lexB .any l.toArray = true)
    (hed : (l[m]?.map fun o => o.after.any (fun e => Region.binds .any e && e.on == k)) = some true)
    (hS : S 0 { w with drawn := w.drawn + 1 }) (h : wpHeld3 P l.toArray S k m (fun a' => ∀ w', S 2 w' → Q .normal a' w') 0 l a) : (Code.region id l.toArray true).wp P Q a w := by
  simp only [Region.lexB, Bool.and_eq_true] at hB
  have hfk : (Array.replicate l.toArray.size false).getD k true = false := by simp [hk]
  have hfm : (Array.replicate l.toArray.size false).getD m true = false := by simp [hml]
  refine wp_region_any hm (wpAny_of_held3 (S := S) (k := k) (m := m) (Q := fun a' => ∀ w', S 2 w' → Q .normal a' w') hkm (by simpa using hml) (fun o ho => ?_) (fun a' w' hw' h => h w' hw') _ _ _ _ (by simp) (fun _ => hfm) ?_ ?_)
  · have ho' : l[m]? = some o := by simpa using ho
    rw [ho'] at hed
    simpa using hed
  · unfold stOf
    rw [hfm, hfk]
    simpa using hS
  have := wpAnyT3_lex (P := P) (S := S) (k := k) (m := m) (Q := fun a' => ∀ w', S 2 w' → Q .normal a' w') (md := .any) hB.1 l 0 (Array.replicate l.toArray.size false) a (by simp) (by simp) (fun j hj => by omega) (by simpa using hB.2) h
  simpa using this
theorem held3_yes {Q : Act → Prop} {i : Nat} {o : Oper} {rest : List Oper} {a : Act} {v : Value} (hw : Region.wanted o (yielded ops a.tmps) = true) (hne : i ≠ k ∧ i ≠ m) (h : ∀ b w, S b w → HeldUpon P (S b) v ((execOp a.eval o).run P w)) (c : wpHeld3 P ops S k m Q (i + 1) rest (a.put o.dst v)) : wpHeld3 P ops S k m Q i (o :: rest) a :=
  ⟨v, .inl ⟨hw, hne, h⟩, c⟩
theorem held3_at {Q : Act → Prop} {i : Nat} {o : Oper} {rest : List Oper} {a : Act} {v : Value} (hw : Region.wanted o (yielded ops a.tmps) = true) (heq : i = k) (h : ∀ w, S 0 w → HeldUpon P (S 1) v ((execOp a.eval o).run P w)) (c : wpHeld3 P ops S k m Q (i + 1) rest (a.put o.dst v)) : wpHeld3 P ops S k m Q i (o :: rest) a :=
  ⟨v, .inr (.inl ⟨hw, heq, h⟩), c⟩
theorem held3_at2 {Q : Act → Prop} {i : Nat} {o : Oper} {rest : List Oper} {a : Act} {v : Value} (hw : Region.wanted o (yielded ops a.tmps) = true) (heq : i = m) (h : ∀ w, S 1 w → HeldUpon P (S 2) v ((execOp a.eval o).run P w)) (c : wpHeld3 P ops S k m Q (i + 1) rest (a.put o.dst v)) : wpHeld3 P ops S k m Q i (o :: rest) a :=
  ⟨v, .inr (.inr (.inl ⟨hw, heq, h⟩)), c⟩
theorem held3_no {Q : Act → Prop} {i : Nat} {o : Oper} {rest : List Oper} {a : Act} (hw : Region.wanted o (yielded ops a.tmps) = false) (hne : i ≠ k ∧ i ≠ m) (c : wpHeld3 P ops S k m Q (i + 1) rest (a.put o.dst undef)) : wpHeld3 P ops S k m Q i (o :: rest) a :=
  ⟨undef, .inr (.inr (.inr ⟨hw, hne, rfl⟩)), c⟩
theorem held3_nil {Q : Act → Prop} {i : Nat} {a : Act} (h : Q a) : wpHeld3 P ops S k m Q i [] a := h
end
end Go.Proofs.YtkmhmehofipehaaDoor
/- A head read: the program's Get. -/
namespace Go.Proofs.YtkmhmehofipehaaDoor
set_option linter.unusedVariables false
open Go.RowKit
/-- a head's values -/
structure HeadV where
  k : Int
  idx : Int
  len : Int
  stp : Int
  bnd : Int
  lst : Bool
  lnk : Int
  siz : Int
def HeadV.cells (h : HeadV) : Array Value := #[.int .i64 h.k, .int .i64 h.idx, .int .i64 h.len, .int .i64 h.stp, .int .i64 h.bnd, .bool h.lst, .int .u32 h.lnk, .int .i64 h.siz]
def HeadV.zero : HeadV := ⟨0, 0, 0, 0, 0, false, 0, 0⟩
/-- the head that bytes of enough length say -/
def saidH (l : List UInt8) : HeadV := ⟨(fldH l 2 1 : Nat), (fldH l 4 4 : Nat), (fldH l 8 4 : Nat), (fldH l 12 4 : Nat), (fldH l 16 4 : Nat), fldH l 3 1 == 1, (fldH l 20 4 : Nat), (fldH l 24 4 : Nat)⟩
def getH (l : List UInt8) : Int × HeadV :=
  if startsH l = false then (30, HeadV.zero) else if l.length < 32 then (10, HeadV.zero) else if sumI (l.take 28) ≠ (fldH l 28 4 : Int) then (33, HeadV.zero)
  else if okH l = false then (32, HeadV.zero) else (0, saidH l)
def GetHPost (w : World) (r : Int × HeadV) (e : Ending) (w' : World) : Prop :=
  e = .returned (.tuple #[.agg r.2.cells, .int .i64 r.1]) ∧ Below w.heap.size w w'
set_option maxHeartbeats 2000000 in
theorem hget_sync (t : Nat) (A : Option Addr) (c : Nat) (l : List UInt8) (w : World) (hl : SeesB w A l) (hs : startsH l = false) :
    Calls Tryd.prog 67 #[.pointer (some ⟨t, 0, none⟩), .slice A l.length c] w (GetHPost w (30, HeadV.zero)) := by
  have hb : Below w.heap.size w (w.alloc (.cells #[.int .i64 0, .int .i64 0, .int .i64 0, .int .i64 0, .int .i64 0, .bool false, .int .u32 0, .int .i64 0] 52)) := (Below.refl _ w).alloc (Nat.le_refl _) _
  have hrow := heap_alloc_new w (.cells #[.int .i64 0, .int .i64 0, .int .i64 0, .int .i64 0, .int .i64 0, .bool false, .int .u32 0, .int .i64 0] 52)
  go_enter Tryd.func67, Tryd.ntmps67
  go_wp2_with fail
  generalize w.alloc (.cells #[.int .i64 0, .int .i64 0, .int .i64 0, .int .i64 0, .int .i64 0, .bool false, .int .u32 0, .int .i64 0] 52) = w0 at *
  have hlt0 : w.heap.size < w0.heap.size := (Array.getElem?_eq_some_iff.1 hrow).1
  refine (hstarts_any A c l w0 (hl.below hb)).mono ?_
  rintro e w1 ⟨rfl, rfl⟩
  rw [hs]
  go_wp2_with first | (refine wpList_store_row rfl 52 (.tmp 4) (.tmp 16) rfl rfl w.heap.size rfl #[.int .i64 0, .int .i64 0, .int .i64 0, .int .i64 0, .int .i64 0, .bool false, .int .u32 0, .int .i64 0] rfl 52 #[.int .i64 0, .int .i64 0, .int .i64 0, .int .i64 0, .int .i64 0, .bool false, .int .u32 0, .int .i64 0] hrow (by kernel_rfl) rfl (by simp [Value.oneCell']) ?_)
  exact bodyPost_ret (v := .tuple #[.agg #[.int .i64 0, .int .i64 0, .int .i64 0, .int .i64 0, .int .i64 0, .bool false, .int .u32 0, .int .i64 0], .int .i64 30]) (results_row_tmp (fn := Tryd.f67) (p := 4) (u := 5) (ty := 52) rfl _ _ w.heap.size _ _ _ _ rfl (setRow_heap _ _ _ _ _ _ hrow) Tryd.underlying52 rfl (by kernel_rfl)) rfl ⟨rfl, below_setRow hb (Nat.le_refl _) _⟩
set_option maxHeartbeats 2000000 in
theorem hget_end (t : Nat) (A : Option Addr) (c : Nat) (l : List UInt8) (w : World) (hl : SeesB w A l) (hs : startsH l = true) (hn : l.length < 32) :
    Calls Tryd.prog 67 #[.pointer (some ⟨t, 0, none⟩), .slice A l.length c] w (GetHPost w (10, HeadV.zero)) := by
  have d1 : decide ((l.length : Int) < 32) = true := by simp; omega
  have hb : Below w.heap.size w (w.alloc (.cells #[.int .i64 0, .int .i64 0, .int .i64 0, .int .i64 0, .int .i64 0, .bool false, .int .u32 0, .int .i64 0] 52)) := (Below.refl _ w).alloc (Nat.le_refl _) _
  have hrow := heap_alloc_new w (.cells #[.int .i64 0, .int .i64 0, .int .i64 0, .int .i64 0, .int .i64 0, .bool false, .int .u32 0, .int .i64 0] 52)
  go_enter Tryd.func67, Tryd.ntmps67
  go_wp2_with fail
  generalize w.alloc (.cells #[.int .i64 0, .int .i64 0, .int .i64 0, .int .i64 0, .int .i64 0, .bool false, .int .u32 0, .int .i64 0] 52) = w0 at *
  have hlt0 : w.heap.size < w0.heap.size := (Array.getElem?_eq_some_iff.1 hrow).1
  refine (hstarts_any A c l w0 (hl.below hb)).mono ?_
  rintro e w1 ⟨rfl, rfl⟩
  rw [hs]
  go_wp2_with first | (refine wpList_store_row rfl 52 (.tmp 4) (.tmp 21) rfl rfl w.heap.size rfl #[.int .i64 0, .int .i64 0, .int .i64 0, .int .i64 0, .int .i64 0, .bool false, .int .u32 0, .int .i64 0] rfl 52 #[.int .i64 0, .int .i64 0, .int .i64 0, .int .i64 0, .int .i64 0, .bool false, .int .u32 0, .int .i64 0] hrow (by kernel_rfl) rfl (by simp [Value.oneCell']) ?_)
  exact bodyPost_ret (v := .tuple #[.agg #[.int .i64 0, .int .i64 0, .int .i64 0, .int .i64 0, .int .i64 0, .bool false, .int .u32 0, .int .i64 0], .int .i64 10]) (results_row_tmp (fn := Tryd.f67) (p := 4) (u := 5) (ty := 52) rfl _ _ w.heap.size _ _ _ _ rfl (setRow_heap _ _ _ _ _ _ hrow) Tryd.underlying52 rfl (by kernel_rfl)) rfl ⟨rfl, below_setRow hb (Nat.le_refl _) _⟩
set_option maxHeartbeats 4000000 in
theorem hget_long (t : Nat) (A : Option Addr) (c : Nat) (l : List UInt8) (w : World) (ht : Tab w t) (hl : SeesB w A l) (hc : l.length ≤ c) (hcm : c ≤ maxLen) (hlen : l.length ≤ 140737488355328) (hs : startsH l = true) (hn : 32 ≤ l.length) :
    Calls Tryd.prog 67 #[.pointer (some ⟨t, 0, none⟩), .slice A l.length c] w (GetHPost w (getH l)) := by
  have d1 : decide ((l.length : Int) < 32) = false := by simp; omega
  obtain ⟨R, hR⟩ : ∃ R, R = getH l := ⟨_, rfl⟩
  rw [← hR]
  have HR := hid hR
  clear hR
  obtain ⟨a, rfl, _⟩ := hl.at (show 0 < l.length by omega)
  have g1 : (28 : Int) ≤ c := by omega
  have g2 : ¬ c = 28 := by omega
  have g3 : (28 : Int) ≤ l.length := by omega
  have g4 : (l.length : Int) ≤ c := by omega
  have h28 : (l.take 28).length = 28 := by rw [List.length_take]; omega
  have hsr := sumI_range (l.take 28)
  obtain ⟨S, hS⟩ := Int.eq_ofNat_of_zero_le hsr.1
  have hsum := fun W (ht : Tab W t) (hl : SeesB W (some a) (l.take 28)) => sum_any t (some a) c (l.take 28) W ht hl (by omega)
  rw [h28, hS] at hsum
  rw [hS] at hsr
  have hS4 : S < 4294967296 := by omega
  have HSUM := hid hsum
  have HS := hid hS
  have hdl : (l.drop 28).length = l.length - 28 := by simp
  have htk := fun W (h : SeesB W (some (a.add 28)) (l.drop 28)) => take_any (some (a.add 28)) (c - 28) (l.drop 28) W h (by omega)
  rw [hdl] at htk
  have HTK := hid htk
  have hu := fun g W (hT : Tk W g 0 0 (l.drop 28)) => takerU_any g 0 0 4 (l.drop 28) W hT (by omega)
  rw [show takeU (0, 0) (l.drop 28) 4 = ((0, 4), ((l.drop 28).drop 0).take 4) from takeU_at 0 4 (l.drop 28) (by omega) (by omega)] at hu
  unfold UPost at hu
  rw [show valLE (((l.drop 28).drop 0).take 4) = fldH l 28 4 from rfl] at hu
  have v5 := fldH_lt l 28 4
  obtain ⟨su, hsu⟩ : ∃ y, y = fldH l 28 4 := ⟨_, rfl⟩
  rw [← hsu] at v5 hu
  have HSU := hid hsu
  have HU := hid hu
  clear hu hsu hsum hS hsr h28 hdl htk
  have hb : Below w.heap.size w (w.alloc (.cells #[.int .i64 0, .int .i64 0, .int .i64 0, .int .i64 0, .int .i64 0, .bool false, .int .u32 0, .int .i64 0] 52)) := (Below.refl _ w).alloc (Nat.le_refl _) _
  have hrow := heap_alloc_new w (.cells #[.int .i64 0, .int .i64 0, .int .i64 0, .int .i64 0, .int .i64 0, .bool false, .int .u32 0, .int .i64 0] 52)
  go_enter Tryd.func67, Tryd.ntmps67
  go_wp2_with fail
  generalize w.alloc (.cells #[.int .i64 0, .int .i64 0, .int .i64 0, .int .i64 0, .int .i64 0, .bool false, .int .u32 0, .int .i64 0] 52) = w0 at *
  have hlt0 : w.heap.size < w0.heap.size := (Array.getElem?_eq_some_iff.1 hrow).1
  refine (hstarts_any (some a) c l w0 (hl.below hb)).mono ?_
  rintro e w1 ⟨rfl, rfl⟩
  rw [hs]
  have hlw := hl.below hb
  have htw := ht.keep hb ht.lt
  have hl28 : SeesB w0 (some a) (l.take 28) := by unfold SeesB; rw [List.map_take]; exact Sees.take hlw 28
  have hdr : SeesB w0 (some (a.add 28)) (l.drop 28) := by have := hlw.cutTo 28 (l.length - 28); rwa [List.take_of_length_le (by simp)] at this
  go_wp2_with fail
  have htd : Tab w0.drew t := htw
  have hld : SeesB w0.drew (some a) (l.take 28) := hl28
  have hdd : SeesB w0.drew (some (a.add 28)) (l.drop 28) := hdr
  go_region_held3 (fun w' => True) (trivial) (first | (go_at_call 48; refine (HSUM.out _ ?_ ?_).mono ?_; exact htd; exact hld; rintro e wa ⟨rfl, rfl⟩) | (go_at_call 68; refine (HTK.out _ ?_).mono ?_; exact hdd; rintro e w2 ⟨g, rfl, hg, hT, hb2⟩) | (go_at_call 69; refine (HU.out g _ ?_).mono ?_; exact hT; rintro e w3 ⟨rfl, hT3, hB3⟩))
  have hb2' := undrew hb2
  have hbw2 := hb.trans (hb2'.mono hb.size)
  have hrow2 := (hb2'.block w.heap.size hlt0).trans hrow
  have hgw : w.heap.size < g := Nat.lt_of_lt_of_le hlt0 hg
  have hlt2 := Nat.lt_of_lt_of_le hlt0 hb2'.size
  have hbw3 := But.below hbw2 hB3 (fun b h => by have h2 : b = g := h; omega) hbw2.size
  have hrow3 := (hB3.block w.heap.size hlt2 (fun h => by have h2 : w.heap.size = g := h; omega)).trans hrow2
  have hlt3 := Nat.lt_of_lt_of_le hlt2 hB3.size
  have hl3 := hl.below hbw3
  have HST := hid hs
  clear htd hld hdd hb2 hb2' hbw2 hrow2 hlt2 hT hT3 hB3 hg hgw hdr hl28 htw hlw hrow hb hlt0 HSUM HTK HU hs ht hl
  by_cases heq : S = su
  · have dd : ((S : Int) != (su : Int)) = false := by rw [heq]; simp
    have dd2 : (IntKind.u64.wrap (S : Int) != (su : Int)) = false := by
      rw [show IntKind.u64.wrap (S : Int) = (S : Int) by rw [IntKind.wrap_u64]; omega]; exact dd
    have HEQ := hid heq
    have HTAKE := hid (htake_any (some a) c l w3 hl3 hn hlen)
    clear heq
    go_wp2_with fail
    refine HTAKE.out.mono ?_
    rintro e w4 ⟨rfl, hb4⟩
    have hbw4 := hbw3.trans (hb4.mono hbw3.size)
    have hrow4 := (hb4.block w.heap.size hlt3).trans hrow3
    have hlt4 := Nat.lt_of_lt_of_le hlt3 hb4.size
    have hb5 : Below w4.heap.size w4 (w4.alloc (.cells (saidH l).cells 52)) := (Below.refl _ _).alloc (Nat.le_refl _) _
    have hr5 := heap_alloc_new w4 (.cells (saidH l).cells 52)
    have hbw5 := hbw4.trans (hb5.mono hbw4.size)
    have hrow5 := (hb5.block w.heap.size hlt4).trans hrow4
    have hmid : Hid (∀ b, okH l = b → R = if b = false then (32, HeadV.zero) else (0, saidH l)) := hid (fun b hb => by
      rw [HR.out]
      unfold getH
      rw [if_neg (by rw [HST.out]; simp), if_neg (by omega), if_neg (by rw [HS.out, HEQ.out, HSU.out]; simp), hb])
    unfold saidH at hmid
    unfold saidH HeadV.cells at hb5 hr5 hbw5 hrow5
    simp only at hb5 hr5 hbw5 hrow5
    generalize fldH l 2 1 = f0 at *
    generalize fldH l 4 4 = f1 at *
    generalize fldH l 8 4 = f2 at *
    generalize fldH l 12 4 = f3 at *
    generalize fldH l 16 4 = f4 at *
    generalize (fldH l 3 1 == 1) = f5 at *
    generalize fldH l 20 4 = f6 at *
    generalize fldH l 24 4 = f7 at *
    clear hb4 hb5 hbw3 hbw4 hrow3 hrow4 hl3 HTAKE
    cases hok : okH l with
    | false =>
      obtain rfl : R = (32, HeadV.zero) := by rw [hmid.out false hok, if_pos rfl]
      clear hok hmid HR
      go_wp2_with first | (refine wpList_store_row rfl 52 (.tmp 4) (.tmp 41) rfl rfl w.heap.size rfl #[.int .i64 0, .int .i64 0, .int .i64 0, .int .i64 0, .int .i64 0, .bool false, .int .u32 0, .int .i64 0] rfl 52 #[.int .i64 0, .int .i64 0, .int .i64 0, .int .i64 0, .int .i64 0, .bool false, .int .u32 0, .int .i64 0] hrow5 (by kernel_rfl) rfl (by simp [Value.oneCell']) ?_)
      exact bodyPost_ret (v := .tuple #[.agg #[.int .i64 0, .int .i64 0, .int .i64 0, .int .i64 0, .int .i64 0, .bool false, .int .u32 0, .int .i64 0], .int .i64 32]) (results_row_tmp (fn := Tryd.f67) (p := 4) (u := 5) (ty := 52) rfl _ _ w.heap.size _ _ _ _ rfl (setRow_heap _ _ _ _ _ _ hrow5) Tryd.underlying52 rfl (by kernel_rfl)) rfl ⟨rfl, below_setRow hbw5 (Nat.le_refl _) _⟩
    | true =>
      obtain rfl := by have := hmid.out true hok; rwa [if_neg (by simp)] at this
      clear hok hmid HR
      go_wp2_with first | (refine wpList_load_row rfl 52 _ rfl w4.heap.size rfl 52 #[.int .i64 (f0 : Nat), .int .i64 (f1 : Nat), .int .i64 (f2 : Nat), .int .i64 (f3 : Nat), .int .i64 (f4 : Nat), .bool f5, .int .u32 (f6 : Nat), .int .i64 (f7 : Nat)] (0, 0) _ hr5 Tryd.underlying52 rfl (by kernel_rfl) ?_) | (refine wpList_store_row rfl 52 (.tmp 4) (.tmp 42) rfl rfl w.heap.size rfl #[.int .i64 (f0 : Nat), .int .i64 (f1 : Nat), .int .i64 (f2 : Nat), .int .i64 (f3 : Nat), .int .i64 (f4 : Nat), .bool f5, .int .u32 (f6 : Nat), .int .i64 (f7 : Nat)] rfl 52 #[.int .i64 0, .int .i64 0, .int .i64 0, .int .i64 0, .int .i64 0, .bool false, .int .u32 0, .int .i64 0] hrow5 (by kernel_rfl) rfl (by simp [Value.oneCell']) ?_)
      exact bodyPost_ret (v := .tuple #[.agg #[.int .i64 (f0 : Nat), .int .i64 (f1 : Nat), .int .i64 (f2 : Nat), .int .i64 (f3 : Nat), .int .i64 (f4 : Nat), .bool f5, .int .u32 (f6 : Nat), .int .i64 (f7 : Nat)], .int .i64 0]) (results_row_tmp (fn := Tryd.f67) (p := 4) (u := 5) (ty := 52) rfl _ _ w.heap.size _ _ _ _ rfl (setRow_heap _ _ _ _ _ _ hrow5) Tryd.underlying52 rfl (by kernel_rfl)) rfl ⟨rfl, below_setRow hbw5 (Nat.le_refl _) _⟩
  · have dd : ((S : Int) != (su : Int)) = true := by simp; omega
    have dd2 : (IntKind.u64.wrap (S : Int) != (su : Int)) = true := by
      rw [show IntKind.u64.wrap (S : Int) = (S : Int) by rw [IntKind.wrap_u64]; omega]; exact dd
    obtain rfl : R = (33, HeadV.zero) := by
      rw [HR.out]; unfold getH
      rw [if_neg (by rw [HST.out]; simp), if_neg (by omega), if_pos (by rw [HS.out, ← HSU.out]; omega)]
    clear HR heq
    go_wp2_with first | (refine wpList_store_row rfl 52 (.tmp 4) (.tmp 33) rfl rfl w.heap.size rfl #[.int .i64 0, .int .i64 0, .int .i64 0, .int .i64 0, .int .i64 0, .bool false, .int .u32 0, .int .i64 0] rfl 52 #[.int .i64 0, .int .i64 0, .int .i64 0, .int .i64 0, .int .i64 0, .bool false, .int .u32 0, .int .i64 0] hrow3 (by kernel_rfl) rfl (by simp [Value.oneCell']) ?_)
    exact bodyPost_ret (v := .tuple #[.agg #[.int .i64 0, .int .i64 0, .int .i64 0, .int .i64 0, .int .i64 0, .bool false, .int .u32 0, .int .i64 0], .int .i64 33]) (results_row_tmp (fn := Tryd.f67) (p := 4) (u := 5) (ty := 52) rfl _ _ w.heap.size _ _ _ _ rfl (setRow_heap _ _ _ _ _ _ hrow3) Tryd.underlying52 rfl (by kernel_rfl)) rfl ⟨rfl, below_setRow hbw3 (Nat.le_refl _) _⟩
end Go.Proofs.YtkmhmehofipehaaDoor
/- Why a block may not be next: the program's and the reference's. -/
namespace Go.Proofs.YtkmhmehofipehaaDoor
set_option linter.unusedVariables false
open Go.RowKit
/-- an info's numbers -/
structure InfoV where
  k : Int
  ch : Int
  bi : Int
  ra : Int
  bl : Int
  sh : Int
def InfoV.v (i : InfoV) : Value := .agg #[.int .i64 i.k, .int .i64 i.ch, .int .i64 i.bi, .int .i64 i.ra, .int .i64 i.bl, .int .i64 i.sh]
def HeadV.v (h : HeadV) : Value := .agg #[.int .i64 h.k, .int .i64 h.idx, .int .i64 h.len, .int .i64 h.stp, .int .i64 h.bnd, .bool h.lst, .int .u32 h.lnk, .int .i64 h.siz]
def nextE (i : InfoV) (h : HeadV) (index : Int) (short : Bool) : Int :=
  if h.k ≠ i.k then 31 else if h.idx ≠ index then 35 else if short = true ∨ i.bl < h.len then 22 else if stepR h.stp i.bi = false then 32 else 0
set_option maxRecDepth 20000 in
set_option maxHeartbeats 4000000 in
theorem fnext_any (i : InfoV) (h : HeadV) (index : Int) (short : Bool) (w : World) (hbi : 8 ≤ i.bi ∧ i.bi ≤ 24) :
    Calls Tryd.prog 72 #[i.v, h.v, .int .i64 index, .bool short] w fun e w' => e = .returned (.int .i64 (nextE i h index short)) ∧ Below w.heap.size w w' := by
  obtain ⟨R, hR⟩ : ∃ R, R = nextE i h index short := ⟨_, rfl⟩
  rw [← hR]
  obtain ⟨ik, ich, ibi, ira, ibl, ish⟩ := i
  obtain ⟨hk, hidx, hlen, hstp, hbnd, hlst, hlnk, hsiz⟩ := h
  unfold InfoV.v HeadV.v
  unfold nextE at hR
  simp only at hR hbi ⊢
  have hb1 : Below w.heap.size w ((w.alloc (.cells #[.int .i64 ik, .int .i64 ich, .int .i64 ibi, .int .i64 ira, .int .i64 ibl, .int .i64 ish] 25)).alloc (.cells #[.int .i64 hk, .int .i64 hidx, .int .i64 hlen, .int .i64 hstp, .int .i64 hbnd, .bool hlst, .int .u32 hlnk, .int .i64 hsiz] 52)) := ((Below.refl _ w).alloc (Nat.le_refl _) _).alloc (by simp) _
  by_cases h1 : hk = ik
  case neg =>
    have d1 : (hk != ik) = true := by simpa using h1
    obtain rfl : R = 31 := by rw [hR, if_pos h1]
    clear hR h1
    go_enter Tryd.func72, Tryd.ntmps72
    go_wp2_with fail
    go_ret
    exact ⟨rfl, hb1⟩
  have d1 : (hk != ik) = false := by simpa using h1
  rw [if_neg (by rw [h1]; simp)] at hR
  clear h1
  by_cases h2 : hidx = index
  case neg =>
    have d2 : (hidx != index) = true := by simpa using h2
    obtain rfl : R = 35 := by rw [hR, if_pos h2]
    clear hR h2
    go_enter Tryd.func72, Tryd.ntmps72
    go_wp2_with fail
    go_ret
    exact ⟨rfl, hb1⟩
  have d2 : (hidx != index) = false := by simpa using h2
  rw [if_neg (by rw [h2]; simp)] at hR
  clear h2
  cases short with
  | true =>
    obtain rfl : R = 22 := by rw [hR, if_pos (.inl rfl)]
    clear hR
    go_enter Tryd.func72, Tryd.ntmps72
    go_wp2_with fail
    go_ret
    exact ⟨rfl, hb1⟩
  | false =>
    by_cases h3 : ibl < hlen
    · have d3 : decide (ibl < hlen) = true := decide_eq_true h3
      obtain rfl : R = 22 := by rw [hR, if_pos (.inr h3)]
      clear hR h3
      go_enter Tryd.func72, Tryd.ntmps72
      go_wp2_with fail
      go_ret
      exact ⟨rfl, hb1⟩
    have d3 : decide (ibl < hlen) = false := decide_eq_false h3
    rw [if_neg (by simp; omega)] at hR
    have hst := hid (fun W => stepq_any hstp ibi W)
    cases hs : stepR hstp ibi with
    | false =>
      rw [hs] at hst hR
      obtain rfl : R = 32 := by rw [hR, if_pos rfl]
      clear hR hs h3
      go_enter Tryd.func72, Tryd.ntmps72
      go_wp2_with fail
      refine (hst.out _).mono ?_
      rintro e w1 ⟨rfl, rfl⟩
      go_wp2_with fail
      go_ret
      exact ⟨rfl, hb1⟩
    | true =>
      rw [hs] at hst hR
      obtain rfl : R = 0 := by rw [hR, if_neg (by simp)]
      clear hR hs h3
      go_enter Tryd.func72, Tryd.ntmps72
      go_wp2_with fail
      refine (hst.out _).mono ?_
      rintro e w1 ⟨rfl, rfl⟩
      go_wp2_with fail
      go_ret
      exact ⟨rfl, hb1⟩
set_option maxRecDepth 20000 in
set_option maxHeartbeats 4000000 in
theorem rfnext_any (i : InfoV) (h : HeadV) (index : Int) (short : Bool) (w : World) (hbi : 8 ≤ i.bi ∧ i.bi ≤ 24) :
    Calls Tryd.prog 27 #[i.v, h.v, .int .i64 index, .bool short] w fun e w' => e = .returned (.int .i64 (nextE i h index short)) ∧ Below w.heap.size w w' := by
  obtain ⟨R, hR⟩ : ∃ R, R = nextE i h index short := ⟨_, rfl⟩
  rw [← hR]
  obtain ⟨ik, ich, ibi, ira, ibl, ish⟩ := i
  obtain ⟨hk, hidx, hlen, hstp, hbnd, hlst, hlnk, hsiz⟩ := h
  unfold InfoV.v HeadV.v
  unfold nextE at hR
  simp only at hR hbi ⊢
  have hb1 : Below w.heap.size w ((w.alloc (.cells #[.int .i64 ik, .int .i64 ich, .int .i64 ibi, .int .i64 ira, .int .i64 ibl, .int .i64 ish] 25)).alloc (.cells #[.int .i64 hk, .int .i64 hidx, .int .i64 hlen, .int .i64 hstp, .int .i64 hbnd, .bool hlst, .int .u32 hlnk, .int .i64 hsiz] 52)) := ((Below.refl _ w).alloc (Nat.le_refl _) _).alloc (by simp) _
  by_cases h1 : hk = ik
  case neg =>
    have d1 : (hk != ik) = true := by simpa using h1
    obtain rfl : R = 31 := by rw [hR, if_pos h1]
    clear hR h1
    go_enter Tryd.func27, Tryd.ntmps27
    go_wp2_with fail
    go_ret
    exact ⟨rfl, hb1⟩
  have d1 : (hk != ik) = false := by simpa using h1
  rw [if_neg (by rw [h1]; simp)] at hR
  clear h1
  by_cases h2 : hidx = index
  case neg =>
    have d2 : (hidx != index) = true := by simpa using h2
    obtain rfl : R = 35 := by rw [hR, if_pos h2]
    clear hR h2
    go_enter Tryd.func27, Tryd.ntmps27
    go_wp2_with fail
    go_ret
    exact ⟨rfl, hb1⟩
  have d2 : (hidx != index) = false := by simpa using h2
  rw [if_neg (by rw [h2]; simp)] at hR
  clear h2
  cases short with
  | true =>
    obtain rfl : R = 22 := by rw [hR, if_pos (.inl rfl)]
    clear hR
    go_enter Tryd.func27, Tryd.ntmps27
    go_wp2_with fail
    go_ret
    exact ⟨rfl, hb1⟩
  | false =>
    by_cases h3 : ibl < hlen
    · have d3 : decide (ibl < hlen) = true := decide_eq_true h3
      obtain rfl : R = 22 := by rw [hR, if_pos (.inr h3)]
      clear hR h3
      go_enter Tryd.func27, Tryd.ntmps27
      go_wp2_with fail
      go_ret
      exact ⟨rfl, hb1⟩
    have d3 : decide (ibl < hlen) = false := decide_eq_false h3
    rw [if_neg (by simp; omega)] at hR
    have hst := hid (fun W => rstepq_any hstp ibi W hbi)
    cases hs : stepR hstp ibi with
    | false =>
      rw [hs] at hst hR
      obtain rfl : R = 32 := by rw [hR, if_pos rfl]
      clear hR hs h3
      go_enter Tryd.func27, Tryd.ntmps27
      go_wp2_with fail
      refine (hst.out _).mono ?_
      rintro e w1 ⟨rfl, rfl⟩
      go_wp2_with fail
      go_ret
      exact ⟨rfl, hb1⟩
    | true =>
      rw [hs] at hst hR
      obtain rfl : R = 0 := by rw [hR, if_neg (by simp)]
      clear hR hs h3
      go_enter Tryd.func27, Tryd.ntmps27
      go_wp2_with fail
      refine (hst.out _).mono ?_
      rintro e w1 ⟨rfl, rfl⟩
      go_wp2_with fail
      go_ret
      exact ⟨rfl, hb1⟩
end Go.Proofs.YtkmhmehofipehaaDoor
