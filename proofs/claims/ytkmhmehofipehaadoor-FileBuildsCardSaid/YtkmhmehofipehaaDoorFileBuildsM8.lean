/- The sums, in plain words. -/
import Derived.Test.YtkmhmehofipehaaDoorFileBuildsM7
import Derived.Test.YtkmhmehofipehaaDoorFileBuildsM1
namespace Go.Proofs.YtkmhmehofipehaaDoor
set_option linter.unusedVariables false
/-- the steps of a byte -/
def byteI (x : Int) (b : UInt8) : Int := stepsI 8 (bits .xor .u32 x (b.toNat : Int))
def bytesI (x : Int) (l : List UInt8) : Int := l.foldl byteI x
def nextI (s : Int) (l : List UInt8) : Int := bits .xor .u32 (bytesI (bits .xor .u32 s 4294967295) l) 4294967295
def sumI (l : List UInt8) : Int := nextI 0 l
/-- so many bytes 0 -/
def zerosI (s : Int) (n : Nat) : Int := bits .xor .u32 (stepsI (8 * n) (bits .xor .u32 s 4294967295)) 4294967295
theorem byteI_range (x : Int) (b : UInt8) (h0 : 0 ≤ x) (h1 : x < 4294967296) : 0 ≤ byteI x b ∧ byteI x b < 4294967296 := by
  have h := xor32_range x (b.toNat : Int) h0 h1 (by omega) (by have := b.toNat_lt; omega)
  exact stepsI_range 8 _ h.1 h.2
theorem bytesI_range (l : List UInt8) : ∀ (x : Int), 0 ≤ x → x < 4294967296 → 0 ≤ bytesI x l ∧ bytesI x l < 4294967296 := by
  induction l with
  | nil => intro x h0 h1; exact ⟨h0, h1⟩
  | cons b l ih => intro x h0 h1; have h := byteI_range x b h0 h1; exact ih _ h.1 h.2
theorem nextI_range (s : Int) (l : List UInt8) (h0 : 0 ≤ s) (h1 : s < 4294967296) : 0 ≤ nextI s l ∧ nextI s l < 4294967296 := by
  have h := xor32_range s 4294967295 h0 h1 (by omega) (by omega)
  have h' := bytesI_range l _ h.1 h.2
  exact xor32_range _ _ h'.1 h'.2 (by omega) (by omega)
theorem bytesI_snoc (x : Int) (l : List UInt8) (k : Nat) (h : k < l.length) : bytesI x (l.take (k + 1)) = byteI (bytesI x (l.take k)) l[k] := by
  rw [List.take_succ_eq_append_getElem h]; unfold bytesI; rw [List.foldl_append]; rfl

theorem ofInt_i64' (a : Nat) (ha : a < 9223372036854775808) : (BitVec.ofInt 64 (a : Int)).toNat = a := by
  rw [BitVec.ofInt_natCast, BitVec.toNat_ofNat]; exact Nat.mod_eq_of_lt (by omega)
theorem i64_and_nat (a b : Nat) (ha : a < 9223372036854775808) (hb : b < 9223372036854775808) : bits .and .i64 (a : Int) (b : Int) = ((a &&& b : Nat) : Int) := by
  have hx : a &&& b < 2 ^ 63 := Nat.and_lt_two_pow _ (by omega)
  show IntKind.i64.wrap ((BitVec.ofInt 64 (a : Int) &&& BitVec.ofInt 64 (b : Int)).toNat : Int) = _
  rw [BitVec.toNat_and, ofInt_i64' a ha, ofInt_i64' b hb, IntKind.wrap_i64]
  omega
/-! steps are linear: over Nat -/
def stepN (n : Nat) : Nat := (n / 2) ^^^ (if n % 2 = 1 then 3988292384 else 0)
def stepsN : Nat → Nat → Nat
  | 0, x => x
  | n + 1, x => stepN (stepsN n x)
theorem stepN_lt (n : Nat) (h : n < 4294967296) : stepN n < 4294967296 := by
  have : stepN n < 2 ^ 32 := by
    apply Nat.xor_lt_two_pow
    · omega
    · split <;> omega
  omega
theorem stepsN_lt (k n : Nat) (h : n < 4294967296) : stepsN k n < 4294967296 := by
  induction k with
  | zero => exact h
  | succ k ih => exact stepN_lt _ ih
theorem stepI_nat (n : Nat) (hn : n < 4294967296) : stepI (n : Int) = (stepN n : Nat) := by
  unfold stepI stepN
  by_cases h : n % 2 = 1
  · rw [if_pos (by omega), if_pos h, xor32 _ _ (by omega) (by omega) (by omega) (by omega)]
    have e1 : ((n : Int) / 2).toNat = n / 2 := by omega
    rw [e1]; rfl
  · rw [if_neg (by omega), if_neg h]; simp
theorem stepsI_nat (k n : Nat) (hn : n < 4294967296) : stepsI k (n : Int) = (stepsN k n : Nat) := by
  induction k with
  | zero => rfl
  | succ k ih => rw [stepsI, ih, stepI_nat _ (stepsN_lt k n hn)]; rfl
theorem stepN_xor (a b : Nat) : stepN (a ^^^ b) = stepN a ^^^ stepN b := by
  have hd : (a ^^^ b) / 2 = (a / 2) ^^^ (b / 2) := by
    have := Nat.shiftRight_xor_distrib (a := a) (b := b) (i := 1)
    simpa [Nat.shiftRight_eq_div_pow] using this
  have hm : (a ^^^ b) % 2 = (a % 2 + b % 2) % 2 := by
    have := Nat.xor_mod_two_pow (a := a) (b := b) (n := 1)
    rw [Nat.pow_one] at this
    rw [this]
    rcases Nat.mod_two_eq_zero_or_one a with h | h <;> rcases Nat.mod_two_eq_zero_or_one b with h' | h' <;> rw [h, h']
    all_goals decide
  unfold stepN
  rw [hd, hm]
  rcases Nat.mod_two_eq_zero_or_one a with h | h <;> rcases Nat.mod_two_eq_zero_or_one b with h' | h' <;> rw [h, h'] <;> simp
  · rw [Nat.xor_assoc]
  · rw [Nat.xor_assoc, Nat.xor_assoc, Nat.xor_comm 3988292384]
  · rw [Nat.xor_assoc, ← Nat.xor_assoc 3988292384, Nat.xor_comm 3988292384 (b / 2), Nat.xor_assoc]; simp
theorem stepsN_xor (k a b : Nat) : stepsN k (a ^^^ b) = stepsN k a ^^^ stepsN k b := by
  induction k with
  | zero => rfl
  | succ k ih => simp only [stepsN, ih, stepN_xor]
theorem stepsN_shift (k m : Nat) : stepsN k (2 ^ k * m) = m := by
  have gen : ∀ j, j ≤ k → stepsN j (2 ^ k * m) = 2 ^ (k - j) * m := by
    intro j
    induction j with
    | zero => intro _; rfl
    | succ j ih =>
      intro hj
      rw [stepsN, ih (by omega)]
      have e : 2 ^ (k - j) * m = 2 * (2 ^ (k - (j + 1)) * m) := by
        rw [show k - j = (k - (j + 1)) + 1 by omega, Nat.pow_succ]
        rw [Nat.mul_comm (2 ^ (k - (j + 1))) 2, Nat.mul_assoc]
      rw [e, stepN, if_neg (by omega)]
      simp
  simpa using gen k (Nat.le_refl k)
/-- the table's way is the way of eight steps -/
theorem feedN (x b : Nat) (hb : b < 256) : (x / 256) ^^^ stepsN 8 ((x % 256) ^^^ b) = stepsN 8 (x ^^^ b) := by
  have hx : x = (2 ^ 8 * (x / 256)) ^^^ (x % 256) := by
    have h := Nat.two_pow_add_eq_or_of_lt (i := 8) (b := x % 256) (by omega) (x / 256)
    have h2 : 2 ^ 8 * (x / 256) ||| x % 256 = 2 ^ 8 * (x / 256) ^^^ x % 256 := by
      apply Nat.eq_of_testBit_eq
      intro i
      rw [Nat.testBit_or, Nat.testBit_xor, Nat.testBit_two_pow_mul]
      by_cases hi : i < 8
      · have h8 : ¬ 8 ≤ i := by omega
        simp [h8]
      · have : (x % 256).testBit i = false := Nat.testBit_lt_two_pow (Nat.lt_of_lt_of_le (by omega : x % 256 < 2 ^ 8) (Nat.pow_le_pow_right (by omega) (by omega)))
        simp [this]
    exact (show x = 2 ^ 8 * (x / 256) + x % 256 by omega).trans (h.trans h2)
  conv => rhs; rw [hx, Nat.xor_assoc, stepsN_xor, stepsN_shift]
theorem xor32_nat (a b : Nat) (h1 : a < 4294967296) (h2 : b < 4294967296) : bits .xor .u32 (a : Int) (b : Int) = ((a ^^^ b : Nat) : Int) := u32_xor_nat a b h1 h2
theorem xor8_range (a b : Int) (h1 : 0 ≤ a) (h2 : a < 256) (h3 : 0 ≤ b) (h4 : b < 256) : 0 ≤ bits .xor .u8 a b ∧ bits .xor .u8 a b < 256 := by
  rw [u8_xor a b h1 h2 h3 h4]
  have := Nat.xor_lt_two_pow (x := a.toNat) (y := b.toNat) (n := 8) (by omega) (by omega)
  omega
theorem feedI (x : Int) (b : UInt8) (h0 : 0 ≤ x) (h1 : x < 4294967296) :
    bits .xor .u32 (x / 256) (stepsI 8 (bits .xor .u8 (x % 256) (b.toNat : Int))) = byteI x b := by
  obtain ⟨X, rfl⟩ := Int.eq_ofNat_of_zero_le h0
  have hb := b.toNat_lt
  have e1 : ((X : Int) / 256) = ((X / 256 : Nat) : Int) := by omega
  have e2 : ((X : Int) % 256) = ((X % 256 : Nat) : Int) := by omega
  have hx : (X % 256) ^^^ b.toNat < 2 ^ 8 := Nat.xor_lt_two_pow (by omega) (by omega)
  have hx2 : X ^^^ b.toNat < 2 ^ 32 := Nat.xor_lt_two_pow (by omega) (by omega)
  rw [e1, e2, u8_xor_nat _ _ (by omega) (by omega), stepsI_nat _ _ (by omega), xor32_nat _ _ (by omega) (stepsN_lt _ _ (by omega)), feedN _ _ hb]
  unfold byteI
  rw [xor32_nat _ _ (by omega) (by omega), stepsI_nat _ _ (by omega)]
/-! parts -/
def nextN (s : Nat) (l : List UInt8) : Nat := l.foldl (fun x b => stepsN 8 (x ^^^ b.toNat)) s
theorem nextN_lt (l : List UInt8) : ∀ s, s < 4294967296 → nextN s l < 4294967296 := by
  induction l with
  | nil => intro s h; exact h
  | cons b l ih =>
    intro s h
    have hb := b.toNat_lt
    have hx : s ^^^ b.toNat < 2 ^ 32 := Nat.xor_lt_two_pow (by omega) (by omega)
    exact ih _ (stepsN_lt _ _ (by omega))
theorem byteI_nat (x : Nat) (b : UInt8) (h : x < 4294967296) : byteI (x : Int) b = ((stepsN 8 (x ^^^ b.toNat) : Nat) : Int) := by
  have hb := b.toNat_lt
  have hx : x ^^^ b.toNat < 2 ^ 32 := Nat.xor_lt_two_pow (by omega) (by omega)
  unfold byteI
  rw [xor32_nat _ _ (by omega) (by omega), stepsI_nat _ _ (by omega)]
theorem bytesI_nat (l : List UInt8) : ∀ (x : Nat), x < 4294967296 → bytesI (x : Int) l = ((nextN x l : Nat) : Int) := by
  induction l with
  | nil => intro x h; rfl
  | cons b l ih =>
    intro x h
    have hb := b.toNat_lt
    have hx : x ^^^ b.toNat < 2 ^ 32 := Nat.xor_lt_two_pow (by omega) (by omega)
    show bytesI (byteI x b) l = _
    rw [byteI_nat x b h, ih _ (stepsN_lt _ _ (by omega))]; rfl
theorem stepsN_plus (a b x : Nat) : stepsN a (stepsN b x) = stepsN (a + b) x := by
  induction a with
  | zero => rw [Nat.zero_add]; rfl
  | succ a ih => rw [show a + 1 + b = (a + b) + 1 by omega, stepsN, stepsN, ih]
/-- what was ahead goes through all steps, beside the bytes -/
theorem nextN_xor (l : List UInt8) : ∀ (a b : Nat), nextN (a ^^^ b) l = stepsN (8 * l.length) a ^^^ nextN b l := by
  induction l with
  | nil => intro a b; simp [nextN, stepsN]
  | cons c l ih =>
    intro a b
    show nextN (stepsN 8 ((a ^^^ b) ^^^ c.toNat)) l = _ ^^^ nextN (stepsN 8 (b ^^^ c.toNat)) l
    rw [Nat.xor_assoc, stepsN_xor, ih, stepsN_plus, show 8 * l.length + 8 = 8 * (c :: l).length by simp; omega]
theorem nextI_append (s : Int) (a b : List UInt8) (h0 : 0 ≤ s) (h1 : s < 4294967296) : nextI (nextI s a) b = nextI s (a ++ b) := by
  obtain ⟨S, rfl⟩ := Int.eq_ofNat_of_zero_le h0
  have hX : S ^^^ 4294967295 < 2 ^ 32 := Nat.xor_lt_two_pow (by omega) (by omega)
  have hA := nextN_lt a (S ^^^ 4294967295) (by omega)
  have hX2 : nextN (S ^^^ 4294967295) a ^^^ 4294967295 < 2 ^ 32 := Nat.xor_lt_two_pow (by omega) (by omega)
  have e : ∀ x : Nat, x < 4294967296 → bits .xor .u32 (x : Int) 4294967295 = ((x ^^^ 4294967295 : Nat) : Int) := fun x hx => xor32_nat x 4294967295 hx (by omega)
  unfold nextI
  rw [e S (by omega), bytesI_nat _ _ (by omega), e _ hA, e _ (by omega), Nat.xor_assoc, Nat.xor_self, Nat.xor_zero, bytesI_nat _ _ hA, bytesI_nat _ _ (by omega)]
  have : nextN (nextN (S ^^^ 4294967295) a) b = nextN (S ^^^ 4294967295) (a ++ b) := by unfold nextN; rw [List.foldl_append]
  rw [this]
theorem joinI (a b : List UInt8) : bits .xor .u32 (stepsI (8 * b.length) (sumI a)) (sumI b) = sumI (a ++ b) := by
  have e : ∀ x : Nat, x < 4294967296 → bits .xor .u32 (x : Int) 4294967295 = ((x ^^^ 4294967295 : Nat) : Int) := fun x hx => xor32_nat x 4294967295 hx (by omega)
  have hA := nextN_lt a 4294967295 (by omega)
  have hB := nextN_lt b 4294967295 (by omega)
  have hC := nextN_lt (a ++ b) 4294967295 (by omega)
  have s : ∀ l : List UInt8, sumI l = ((nextN 4294967295 l ^^^ 4294967295 : Nat) : Int) := by
    intro l
    have hL := nextN_lt l 4294967295 (by omega)
    have h0 := e 0 (by omega)
    rw [Nat.zero_xor] at h0
    unfold sumI nextI
    rw [show (0 : Int) = ((0 : Nat) : Int) from rfl, h0, bytesI_nat _ _ (by omega), e _ hL]
  have hX : nextN 4294967295 a ^^^ 4294967295 < 2 ^ 32 := Nat.xor_lt_two_pow (by omega) (by omega)
  have hY : nextN 4294967295 b ^^^ 4294967295 < 2 ^ 32 := Nat.xor_lt_two_pow (by omega) (by omega)
  rw [s, s, s, stepsI_nat _ _ (by omega), xor32_nat _ _ (stepsN_lt _ _ (by omega)) (by omega)]
  have h1 : nextN 4294967295 (a ++ b) = nextN (nextN 4294967295 a) b := by unfold nextN; rw [List.foldl_append]
  have h2 := nextN_xor b (nextN 4294967295 a ^^^ 4294967295) 4294967295
  rw [Nat.xor_assoc, Nat.xor_self, Nat.xor_zero] at h2
  rw [h1, h2, Nat.xor_assoc]
/-! a changed byte changes the sum -/
theorem xor_cancel {a b c : Nat} (h : a ^^^ c = b ^^^ c) : a = b := by
  have := congrArg (· ^^^ c) h
  simpa [Nat.xor_assoc] using this
theorem stepN_inj (a b : Nat) (ha : a < 4294967296) (hb : b < 4294967296) (h : stepN a = stepN b) : a = b := by
  have key : ∀ n : Nat, n < 4294967296 → (stepN n).testBit 31 = decide (n % 2 = 1) := by
    intro n hn
    have h0 : (n / 2).testBit 31 = false := Nat.testBit_lt_two_pow (by omega)
    unfold stepN
    rw [Nat.testBit_xor, h0]
    split
    · rename_i h; simp [h]; decide +kernel
    · rename_i h; simp [h]
  have h31 : decide (a % 2 = 1) = decide (b % 2 = 1) := by rw [← key a ha, ← key b hb, h]
  have hm : a % 2 = b % 2 := by
    have := decide_eq_decide.1 h31
    omega
  have hd : a / 2 = b / 2 := by
    unfold stepN at h
    rw [hm] at h
    exact xor_cancel h
  omega
theorem stepsN_inj (k a b : Nat) (ha : a < 4294967296) (hb : b < 4294967296) (h : stepsN k a = stepsN k b) : a = b := by
  induction k with
  | zero => exact h
  | succ k ih => exact ih (stepN_inj _ _ (stepsN_lt _ _ ha) (stepsN_lt _ _ hb) h)
theorem nextN_inj (l : List UInt8) : ∀ (a b : Nat), a < 4294967296 → b < 4294967296 → nextN a l = nextN b l → a = b := by
  induction l with
  | nil => intro a b _ _ h; exact h
  | cons c l ih =>
    intro a b ha hb h
    have hc := c.toNat_lt
    have hx : a ^^^ c.toNat < 2 ^ 32 := Nat.xor_lt_two_pow (by omega) (by omega)
    have hy : b ^^^ c.toNat < 2 ^ 32 := Nat.xor_lt_two_pow (by omega) (by omega)
    exact xor_cancel (stepsN_inj 8 _ _ (by omega) (by omega) (ih _ _ (stepsN_lt _ _ (by omega)) (stepsN_lt _ _ (by omega)) h))
theorem sumI_nat (l : List UInt8) : sumI l = ((nextN 4294967295 l ^^^ 4294967295 : Nat) : Int) := by
  have e : ∀ x : Nat, x < 4294967296 → bits .xor .u32 (x : Int) 4294967295 = ((x ^^^ 4294967295 : Nat) : Int) := fun x hx => xor32_nat x 4294967295 hx (by omega)
  have hL := nextN_lt l 4294967295 (by omega)
  have h0 := e 0 (by omega)
  rw [Nat.zero_xor] at h0
  unfold sumI nextI
  rw [show (0 : Int) = ((0 : Nat) : Int) from rfl, h0, bytesI_nat _ _ (by omega), e _ hL]
theorem sumI_range (l : List UInt8) : 0 ≤ sumI l ∧ sumI l < 4294967296 := nextI_range 0 l (by omega) (by omega)
theorem sumI_change (l : List UInt8) (i : Nat) (hi : i < l.length) (y : UInt8) (hy : y ≠ l[i]) : sumI (l.set i y) ≠ sumI l := by
  intro h
  rw [sumI_nat, sumI_nat] at h
  have h1 : nextN 4294967295 (l.set i y) = nextN 4294967295 l := xor_cancel (by omega : nextN 4294967295 (l.set i y) ^^^ 4294967295 = nextN 4294967295 l ^^^ 4294967295)
  have e1 : l.set i y = l.take i ++ y :: l.drop (i + 1) := List.set_eq_take_append_cons_drop.trans (if_pos hi)
  have e2 : l = l.take i ++ l[i] :: l.drop (i + 1) := by
    conv => lhs; rw [← List.take_append_drop i l, List.drop_eq_getElem_cons hi]
  have e3 : ∀ z : UInt8, nextN 4294967295 (l.take i ++ z :: l.drop (i + 1)) = nextN (stepsN 8 (nextN 4294967295 (l.take i) ^^^ z.toNat)) (l.drop (i + 1)) := by
    intro z; unfold nextN; rw [List.foldl_append]; rfl
  rw [e1, e3] at h1
  conv at h1 => rhs; rw [e2, e3]
  have hA := nextN_lt (l.take i) 4294967295 (by omega)
  have hx : ∀ z : UInt8, nextN 4294967295 (l.take i) ^^^ z.toNat < 4294967296 := by
    intro z
    have hz := z.toNat_lt
    have : nextN 4294967295 (l.take i) ^^^ z.toNat < 2 ^ 32 := Nat.xor_lt_two_pow (by omega) (by omega)
    omega
  have h2 := stepsN_inj 8 _ _ (hx _) (hx _) (nextN_inj _ _ _ (stepsN_lt _ _ (hx _)) (stepsN_lt _ _ (hx _)) h1)
  rw [Nat.xor_comm _ y.toNat, Nat.xor_comm _ (l[i]).toNat] at h2
  exact hy (UInt8.toNat_inj.1 (xor_cancel h2))
end Go.Proofs.YtkmhmehofipehaaDoor
/- Contracts of the sums: the table's Next and Sum, the reference's. -/
namespace Go.Proofs.YtkmhmehofipehaaDoor
set_option linter.unusedVariables false
open Go.RowKit
set_option maxHeartbeats 400000 in
theorem feed_any (g : Nat) (x : Int) (b : UInt8) (w : World) (ht : Tab w g) (h0 : 0 ≤ x) (h1 : x < 4294967296) :
    Calls Tryd.prog 106 #[.pointer (some ⟨g, 0, none⟩), .int .u32 x, .int .u8 (b.toNat : Int)] w fun e w' => e = .returned (.int .u32 (byteI x b)) ∧ w = w' := by
  have hx := xor8_range (x % 256) b.toNat (by omega) (by omega) (by omega) (byte_lt b)
  have hf := hid (feedI x b h0 h1)
  generalize hy : bits .xor .u8 (x % 256) (b.toNat : Int) = y at hx hf
  obtain ⟨Y, rfl⟩ := Int.eq_ofNat_of_zero_le hx.1
  have hc := ht.cell Y (by omega)
  clear ht
  go_enter Tryd.func106, Tryd.ntmps106
  go_wp2
  go_ret
  exact ⟨by rw [← hf.out]; rfl, rfl⟩
set_option maxHeartbeats 400000 in
theorem next_any (g : Nat) (s : Int) (A : Option Addr) (c : Nat) (l : List UInt8) (w : World) (ht : Tab w g) (h0 : 0 ≤ s) (h1 : s < 4294967296) (hl : SeesB w A l) (hlen : l.length ≤ 140737488355328) :
    Calls Tryd.prog 79 #[.pointer (some ⟨g, 0, none⟩), .int .u32 s, .slice A l.length c] w fun e w' => e = .returned (.int .u32 (nextI s l)) ∧ w = w' := by
  have hr := xor32_range s 4294967295 h0 h1 (by omega) (by omega)
  go_enter Tryd.func79, Tryd.ntmps79
  go_wp2
  go_loop [7, 16] (fun x i => ∃ k : Nat, k ≤ l.length ∧ i = .int .i64 k ∧ x = .int .u32 (bytesI (bits .xor .u32 s 4294967295) (l.take k))) (fun _ i => l.length - (intOf i).toNat)
  case atStart => exact ⟨0, by omega, rfl, rfl⟩
  case round =>
    obtain ⟨k, hk, rfl, rfl⟩ := hrel
    have hx := bytesI_range (l.take k) _ hr.1 hr.2
    by_cases hlt : k < l.length
    · obtain ⟨a, rfl, hc⟩ := hl.at hlt
      have hn := hid (bytesI_snoc (bits .xor .u32 s 4294967295) l k hlt)
      generalize hb : l[k] = b at hc hn
      go_wp2_with (go_at_call 106; refine (feed_any g _ b _ ht (by omega) (by omega)).mono ?_; rintro e w' ⟨rfl, rfl⟩)
      go_round
      case rel => exact ⟨k + 1, by omega, by go_num, by rw [hn.out]⟩
      case measure => simp [intOf]; omega
    · obtain rfl : k = l.length := by omega
      go_wp2
      go_ret
      exact ⟨by rw [nextI, ← List.take_length (l := l)]; rfl, rfl⟩
set_option maxHeartbeats 400000 in
theorem rstep_any (x : Int) (w : World) (h0 : 0 ≤ x) (h1 : x < 4294967296) :
    Calls Tryd.prog 108 #[.int .u32 x] w fun e w' => e = .returned (.int .u32 (stepI x)) ∧ w = w' := by
  by_cases h : x % 2 = 1
  · have h' : (x % 2 == 1) = true := beq_iff_eq.2 h
    go_enter Tryd.func108, Tryd.ntmps108
    go_wp2
    go_ret
    exact ⟨by rw [stepI, if_pos h]; rfl, rfl⟩
  · have h' : (x % 2 == 1) = false := beq_eq_false_iff_ne.2 h
    go_enter Tryd.func108, Tryd.ntmps108
    go_wp2
    go_ret
    exact ⟨by rw [stepI, if_neg h]; rfl, rfl⟩
set_option maxHeartbeats 400000 in
theorem eight_any (x : Int) (w : World) (h0 : 0 ≤ x) (h1 : x < 4294967296) :
    Calls Tryd.prog 91 #[.int .u32 x] w fun e w' => e = .returned (.int .u32 (stepsI 8 x)) ∧ w = w' := by
  go_enter Tryd.func91, Tryd.ntmps91
  go_wp2
  go_loop [0, 3] (fun y i => ∃ k : Nat, k ≤ 8 ∧ i = .int .i64 k ∧ y = .int .u32 (stepsI k x)) (fun _ i => 8 - (intOf i).toNat)
  case atStart => exact ⟨0, by omega, rfl, rfl⟩
  case round =>
    obtain ⟨k, hk, rfl, rfl⟩ := hrel
    have hx := stepsI_range k x h0 h1
    by_cases hlt : k < 8
    · go_wp2_with (go_at_call 108; refine (rstep_any _ _ (by omega) (by omega)).mono ?_; rintro e w' ⟨rfl, rfl⟩)
      go_round
      case rel => exact ⟨k + 1, by omega, by go_num, rfl⟩
      case measure => simp [intOf]; omega
    · obtain rfl : k = 8 := by omega
      go_wp2
      go_ret
      exact ⟨rfl, rfl⟩
set_option maxHeartbeats 400000 in
theorem rnext_any (s : Int) (A : Option Addr) (c : Nat) (l : List UInt8) (w : World) (h0 : 0 ≤ s) (h1 : s < 4294967296) (hl : SeesB w A l) (hlen : l.length ≤ 140737488355328) :
    Calls Tryd.prog 61 #[.int .u32 s, .slice A l.length c] w fun e w' => e = .returned (.int .u32 (nextI s l)) ∧ w = w' := by
  have hr := xor32_range s 4294967295 h0 h1 (by omega) (by omega)
  go_enter Tryd.func61, Tryd.ntmps61
  go_wp2
  go_loop [5, 6] (fun x i => ∃ k : Nat, k ≤ l.length ∧ i = .int .i64 k ∧ x = .int .u32 (bytesI (bits .xor .u32 s 4294967295) (l.take k))) (fun _ i => l.length - (intOf i).toNat)
  case atStart => exact ⟨0, by omega, rfl, rfl⟩
  case round =>
    obtain ⟨k, hk, rfl, rfl⟩ := hrel
    have hx := bytesI_range (l.take k) _ hr.1 hr.2
    by_cases hlt : k < l.length
    · obtain ⟨a, rfl, hc⟩ := hl.at hlt
      have hn := hid (bytesI_snoc (bits .xor .u32 s 4294967295) l k hlt)
      generalize hb : l[k] = b at hc hn
      have hbm : (b.toNat : Int) % 4294967296 = b.toNat := by have := byte_lt b; omega
      have hx2 := xor32_range _ (b.toNat : Int) hx.1 hx.2 (by omega) (by have := byte_lt b; omega)
      go_wp2_with (go_at_call 91; refine (eight_any _ _ (by omega) (by omega)).mono ?_; rintro e w' ⟨rfl, rfl⟩)
      go_round
      case rel => exact ⟨k + 1, by omega, by go_num, by rw [hn.out]; rfl⟩
      case measure => simp [intOf]; omega
    · obtain rfl : k = l.length := by omega
      go_wp2
      go_ret
      exact ⟨by rw [nextI, ← List.take_length (l := l)]; rfl, rfl⟩
set_option maxHeartbeats 400000 in
theorem rsum_any (A : Option Addr) (c : Nat) (l : List UInt8) (w : World) (hl : SeesB w A l) (hlen : l.length ≤ 140737488355328) :
    Calls Tryd.prog 35 #[.slice A l.length c] w fun e w' => e = .returned (.int .u32 (sumI l)) ∧ w = w' := by
  go_enter Tryd.func35, Tryd.ntmps35
  go_wp2_with (go_at_call 61; refine (rnext_any 0 _ _ _ _ (by omega) (by omega) hl hlen).mono ?_; rintro e w' ⟨rfl, rfl⟩)
  go_ret
  exact ⟨rfl, rfl⟩
set_option maxHeartbeats 400000 in
theorem sum_any (g : Nat) (A : Option Addr) (c : Nat) (l : List UInt8) (w : World) (ht : Tab w g) (hl : SeesB w A l) (hlen : l.length ≤ 140737488355328) :
    Calls Tryd.prog 48 #[.pointer (some ⟨g, 0, none⟩), .slice A l.length c] w fun e w' => e = .returned (.int .u32 (sumI l)) ∧ w = w' := by
  go_enter Tryd.func48, Tryd.ntmps48
  go_wp2_with (go_at_call 79; refine (next_any g 0 _ _ _ _ ht (by omega) (by omega) hl hlen).mono ?_; rintro e w' ⟨rfl, rfl⟩)
  go_ret
  exact ⟨rfl, rfl⟩
end Go.Proofs.YtkmhmehofipehaaDoor
