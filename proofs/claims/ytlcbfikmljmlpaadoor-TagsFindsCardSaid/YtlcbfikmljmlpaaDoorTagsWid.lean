/- Letters of a text: their widths. -/
import Derived.Test.YtlcbfikmljmlpaaDoorProg
import Derived.Test.YtlcbfikmljmlpaaDoorKit
import Derived.Laws.RangeAny
namespace Go.Proofs.YtlcbfikmljmlpaaDoor
set_option linter.unusedVariables false
open Go.RowKit
def widL (s : ByteArray) (p : Nat) : Nat := (Utf8.decode s p).2
theorem widL_pos (s : ByteArray) (p : Nat) (h : p < s.size) : 1 ≤ widL s p := by
  unfold widL
  by_cases ha : (s[p]'h).toNat < 128
  · rw [decode_ascii s p h ha]; exact Nat.le_refl _
  · exact (decode_high s p h (by omega)).2
/-- a byte of a text; behind its end some number -/
def byL (s : ByteArray) (p : Nat) : Nat := (s.get! p).toNat
theorem byL_at (s : ByteArray) (p : Nat) (h : p < s.size) : byL s p = (s[p]'h).toNat := by
  unfold byL; rw [← get_at s p h]; rfl
def conL (s : ByteArray) (p : Nat) : Bool := decide (p < s.size) && (byL s p / 64 == 2)
def okR (r : Nat) : Bool := decide (r < 55296) || (decide (57344 ≤ r) && decide (r ≤ 1114111))
theorem valid_is (r : Nat) : Utf8.valid (r : Int) = okR r := by
  unfold Utf8.valid okR
  rw [Bool.eq_iff_iff]
  simp
  omega
def r2 (s : ByteArray) (p : Nat) : Nat := (byL s p % 32) * 64 + byL s (p + 1) % 64
def r3 (s : ByteArray) (p : Nat) : Nat := (byL s p % 16) * 4096 + (byL s (p + 1) % 64) * 64 + byL s (p + 2) % 64
def r4 (s : ByteArray) (p : Nat) : Nat := (byL s p % 8) * 262144 + (byL s (p + 1) % 64) * 4096 + (byL s (p + 2) % 64) * 64 + byL s (p + 3) % 64
theorem decode_is (s : ByteArray) (p : Nat) : Utf8.decode s p =
    if byL s p < 128 then (byL s p, 1) else if (byL s p / 32 == 6 && conL s (p + 1)) = true then (if 128 ≤ r2 s p then (r2 s p, 2) else (65533, 1))
    else if (byL s p / 16 == 14 && conL s (p + 1) && conL s (p + 2)) = true then (if (decide (2048 ≤ r3 s p) && okR (r3 s p)) = true then (r3 s p, 3) else (65533, 1))
    else if (byL s p / 8 == 30 && conL s (p + 1) && conL s (p + 2) && conL s (p + 3)) = true then (if (decide (65536 ≤ r4 s p) && okR (r4 s p)) = true then (r4 s p, 4) else (65533, 1)) else (65533, 1) := by
  unfold Utf8.decode r2 r3 r4 conL byL
  simp only [valid_is, Nat.add_zero, ge_iff_le, Utf8.runeError]
/-- how many bytes the letter at a place has by the document, and which it is; none: 0 -/
def letL (s : ByteArray) (p : Nat) : Nat × Nat :=
  if byL s p < 128 then (1, byL s p) else if (decide (194 ≤ byL s p) && decide (byL s p < 224) && conL s (p + 1)) = true then (2, r2 s p)
  else if (decide (224 ≤ byL s p) && decide (byL s p < 240) && conL s (p + 1) && conL s (p + 2) && (decide (2048 ≤ r3 s p) && okR (r3 s p))) = true then (3, r3 s p)
  else if (decide (240 ≤ byL s p) && decide (byL s p < 245) && conL s (p + 1) && conL s (p + 2) && conL s (p + 3) && (decide (65536 ≤ r4 s p) && okR (r4 s p))) = true then (4, r4 s p) else (0, 0)
theorem byL_lt (s : ByteArray) (p : Nat) : byL s p < 256 := (s.get! p).toNat_lt
/-- the width by the model is the width by the document; where there is no letter, one byte -/
theorem letL_wid (s : ByteArray) (p : Nat) : (if (letL s p).1 = 0 then 1 else (letL s p).1) = widL s p := by
  have h0 := byL_lt s p
  have h1 := byL_lt s (p + 1)
  have h2 := byL_lt s (p + 2)
  have h3 := byL_lt s (p + 3)
  have fin : ∀ (a : Nat × Nat) (b : Nat × Nat), letL s p = a → Utf8.decode s p = b → (if a.1 = 0 then 1 else a.1) = b.2 → (if (letL s p).1 = 0 then 1 else (letL s p).1) = widL s p := fun a b e1 e2 e3 => by
    unfold widL; rw [e1, e2, e3]
  by_cases a : byL s p < 128
  · exact fin (1, byL s p) (byL s p, 1) (by unfold letL; rw [if_pos a]) (by rw [decode_is, if_pos a]) rfl
  by_cases b : (byL s p / 32 == 6 && conL s (p + 1)) = true
  · have b' := b
    simp only [Bool.and_eq_true, beq_iff_eq] at b'
    obtain ⟨b1, b2⟩ := b'
    have b3 := b2
    unfold conL at b3
    simp only [Bool.and_eq_true, decide_eq_true_eq, beq_iff_eq] at b3
    by_cases c : 194 ≤ byL s p
    · exact fin (2, r2 s p) (r2 s p, 2) (by unfold letL; rw [if_neg a, if_pos (by simp only [b2, Bool.and_eq_true, decide_eq_true_eq, eq_self, and_true]; omega)]) (by rw [decode_is, if_neg a, if_pos b, if_pos (by unfold r2; omega)]) rfl
    · exact fin (0, 0) (65533, 1) (by
        unfold letL
        rw [if_neg a, if_neg (by simp only [Bool.and_eq_true, decide_eq_true_eq]; omega), if_neg (by simp only [Bool.and_eq_true, decide_eq_true_eq]; omega), if_neg (by simp only [Bool.and_eq_true, decide_eq_true_eq]; omega)])
        (by rw [decode_is, if_neg a, if_pos b, if_neg (by unfold r2; omega)]) rfl
  have hb : ¬ ((decide (194 ≤ byL s p) && decide (byL s p < 224) && conL s (p + 1)) = true) := by
    intro h
    simp only [Bool.and_eq_true, decide_eq_true_eq] at h
    exact b (by simp only [Bool.and_eq_true, beq_iff_eq]; exact ⟨by omega, h.2⟩)
  by_cases c : (byL s p / 16 == 14 && conL s (p + 1) && conL s (p + 2)) = true
  · have c' := c
    simp only [Bool.and_eq_true, beq_iff_eq] at c'
    obtain ⟨⟨c1, c2⟩, c3⟩ := c'
    by_cases d : (decide (2048 ≤ r3 s p) && okR (r3 s p)) = true
    · exact fin (3, r3 s p) (r3 s p, 3) (by
        unfold letL
        rw [if_neg a, if_neg hb, if_pos (by rw [d, c2, c3]; simp only [Bool.and_eq_true, decide_eq_true_eq, eq_self, and_true]; omega)])
        (by rw [decode_is, if_neg a, if_neg b, if_pos c, if_pos d]) rfl
    · exact fin (0, 0) (65533, 1) (by
        unfold letL
        rw [if_neg a, if_neg hb, if_neg (fun h => d (by rw [Bool.and_eq_true] at h; exact h.2)), if_neg (by simp only [Bool.and_eq_true, decide_eq_true_eq]; omega)])
        (by rw [decode_is, if_neg a, if_neg b, if_pos c, if_neg d]) rfl
  have hc : ¬ ((decide (224 ≤ byL s p) && decide (byL s p < 240) && conL s (p + 1) && conL s (p + 2) && (decide (2048 ≤ r3 s p) && okR (r3 s p))) = true) := by
    intro h
    simp only [Bool.and_eq_true, decide_eq_true_eq] at h
    exact c (by simp only [Bool.and_eq_true, beq_iff_eq]; exact ⟨⟨by omega, h.1.1.2⟩, h.1.2⟩)
  by_cases d : (byL s p / 8 == 30 && conL s (p + 1) && conL s (p + 2) && conL s (p + 3)) = true
  · have d' := d
    simp only [Bool.and_eq_true, beq_iff_eq] at d'
    obtain ⟨⟨⟨d1, d2⟩, d3⟩, d4⟩ := d'
    by_cases e : (decide (65536 ≤ r4 s p) && okR (r4 s p)) = true
    · have e' := e
      unfold okR r4 at e'
      simp only [Bool.and_eq_true, Bool.or_eq_true, decide_eq_true_eq] at e'
      exact fin (4, r4 s p) (r4 s p, 4) (by
        unfold letL
        rw [if_neg a, if_neg hb, if_neg hc, if_pos (by rw [e, d2, d3, d4]; simp only [Bool.and_eq_true, decide_eq_true_eq, eq_self, and_true]; omega)])
        (by rw [decode_is, if_neg a, if_neg b, if_neg c, if_pos d, if_pos e]) rfl
    · exact fin (0, 0) (65533, 1) (by
        unfold letL
        rw [if_neg a, if_neg hb, if_neg hc, if_neg (fun h => e (by rw [Bool.and_eq_true] at h; exact h.2))])
        (by rw [decode_is, if_neg a, if_neg b, if_neg c, if_pos d, if_neg e]) rfl
  · exact fin (0, 0) (65533, 1) (by
      unfold letL
      rw [if_neg a, if_neg hb, if_neg hc, if_neg (fun h => d (by
        simp only [Bool.and_eq_true, decide_eq_true_eq] at h
        simp only [Bool.and_eq_true, beq_iff_eq]
        exact ⟨⟨⟨by omega, h.1.1.1.2⟩, h.1.1.2⟩, h.1.2⟩))])
      (by rw [decode_is, if_neg a, if_neg b, if_neg c, if_neg d]) rfl
/-- a letter ends within its text -/
theorem widL_le (s : ByteArray) (p : Nat) (h : p < s.size) : p + widL s p ≤ s.size := by
  unfold widL
  rw [decode_is]
  unfold conL
  repeat' split
  all_goals simp_all
  all_goals omega
/-- the place behind so many letters, and how many there are -/
def posL (s : ByteArray) : Nat → Nat → Nat
  | 0, p => p
  | k + 1, p => if p < s.size then posL s k (p + widL s p) else p
def lenL (s : ByteArray) : Nat → Nat → Nat
  | 0, _ => 0
  | k + 1, p => if p < s.size then 1 + lenL s k (p + widL s p) else 0
theorem posL_le (s : ByteArray) : ∀ (k p : Nat), p ≤ s.size → posL s k p ≤ s.size
  | 0, p, h => h
  | k + 1, p, h => by
    unfold posL
    split
    · exact posL_le s k _ (widL_le s p ‹_›)
    · exact h
theorem posL_ge (s : ByteArray) : ∀ (k p : Nat), p ≤ posL s k p
  | 0, p => Nat.le_refl _
  | k + 1, p => by
    unfold posL
    split
    · have := posL_ge s k (p + widL s p); omega
    · exact Nat.le_refl _
theorem lenL_more (s : ByteArray) : ∀ (k m p : Nat), s.size ≤ p + k → k ≤ m → lenL s m p = lenL s k p
  | 0, m, p, h, _ => by
    cases m with
    | zero => rfl
    | succ m => unfold lenL; rw [if_neg (by omega)]
  | k + 1, m, p, h, hm => by
    cases m with
    | zero => omega
    | succ m =>
      unfold lenL
      by_cases hp : p < s.size
      · rw [if_pos hp, if_pos hp]
        have := widL_pos s p hp
        rw [lenL_more s k m _ (by omega) (by omega)]
      · rw [if_neg hp, if_neg hp]
end Go.Proofs.YtlcbfikmljmlpaaDoor
