/- What a letter is: the decoder's step and the document's; keys and values, plain. -/
import Derived.Test.YtlcbfikmljmlpaaDoorTagsPutsM2
import Derived.Test.YtlcbfikmljmlpaaDoorTagsPutsM5
import Derived.Lib.ValidLaws
import Derived.Lib.TrimUEq
namespace Go.Proofs.YtlcbfikmljmlpaaDoor
set_option linter.unusedVariables false
open Go.RowKit
/-- the decoder's step is the document's letter; where there is none: (U+FFFD, 1) -/
theorem dec_let (s : ByteArray) (p : Nat) : Utf8.decode s p = if (letL s p).1 = 0 then (65533, 1) else ((letL s p).2, (letL s p).1) := by
  have h0 := byL_lt s p
  have h1 := byL_lt s (p + 1)
  have h2 := byL_lt s (p + 2)
  have h3 := byL_lt s (p + 3)
  have fin : ∀ (a : Nat × Nat) (b : Nat × Nat), letL s p = a → Utf8.decode s p = b → (b = if a.1 = 0 then (65533, 1) else (a.2, a.1)) → Utf8.decode s p = if (letL s p).1 = 0 then (65533, 1) else ((letL s p).2, (letL s p).1) := fun a b e1 e2 e3 => by
    rw [e1, e2, e3]
  by_cases a : byL s p < 128
  · exact fin (1, byL s p) (byL s p, 1) (by unfold letL; rw [if_pos a]) (by rw [decode_is, if_pos a]) rfl
  by_cases b : (byL s p / 32 == 6 && conL s (p + 1)) = true
  · have b' := b
    simp only [Bool.and_eq_true, beq_iff_eq] at b'
    obtain ⟨b1, b2⟩ := b'
    have b3 := b2
    unfold conL at b3
    simp only [Bool.and_eq_true, decide_eq_true_eq, beq_iff_eq] at b3
    by_cases c : 194 ≤ byL s p
    · exact fin (2, r2 s p) (r2 s p, 2) (by unfold letL; rw [if_neg a, if_pos (by simp only [b2, Bool.and_eq_true, decide_eq_true_eq, eq_self, and_true]; omega)]) (by rw [decode_is, if_neg a, if_pos b, if_pos (by unfold r2; omega)]) rfl
    · exact fin (0, 0) (65533, 1) (by
        unfold letL
        rw [if_neg a, if_neg (by simp only [Bool.and_eq_true, decide_eq_true_eq]; omega), if_neg (by simp only [Bool.and_eq_true, decide_eq_true_eq]; omega), if_neg (by simp only [Bool.and_eq_true, decide_eq_true_eq]; omega)])
        (by rw [decode_is, if_neg a, if_pos b, if_neg (by unfold r2; omega)]) rfl
  have hb : ¬ ((decide (194 ≤ byL s p) && decide (byL s p < 224) && conL s (p + 1)) = true) := by
    intro h
    simp only [Bool.and_eq_true, decide_eq_true_eq] at h
    exact b (by simp only [Bool.and_eq_true, beq_iff_eq]; exact ⟨by omega, h.2⟩)
  by_cases c : (byL s p / 16 == 14 && conL s (p + 1) && conL s (p + 2)) = true
  · have c' := c
    simp only [Bool.and_eq_true, beq_iff_eq] at c'
    obtain ⟨⟨c1, c2⟩, c3⟩ := c'
    by_cases d : (decide (2048 ≤ r3 s p) && okR (r3 s p)) = true
    · exact fin (3, r3 s p) (r3 s p, 3) (by
        unfold letL
        rw [if_neg a, if_neg hb, if_pos (by rw [d, c2, c3]; simp only [Bool.and_eq_true, decide_eq_true_eq, eq_self, and_true]; omega)])
        (by rw [decode_is, if_neg a, if_neg b, if_pos c, if_pos d]) rfl
    · exact fin (0, 0) (65533, 1) (by
        unfold letL
        rw [if_neg a, if_neg hb, if_neg (fun h => d (by rw [Bool.and_eq_true] at h; exact h.2)), if_neg (by simp only [Bool.and_eq_true, decide_eq_true_eq]; omega)])
        (by rw [decode_is, if_neg a, if_neg b, if_pos c, if_neg d]) rfl
  have hc : ¬ ((decide (224 ≤ byL s p) && decide (byL s p < 240) && conL s (p + 1) && conL s (p + 2) && (decide (2048 ≤ r3 s p) && okR (r3 s p))) = true) := by
    intro h
    simp only [Bool.and_eq_true, decide_eq_true_eq] at h
    exact c (by simp only [Bool.and_eq_true, beq_iff_eq]; exact ⟨⟨by omega, h.1.1.2⟩, h.1.2⟩)
  by_cases d : (byL s p / 8 == 30 && conL s (p + 1) && conL s (p + 2) && conL s (p + 3)) = true
  · have d' := d
    simp only [Bool.and_eq_true, beq_iff_eq] at d'
    obtain ⟨⟨⟨d1, d2⟩, d3⟩, d4⟩ := d'
    by_cases e : (decide (65536 ≤ r4 s p) && okR (r4 s p)) = true
    · have e' := e
      unfold okR r4 at e'
      simp only [Bool.and_eq_true, Bool.or_eq_true, decide_eq_true_eq] at e'
      exact fin (4, r4 s p) (r4 s p, 4) (by
        unfold letL
        rw [if_neg a, if_neg hb, if_neg hc, if_pos (by rw [e, d2, d3, d4]; simp only [Bool.and_eq_true, decide_eq_true_eq, eq_self, and_true]; omega)])
        (by rw [decode_is, if_neg a, if_neg b, if_neg c, if_pos d, if_pos e]) rfl
    · exact fin (0, 0) (65533, 1) (by
        unfold letL
        rw [if_neg a, if_neg hb, if_neg hc, if_neg (fun h => e (by rw [Bool.and_eq_true] at h; exact h.2))])
        (by rw [decode_is, if_neg a, if_neg b, if_neg c, if_pos d, if_neg e]) rfl
  · exact fin (0, 0) (65533, 1) (by
      unfold letL
      rw [if_neg a, if_neg hb, if_neg hc, if_neg (fun h => d (by
        simp only [Bool.and_eq_true, decide_eq_true_eq] at h
        simp only [Bool.and_eq_true, beq_iff_eq]
        exact ⟨⟨⟨by omega, h.1.1.1.2⟩, h.1.1.2⟩, h.1.2⟩))])
      (by rw [decode_is, if_neg a, if_neg b, if_neg c, if_neg d]) rfl
/-- the letter at a place, as a number -/
def runL (s : ByteArray) (p : Nat) : Nat := (Utf8.decode s p).1
theorem runL_low (s : ByteArray) (p : Nat) (h : byL s p < 128) : runL s p = byL s p ∧ widL s p = 1 := by
  unfold runL widL
  rw [decode_is, if_pos h]
  exact ⟨rfl, rfl⟩
theorem runL_high (s : ByteArray) (p : Nat) (h : ¬ byL s p < 128) : 128 ≤ runL s p := by
  unfold runL
  rw [decode_is, if_neg h]
  split
  · split
    · assumption
    · decide
  · split
    · split
      · rename_i h3
        simp only [Bool.and_eq_true, decide_eq_true_eq] at h3
        have := h3.1
        show 128 ≤ r3 s p
        omega
      · decide
    · split
      · split
        · rename_i h4
          simp only [Bool.and_eq_true, decide_eq_true_eq] at h4
          have := h4.1
          show 128 ≤ r4 s p
          omega
        · decide
      · decide
/-- is a byte one of a key? -/
def keyN (b : Nat) : Bool := !(decide (b < 32) || decide (125 < b) || decide (b = 61))
/-- from a place on, are all bytes those of a key? -/
def keyFrom (s : ByteArray) : Nat → Nat → Bool
  | 0, _ => true
  | k + 1, p => if p < s.size then keyN (byL s p) && keyFrom s k (p + 1) else true
def keyB (s : ByteArray) : Bool := keyFrom s s.size 0 && (decide (1 ≤ s.size) && decide (s.size ≤ 32))
theorem keyFrom_step (s : ByteArray) (k p : Nat) (h : p < s.size) : keyFrom s (k + 1) p = (keyN (byL s p) && keyFrom s k (p + 1)) := by
  show (if p < s.size then _ else _) = _
  rw [if_pos h]
theorem keyFrom_end (s : ByteArray) (k p : Nat) (h : ¬ p < s.size) : keyFrom s k p = true := by
  cases k with
  | zero => rfl
  | succ k => show (if p < s.size then _ else _) = _; rw [if_neg h]
/-- from a place on, are all letters those of a value? by the document -/
def valFrom (s : ByteArray) : Nat → Nat → Bool
  | 0, _ => true
  | k + 1, p => if p < s.size then (if (letL s p).1 = 0 ∨ (letL s p).2 < 32 then false else valFrom s k (p + (letL s p).1)) else true
def valB (s : ByteArray) : Bool := decide (s.size ≤ 1024) && valFrom s s.size 0
/-- .. by the decoder: no letter below 32 -/
def runFrom (s : ByteArray) : Nat → Nat → Bool
  | 0, _ => true
  | k + 1, p => if p < s.size then (if runL s p < 32 then false else runFrom s k (p + widL s p)) else true
theorem valFrom_end (s : ByteArray) (k p : Nat) (h : ¬ p < s.size) : valFrom s k p = true := by
  cases k with
  | zero => rfl
  | succ k => show (if p < s.size then _ else _) = _; rw [if_neg h]
theorem runFrom_end (s : ByteArray) (k p : Nat) (h : ¬ p < s.size) : runFrom s k p = true := by
  cases k with
  | zero => rfl
  | succ k => show (if p < s.size then _ else _) = _; rw [if_neg h]
theorem valFrom_step (s : ByteArray) (k p : Nat) (h : p < s.size) : valFrom s (k + 1) p = if (letL s p).1 = 0 ∨ (letL s p).2 < 32 then false else valFrom s k (p + (letL s p).1) := by
  show (if p < s.size then _ else _) = _
  rw [if_pos h]
theorem runFrom_step (s : ByteArray) (k p : Nat) (h : p < s.size) : runFrom s (k + 1) p = if runL s p < 32 then false else runFrom s k (p + widL s p) := by
  show (if p < s.size then _ else _) = _
  rw [if_pos h]
theorem runFrom_more (s : ByteArray) : ∀ (k m p : Nat), s.size ≤ p + k → k ≤ m → runFrom s m p = runFrom s k p
  | 0, m, p, h, _ => by rw [runFrom_end s m p (by omega), runFrom_end s 0 p (by omega)]
  | k + 1, m, p, h, hm => by
    obtain ⟨m, rfl⟩ : ∃ j, m = j + 1 := ⟨m - 1, by omega⟩
    by_cases hp : p < s.size
    · rw [runFrom_step s m p hp, runFrom_step s k p hp]
      have := widL_pos s p hp
      rw [runFrom_more s k m _ (by omega) (by omega)]
    · rw [runFrom_end s _ p hp, runFrom_end s _ p hp]
theorem letL_one (s : ByteArray) (p : Nat) (h : (letL s p).1 = 1) : (letL s p).2 < 128 := by
  unfold letL at h ⊢
  split
  · assumption
  · rename_i h0
    rw [if_neg h0] at h
    split at h
    · simp at h
    · split at h
      · simp at h
      · split at h
        · simp at h
        · simp at h
/-- both readings of a value are one -/
theorem val_eq (s : ByteArray) : ∀ (k p : Nat), s.size ≤ p + k → valFrom s k p = (Lib.validD (s.data.toList.drop p) && runFrom s k p)
  | 0, p, h => by
    rw [valFrom_end s 0 p (by omega), runFrom_end s 0 p (by omega)]
    have hn : s.data.toList.drop p = [] := List.drop_eq_nil_of_le (by rw [Array.length_toList]; exact h)
    rw [hn]
    rfl
  | k + 1, p, h => by
    by_cases hp : p < s.size
    · have hne : s.data.toList.drop p ≠ [] := by
        intro hn
        have := List.drop_eq_nil_iff.1 hn
        rw [Array.length_toList] at this
        have : s.size ≤ p := this
        omega
      rw [valFrom_step s k p hp, runFrom_step s k p hp, Lib.validD_step _ hne, Lib.decodeL_drop]
      unfold runL widL
      rw [dec_let]
      by_cases h0 : (letL s p).1 = 0
      · rw [if_pos (.inl h0), if_pos h0]
        simp
      · rw [if_neg h0]
        have hw : 1 ≤ (letL s p).1 := by omega
        have hno : ¬ ((letL s p).2 = 65533 ∧ (letL s p).1 = 1) := by
          rintro ⟨e1, e2⟩
          have hd := dec_let s p
          rw [if_neg h0, e1, e2] at hd
          have hl := letL_one s p e2
          rw [e1] at hl
          omega
        dsimp only
        rw [if_neg hno]
        by_cases hs : (letL s p).2 < 32
        · rw [if_pos (.inr hs), if_pos hs]; simp
        · rw [if_neg (by omega), if_neg hs, List.drop_drop]
          exact val_eq s k _ (by omega)
    · have hn : s.data.toList.drop p = [] := List.drop_eq_nil_of_le (by rw [Array.length_toList]; exact Nat.le_of_not_lt hp)
      rw [valFrom_end s _ p hp, runFrom_end s _ p hp, hn]
      rfl
end Go.Proofs.YtlcbfikmljmlpaaDoor
