/- Letters of a text that was cut behind a letter. -/
import Derived.Test.YtlcbfikmljmlpaaDoorTagsWid
namespace Go.Proofs.YtlcbfikmljmlpaaDoor
set_option linter.unusedVariables false
open Go.RowKit
def widB (b : Nat) (c1 c2 c3 g2 g3 g4 : Bool) : Nat :=
  if b < 128 then 1 else if (b / 32 == 6 && c1) = true then (if g2 = true then 2 else 1)
  else if (b / 16 == 14 && c1 && c2) = true then (if g3 = true then 3 else 1)
  else if (b / 8 == 30 && c1 && c2 && c3) = true then (if g4 = true then 4 else 1) else 1
theorem widL_is (s : ByteArray) (p : Nat) : widL s p = widB (byL s p) (conL s (p + 1)) (conL s (p + 2)) (conL s (p + 3)) (decide (128 ≤ r2 s p))
    (decide (2048 ≤ r3 s p) && okR (r3 s p)) (decide (65536 ≤ r4 s p) && okR (r4 s p)) := by
  unfold widL widB
  rw [decode_is]
  simp only [decide_eq_true_eq]
  repeat' split
  all_goals rfl
theorem widB_1 (b : Nat) (c2 c3 c2' c3' c1 g2 g3 g4 h2 h3 h4 : Bool) (h : widB b c1 c2 c3 g2 g3 g4 ≤ 1) : widB b false c2' c3' h2 h3 h4 = widB b c1 c2 c3 g2 g3 g4 := by
  have hp : 1 ≤ widB b c1 c2 c3 g2 g3 g4 := by
    unfold widB
    repeat' split
    all_goals omega
  have : widB b false c2' c3' h2 h3 h4 = 1 := by
    unfold widB
    simp
  omega
theorem widB_2 (b : Nat) (c1 c2 c3 c3' g2 g3 g4 h3 h4 : Bool) (h : widB b c1 c2 c3 g2 g3 g4 ≤ 2) : widB b c1 false c3' g2 h3 h4 = widB b c1 c2 c3 g2 g3 g4 := by
  revert h
  unfold widB
  cases c1 <;> cases c2 <;> cases c3 <;> cases g2 <;> cases g3 <;> cases g4 <;> simp <;> (repeat' split) <;> omega
theorem widB_3 (b : Nat) (c1 c2 c3 g2 g3 g4 h4 : Bool) (h : widB b c1 c2 c3 g2 g3 g4 ≤ 3) : widB b c1 c2 false g2 g3 h4 = widB b c1 c2 c3 g2 g3 g4 := by
  revert h
  unfold widB
  cases c1 <;> cases c2 <;> cases c3 <;> cases g2 <;> cases g3 <;> cases g4 <;> simp <;> (repeat' split) <;> omega
theorem byL_pre (s : ByteArray) (c q : Nat) (hc : c ≤ s.size) (h : q < c) : byL (s.extract 0 c) q = byL s q := by
  have h1 : q < (s.extract 0 c).size := by simp [ByteArray.size_extract]; omega
  rw [byL_at _ _ h1, byL_at s q (by omega)]
  simp [ByteArray.getElem_extract]
theorem conL_pre (s : ByteArray) (c q : Nat) (hc : c ≤ s.size) (h : q < c) : conL (s.extract 0 c) q = conL s q := by
  unfold conL
  rw [byL_pre s c q hc h]
  have : (s.extract 0 c).size = c := by simp [ByteArray.size_extract]; omega
  rw [this, decide_eq_true h, decide_eq_true (show q < s.size by omega)]
theorem conL_out (s : ByteArray) (c q : Nat) (hc : c ≤ s.size) (h : c ≤ q) : conL (s.extract 0 c) q = false := by
  unfold conL
  have : (s.extract 0 c).size = c := by simp [ByteArray.size_extract]; omega
  rw [this, decide_eq_false (show ¬ q < c by omega)]
  rfl
theorem widL_pre (s : ByteArray) (c p : Nat) (hc : c ≤ s.size) (h : p + widL s p ≤ c) (hp : p < c) : widL (s.extract 0 c) p = widL s p := by
  rw [widL_is (s.extract 0 c), byL_pre s c p hc hp]
  by_cases h1 : p + 1 < c
  · rw [conL_pre s c (p + 1) hc h1]
    have e2 : r2 (s.extract 0 c) p = r2 s p := by unfold r2; rw [byL_pre s c p hc hp, byL_pre s c (p + 1) hc h1]
    rw [e2]
    by_cases h2 : p + 2 < c
    · rw [conL_pre s c (p + 2) hc h2]
      have e3 : r3 (s.extract 0 c) p = r3 s p := by unfold r3; rw [byL_pre s c p hc hp, byL_pre s c (p + 1) hc h1, byL_pre s c (p + 2) hc h2]
      rw [e3]
      by_cases h3 : p + 3 < c
      · rw [conL_pre s c (p + 3) hc h3]
        have e4 : r4 (s.extract 0 c) p = r4 s p := by unfold r4; rw [byL_pre s c p hc hp, byL_pre s c (p + 1) hc h1, byL_pre s c (p + 2) hc h2, byL_pre s c (p + 3) hc h3]
        rw [e4, ← widL_is]
      · rw [conL_out s c (p + 3) hc (by omega)]
        rw [widL_is] at h ⊢
        exact widB_3 _ _ _ _ _ _ _ _ (by omega)
    · rw [conL_out s c (p + 2) hc (by omega)]
      rw [widL_is] at h ⊢
      exact widB_2 _ _ _ _ _ _ _ _ _ _ (by omega)
  · rw [conL_out s c (p + 1) hc (by omega)]
    rw [widL_is] at h ⊢
    exact widB_1 _ _ _ _ _ _ _ _ _ _ _ _ (by omega)
/-- the letters of a text that is cut behind so many letters -/
theorem lenL_pre (s : ByteArray) (c : Nat) (hc : c ≤ s.size) : ∀ (k m p : Nat), c = posL s k p → p ≤ s.size → c ≤ p + m → lenL (s.extract 0 c) m p = lenL s k p
  | 0, m, p, h, _, _ => by
    have hs : (s.extract 0 c).size = c := by simp [ByteArray.size_extract]; omega
    have : posL s 0 p = p := rfl
    cases m with
    | zero => rfl
    | succ m => unfold lenL; rw [if_neg (by omega)]
  | k + 1, m, p, h, hp, hm => by
    have hs : (s.extract 0 c).size = c := by simp [ByteArray.size_extract]; omega
    by_cases hlt : p < s.size
    · have h' : c = posL s k (p + widL s p) := by rw [h]; show (if p < s.size then _ else _) = _; rw [if_pos hlt]
      have hw := widL_le s p hlt
      have hw1 := widL_pos s p hlt
      have hge : p + widL s p ≤ c := by rw [h']; exact posL_ge s k _
      cases m with
      | zero => omega
      | succ m =>
        have e1 : lenL (s.extract 0 c) (m + 1) p = 1 + lenL (s.extract 0 c) m (p + widL (s.extract 0 c) p) := by
          show (if p < (s.extract 0 c).size then _ else _) = _
          rw [if_pos (by omega)]
        have e2 : lenL s (k + 1) p = 1 + lenL s k (p + widL s p) := by
          show (if p < s.size then _ else _) = _
          rw [if_pos hlt]
        rw [e1, e2, widL_pre s c p hc hge (by omega), lenL_pre s c hc k m (p + widL s p) h' hw (by omega)]
    · have h' : c = p := by rw [h]; show (if p < s.size then _ else _) = _; rw [if_neg hlt]
      have e2 : lenL s (k + 1) p = 0 := by
        show (if p < s.size then _ else _) = _
        rw [if_neg hlt]
      rw [e2]
      cases m with
      | zero => rfl
      | succ m => unfold lenL; rw [if_neg (by omega)]
end Go.Proofs.YtlcbfikmljmlpaaDoor
