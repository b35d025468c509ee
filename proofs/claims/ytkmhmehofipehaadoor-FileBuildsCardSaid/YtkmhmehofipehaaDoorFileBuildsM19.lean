/- Letters of a text that was cut behind a letter. -/
import Derived.Test.YtkmhmehofipehaaDoorFileBuildsM18
import Derived.Test.YtkmhmehofipehaaDoorFileBuildsM17
import Derived.Test.YtkmhmehofipehaaDoorProg
import Derived.WalkKit
import Derived.Lib.LaidU8T
import Derived.Shelf.Unicode.ValidAny
import Derived.Lib.ValidLaws
import Derived.Lib.TrimUEq
namespace Go.Proofs.YtkmhmehofipehaaDoor
set_option linter.unusedVariables false
open Go.RowKit
def widB (b : Nat) (c1 c2 c3 g2 g3 g4 : Bool) : Nat :=
  if b < 128 then 1 else if (b / 32 == 6 && c1) = true then (if g2 = true then 2 else 1)
  else if (b / 16 == 14 && c1 && c2) = true then (if g3 = true then 3 else 1)
  else if (b / 8 == 30 && c1 && c2 && c3) = true then (if g4 = true then 4 else 1) else 1
theorem widL_is (s : ByteArray) (p : Nat) : widL s p = widB (byL s p) (conL s (p + 1)) (conL s (p + 2)) (conL s (p + 3)) (decide (128 ≤ r2 s p))
    (decide (2048 ≤ r3 s p) && okR (r3 s p)) (decide (65536 ≤ r4 s p) && okR (r4 s p)) := by
  unfold widL widB
  rw [decode_is]
  simp only [decide_eq_true_eq]
  repeat' split
  all_goals rfl
theorem widB_1 (b : Nat) (c2 c3 c2' c3' c1 g2 g3 g4 h2 h3 h4 : Bool) (h : widB b c1 c2 c3 g2 g3 g4 ≤ 1) : widB b false c2' c3' h2 h3 h4 = widB b c1 c2 c3 g2 g3 g4 := by
  have hp : 1 ≤ widB b c1 c2 c3 g2 g3 g4 := by
    unfold widB
    repeat' split
    all_goals omega
  have : widB b false c2' c3' h2 h3 h4 = 1 := by
    unfold widB
    simp
  omega
theorem widB_2 (b : Nat) (c1 c2 c3 c3' g2 g3 g4 h3 h4 : Bool) (h : widB b c1 c2 c3 g2 g3 g4 ≤ 2) : widB b c1 false c3' g2 h3 h4 = widB b c1 c2 c3 g2 g3 g4 := by
  revert h
  unfold widB
  cases c1 <;> cases c2 <;> cases c3 <;> cases g2 <;> cases g3 <;> cases g4 <;> simp <;> (repeat' split) <;> omega
theorem widB_3 (b : Nat) (c1 c2 c3 g2 g3 g4 h4 : Bool) (h : widB b c1 c2 c3 g2 g3 g4 ≤ 3) : widB b c1 c2 false g2 g3 h4 = widB b c1 c2 c3 g2 g3 g4 := by
  revert h
  unfold widB
  cases c1 <;> cases c2 <;> cases c3 <;> cases g2 <;> cases g3 <;> cases g4 <;> simp <;> (repeat' split) <;> omega
theorem byL_pre (s : ByteArray) (c q : Nat) (hc : c ≤ s.size) (h : q < c) : byL (s.extract 0 c) q = byL s q := by
  have h1 : q < (s.extract 0 c).size := by simp [ByteArray.size_extract]; omega
  rw [byL_at _ _ h1, byL_at s q (by omega)]
  simp [ByteArray.getElem_extract]
theorem conL_pre (s : ByteArray) (c q : Nat) (hc : c ≤ s.size) (h : q < c) : conL (s.extract 0 c) q = conL s q := by
  unfold conL
  rw [byL_pre s c q hc h]
  have : (s.extract 0 c).size = c := by simp [ByteArray.size_extract]; omega
  rw [this, decide_eq_true h, decide_eq_true (show q < s.size by omega)]
theorem conL_out (s : ByteArray) (c q : Nat) (hc : c ≤ s.size) (h : c ≤ q) : conL (s.extract 0 c) q = false := by
  unfold conL
  have : (s.extract 0 c).size = c := by simp [ByteArray.size_extract]; omega
  rw [this, decide_eq_false (show ¬ q < c by omega)]
  rfl
theorem widL_pre (s : ByteArray) (c p : Nat) (hc : c ≤ s.size) (h : p + widL s p ≤ c) (hp : p < c) : widL (s.extract 0 c) p = widL s p := by
  rw [widL_is (s.extract 0 c), byL_pre s c p hc hp]
  by_cases h1 : p + 1 < c
  · rw [conL_pre s c (p + 1) hc h1]
    have e2 : r2 (s.extract 0 c) p = r2 s p := by unfold r2; rw [byL_pre s c p hc hp, byL_pre s c (p + 1) hc h1]
    rw [e2]
    by_cases h2 : p + 2 < c
    · rw [conL_pre s c (p + 2) hc h2]
      have e3 : r3 (s.extract 0 c) p = r3 s p := by unfold r3; rw [byL_pre s c p hc hp, byL_pre s c (p + 1) hc h1, byL_pre s c (p + 2) hc h2]
      rw [e3]
      by_cases h3 : p + 3 < c
      · rw [conL_pre s c (p + 3) hc h3]
        have e4 : r4 (s.extract 0 c) p = r4 s p := by unfold r4; rw [byL_pre s c p hc hp, byL_pre s c (p + 1) hc h1, byL_pre s c (p + 2) hc h2, byL_pre s c (p + 3) hc h3]
        rw [e4, ← widL_is]
      · rw [conL_out s c (p + 3) hc (by omega)]
        rw [widL_is] at h ⊢
        exact widB_3 _ _ _ _ _ _ _ _ (by omega)
    · rw [conL_out s c (p + 2) hc (by omega)]
      rw [widL_is] at h ⊢
      exact widB_2 _ _ _ _ _ _ _ _ _ _ (by omega)
  · rw [conL_out s c (p + 1) hc (by omega)]
    rw [widL_is] at h ⊢
    exact widB_1 _ _ _ _ _ _ _ _ _ _ _ _ (by omega)
/-- the letters of a text that is cut behind so many letters -/
theorem lenL_pre (s : ByteArray) (c : Nat) (hc : c ≤ s.size) : ∀ (k m p : Nat), c = posL s k p → p ≤ s.size → c ≤ p + m → lenL (s.extract 0 c) m p = lenL s k p
  | 0, m, p, h, _, _ => by
    have hs : (s.extract 0 c).size = c := by simp [ByteArray.size_extract]; omega
    have : posL s 0 p = p := rfl
    cases m with
    | zero => rfl
    | succ m => unfold lenL; rw [if_neg (by omega)]
  | k + 1, m, p, h, hp, hm => by
    have hs : (s.extract 0 c).size = c := by simp [ByteArray.size_extract]; omega
    by_cases hlt : p < s.size
    · have h' : c = posL s k (p + widL s p) := by rw [h]; show (if p < s.size then _ else _) = _; rw [if_pos hlt]
      have hw := widL_le s p hlt
      have hw1 := widL_pos s p hlt
      have hge : p + widL s p ≤ c := by rw [h']; exact posL_ge s k _
      cases m with
      | zero => omega
      | succ m =>
        have e1 : lenL (s.extract 0 c) (m + 1) p = 1 + lenL (s.extract 0 c) m (p + widL (s.extract 0 c) p) := by
          show (if p < (s.extract 0 c).size then _ else _) = _
          rw [if_pos (by omega)]
        have e2 : lenL s (k + 1) p = 1 + lenL s k (p + widL s p) := by
          show (if p < s.size then _ else _) = _
          rw [if_pos hlt]
        rw [e1, e2, widL_pre s c p hc hge (by omega), lenL_pre s c hc k m (p + widL s p) h' hw (by omega)]
    · have h' : c = p := by rw [h]; show (if p < s.size then _ else _) = _; rw [if_neg hlt]
      have e2 : lenL s (k + 1) p = 0 := by
        show (if p < s.size then _ else _) = _
        rw [if_neg hlt]
      rw [e2]
      cases m with
      | zero => rfl
      | succ m => unfold lenL; rw [if_neg (by omega)]
end Go.Proofs.YtkmhmehofipehaaDoor
/- A text's letters, one by one: plain. -/
namespace Go.Proofs.YtkmhmehofipehaaDoor
set_option linter.unusedVariables false
open Go.RowKit
theorem lenL_step (s : ByteArray) (p : Nat) (h : p < s.size) : lenL s (s.size - p) p = 1 + lenL s (s.size - (p + widL s p)) (p + widL s p) := by
  have hw := widL_le s p h
  have h1 := widL_pos s p h
  obtain ⟨m, hm⟩ : ∃ m, s.size - p = m + 1 := ⟨s.size - p - 1, by omega⟩
  rw [hm]
  show (if p < s.size then 1 + lenL s m (p + widL s p) else 0) = _
  rw [if_pos h, lenL_more s (s.size - (p + widL s p)) m _ (by omega) (by omega)]
theorem lenL_end (s : ByteArray) (k p : Nat) (h : s.size ≤ p) : lenL s k p = 0 := by
  cases k with
  | zero => rfl
  | succ k => unfold lenL; rw [if_neg (by omega)]
theorem posL_end (s : ByteArray) (k p : Nat) (h : s.size ≤ p) : posL s k p = p := by
  cases k with
  | zero => rfl
  | succ k => unfold posL; rw [if_neg (by omega)]
theorem below_iter (w : World) (s : ByteArray) (p : Nat) : Below w.heap.size w (w.iter s p) := (Below.refl _ _).alloc (Nat.le_refl _) _
theorem lenL_le (s : ByteArray) : ∀ (k p : Nat), lenL s k p ≤ s.size - p
  | 0, p => by unfold lenL; omega
  | k + 1, p => by
    unfold lenL
    split
    · have := lenL_le s k (p + widL s p)
      have := widL_pos s p ‹_›
      omega
    · omega
end Go.Proofs.YtkmhmehofipehaaDoor
/- utf8.ValidString, laid at this program; what its two tables hold. -/
namespace Go.Proofs.YtkmhmehofipehaaDoor
set_option linter.unusedVariables false
open Go.RowKit Go.Shelf Go.Lib Go.Proofs
def validRen : Ren where
  f := fun x => match x with
    | 196 => 113
    | 259 => 116
    | n => n
  t := fun x => match x with
    | 9 => 9
    | 4 => 4
    | 3 => 3
    | 5 => 5
    | 12 => 12
    | 119 => 166
    | 0 => 0
    | 46 => 92
    | 139 => 169
    | 138 => 168
    | 53 => 170
    | n => n
  g := fun x => match x with
    | 3 => 0
    | 4 => 1
    | n => n
theorem laysValid : Lays.n196 Tryd.prog validRen where
  mixed := by kernel_rfl
  f196 := by kernel_rfl
  f259 := by kernel_rfl
  t0 := by kernel_rfl
  a0 := fun _ => by kernel_rfl
  z0 := fun _ => by kernel_rfl
  v0 := fun _ => by kernel_rfl
  t3 := by kernel_rfl
  a3 := fun _ => by kernel_rfl
  z3 := fun _ => by kernel_rfl
  v3 := fun _ => by kernel_rfl
  t4 := by kernel_rfl
  a4 := fun _ => by kernel_rfl
  z4 := fun _ => by kernel_rfl
  v4 := fun _ => by kernel_rfl
  t5 := by kernel_rfl
  a5 := fun _ => by kernel_rfl
  z5 := fun _ => by kernel_rfl
  v5 := fun _ => by kernel_rfl
  t9 := by kernel_rfl
  a9 := fun _ => by kernel_rfl
  z9 := fun _ => by kernel_rfl
  v9 := fun _ => by kernel_rfl
  t12 := by kernel_rfl
  a12 := fun _ => by kernel_rfl
  z12 := fun _ => by kernel_rfl
  v12 := fun _ => by kernel_rfl
  t46 := by kernel_rfl
  a46 := fun _ => by kernel_rfl
  z46 := fun _ => by kernel_rfl
  v46 := fun _ => by kernel_rfl
  t53 := by kernel_rfl
  a53 := fun _ => by kernel_rfl
  z53 := fun _ => by kernel_rfl
  v53 := fun _ => by kernel_rfl
  t119 := by kernel_rfl
  a119 := fun _ => by kernel_rfl
  z119 := fun _ => by kernel_rfl
  t138 := by kernel_rfl
  a138 := fun _ => by kernel_rfl
  z138 := fun _ => by kernel_rfl
  v138 := fun _ => by kernel_rfl
  t139 := by kernel_rfl
  a139 := fun _ => by kernel_rfl
  z139 := fun _ => by kernel_rfl
  v139 := fun _ => by kernel_rfl
  g3 := by kernel_rfl
  g4 := by kernel_rfl
/-- the two tables as their initialisers lay them -/
def Tabs (w : World) : Prop := Lib.Utf8Tabs (validRen.g 3) (validRen.g 4) w
theorem Tabs.below {w w' : World} (h : Tabs w) (hb : Below w.heap.size w w') : Tabs w' := Utf8Tabs_below h hb
theorem valid_any (s : ByteArray) (w : World) (hs : s.size ≤ 9223372036854775807) (hT : Tabs w) :
    Calls Tryd.prog 113 #[.string s] w fun e w' => e = .returned (.bool (Lib.validD s.data.toList)) ∧ Below w.heap.size w w' :=
  Any.utf8_ValidString laysValid s w hs hT
theorem extra : U8Extra Tryd.prog validRen := ⟨by kernel_rfl, by kernel_rfl, by kernel_rfl, by kernel_rfl, by kernel_rfl, by kernel_rfl, by kernel_rfl⟩
end Go.Proofs.YtkmhmehofipehaaDoor
/- What a letter is: the decoder's step and the document's; keys and values, plain. -/
namespace Go.Proofs.YtkmhmehofipehaaDoor
set_option linter.unusedVariables false
open Go.RowKit
/-- the decoder's step is the document's letter; where there is none: (U+FFFD, 1) -/
theorem dec_let (s : ByteArray) (p : Nat) : Utf8.decode s p = if (letL s p).1 = 0 then (65533, 1) else ((letL s p).2, (letL s p).1) := by
  have h0 := byL_lt s p
  have h1 := byL_lt s (p + 1)
  have h2 := byL_lt s (p + 2)
  have h3 := byL_lt s (p + 3)
  have fin : ∀ (a : Nat × Nat) (b : Nat × Nat), letL s p = a → Utf8.decode s p = b → (b = if a.1 = 0 then (65533, 1) else (a.2, a.1)) → Utf8.decode s p = if (letL s p).1 = 0 then (65533, 1) else ((letL s p).2, (letL s p).1) := fun a b e1 e2 e3 => by
    rw [e1, e2, e3]
  by_cases a : byL s p < 128
  · exact fin (1, byL s p) (byL s p, 1) (by unfold letL; rw [if_pos a]) (by rw [decode_is, if_pos a]) rfl
  by_cases b : (byL s p / 32 == 6 && conL s (p + 1)) = true
  · have b' := b
    simp only [Bool.and_eq_true, beq_iff_eq] at b'
    obtain ⟨b1, b2⟩ := b'
    have b3 := b2
    unfold conL at b3
    simp only [Bool.and_eq_true, decide_eq_true_eq, beq_iff_eq] at b3
    by_cases c : 194 ≤ byL s p
    · exact fin (2, r2 s p) (r2 s p, 2) (by unfold letL; rw [if_neg a, if_pos (by simp only [b2, Bool.and_eq_true, decide_eq_true_eq, eq_self, and_true]; omega)]) (by rw [decode_is, if_neg a, if_pos b, if_pos (by unfold r2; omega)]) rfl
    · exact fin (0, 0) (65533, 1) (by
        unfold letL
        rw [if_neg a, if_neg (by simp only [Bool.and_eq_true, decide_eq_true_eq]; omega), if_neg (by simp only [Bool.and_eq_true, decide_eq_true_eq]; omega), if_neg (by simp only [Bool.and_eq_true, decide_eq_true_eq]; omega)])
        (by rw [decode_is, if_neg a, if_pos b, if_neg (by unfold r2; omega)]) rfl
  have hb : ¬ ((decide (194 ≤ byL s p) && decide (byL s p < 224) && conL s (p + 1)) = true) := by
    intro h
    simp only [Bool.and_eq_true, decide_eq_true_eq] at h
    exact b (by simp only [Bool.and_eq_true, beq_iff_eq]; exact ⟨by omega, h.2⟩)
  by_cases c : (byL s p / 16 == 14 && conL s (p + 1) && conL s (p + 2)) = true
  · have c' := c
    simp only [Bool.and_eq_true, beq_iff_eq] at c'
    obtain ⟨⟨c1, c2⟩, c3⟩ := c'
    by_cases d : (decide (2048 ≤ r3 s p) && okR (r3 s p)) = true
    · exact fin (3, r3 s p) (r3 s p, 3) (by
        unfold letL
        rw [if_neg a, if_neg hb, if_pos (by rw [d, c2, c3]; simp only [Bool.and_eq_true, decide_eq_true_eq, eq_self, and_true]; omega)])
        (by rw [decode_is, if_neg a, if_neg b, if_pos c, if_pos d]) rfl
    · exact fin (0, 0) (65533, 1) (by
        unfold letL
        rw [if_neg a, if_neg hb, if_neg (fun h => d (by rw [Bool.and_eq_true] at h; exact h.2)), if_neg (by simp only [Bool.and_eq_true, decide_eq_true_eq]; omega)])
        (by rw [decode_is, if_neg a, if_neg b, if_pos c, if_neg d]) rfl
  have hc : ¬ ((decide (224 ≤ byL s p) && decide (byL s p < 240) && conL s (p + 1) && conL s (p + 2) && (decide (2048 ≤ r3 s p) && okR (r3 s p))) = true) := by
    intro h
    simp only [Bool.and_eq_true, decide_eq_true_eq] at h
    exact c (by simp only [Bool.and_eq_true, beq_iff_eq]; exact ⟨⟨by omega, h.1.1.2⟩, h.1.2⟩)
  by_cases d : (byL s p / 8 == 30 && conL s (p + 1) && conL s (p + 2) && conL s (p + 3)) = true
  · have d' := d
    simp only [Bool.and_eq_true, beq_iff_eq] at d'
    obtain ⟨⟨⟨d1, d2⟩, d3⟩, d4⟩ := d'
    by_cases e : (decide (65536 ≤ r4 s p) && okR (r4 s p)) = true
    · have e' := e
      unfold okR r4 at e'
      simp only [Bool.and_eq_true, Bool.or_eq_true, decide_eq_true_eq] at e'
      exact fin (4, r4 s p) (r4 s p, 4) (by
        unfold letL
        rw [if_neg a, if_neg hb, if_neg hc, if_pos (by rw [e, d2, d3, d4]; simp only [Bool.and_eq_true, decide_eq_true_eq, eq_self, and_true]; omega)])
        (by rw [decode_is, if_neg a, if_neg b, if_neg c, if_pos d, if_pos e]) rfl
    · exact fin (0, 0) (65533, 1) (by
        unfold letL
        rw [if_neg a, if_neg hb, if_neg hc, if_neg (fun h => e (by rw [Bool.and_eq_true] at h; exact h.2))])
        (by rw [decode_is, if_neg a, if_neg b, if_neg c, if_pos d, if_neg e]) rfl
  · exact fin (0, 0) (65533, 1) (by
      unfold letL
      rw [if_neg a, if_neg hb, if_neg hc, if_neg (fun h => d (by
        simp only [Bool.and_eq_true, decide_eq_true_eq] at h
        simp only [Bool.and_eq_true, beq_iff_eq]
        exact ⟨⟨⟨by omega, h.1.1.1.2⟩, h.1.1.2⟩, h.1.2⟩))])
      (by rw [decode_is, if_neg a, if_neg b, if_neg c, if_neg d]) rfl
/-- the letter at a place, as a number -/
def runL (s : ByteArray) (p : Nat) : Nat := (Utf8.decode s p).1
theorem runL_low (s : ByteArray) (p : Nat) (h : byL s p < 128) : runL s p = byL s p ∧ widL s p = 1 := by
  unfold runL widL
  rw [decode_is, if_pos h]
  exact ⟨rfl, rfl⟩
theorem runL_high (s : ByteArray) (p : Nat) (h : ¬ byL s p < 128) : 128 ≤ runL s p := by
  unfold runL
  rw [decode_is, if_neg h]
  split
  · split
    · assumption
    · decide
  · split
    · split
      · rename_i h3
        simp only [Bool.and_eq_true, decide_eq_true_eq] at h3
        have := h3.1
        show 128 ≤ r3 s p
        omega
      · decide
    · split
      · split
        · rename_i h4
          simp only [Bool.and_eq_true, decide_eq_true_eq] at h4
          have := h4.1
          show 128 ≤ r4 s p
          omega
        · decide
      · decide
/-- is a byte one of a key? -/
def keyN (b : Nat) : Bool := !(decide (b < 32) || decide (125 < b) || decide (b = 61))
/-- from a place on, are all bytes those of a key? -/
def keyFrom (s : ByteArray) : Nat → Nat → Bool
  | 0, _ => true
  | k + 1, p => if p < s.size then keyN (byL s p) && keyFrom s k (p + 1) else true
def keyB (s : ByteArray) : Bool := keyFrom s s.size 0 && (decide (1 ≤ s.size) && decide (s.size ≤ 32))
theorem keyFrom_step (s : ByteArray) (k p : Nat) (h : p < s.size) : keyFrom s (k + 1) p = (keyN (byL s p) && keyFrom s k (p + 1)) := by
  show (if p < s.size then _ else _) = _
  rw [if_pos h]
theorem keyFrom_end (s : ByteArray) (k p : Nat) (h : ¬ p < s.size) : keyFrom s k p = true := by
  cases k with
  | zero => rfl
  | succ k => show (if p < s.size then _ else _) = _; rw [if_neg h]
/-- from a place on, are all letters those of a value? by the document -/
def valFrom (s : ByteArray) : Nat → Nat → Bool
  | 0, _ => true
  | k + 1, p => if p < s.size then (if (letL s p).1 = 0 ∨ (letL s p).2 < 32 then false else valFrom s k (p + (letL s p).1)) else true
def valB (s : ByteArray) : Bool := decide (s.size ≤ 1024) && valFrom s s.size 0
/-- .. by the decoder: no letter below 32 -/
def runFrom (s : ByteArray) : Nat → Nat → Bool
  | 0, _ => true
  | k + 1, p => if p < s.size then (if runL s p < 32 then false else runFrom s k (p + widL s p)) else true
theorem valFrom_end (s : ByteArray) (k p : Nat) (h : ¬ p < s.size) : valFrom s k p = true := by
  cases k with
  | zero => rfl
  | succ k => show (if p < s.size then _ else _) = _; rw [if_neg h]
theorem runFrom_end (s : ByteArray) (k p : Nat) (h : ¬ p < s.size) : runFrom s k p = true := by
  cases k with
  | zero => rfl
  | succ k => show (if p < s.size then _ else _) = _; rw [if_neg h]
theorem valFrom_step (s : ByteArray) (k p : Nat) (h : p < s.size) : valFrom s (k + 1) p = if (letL s p).1 = 0 ∨ (letL s p).2 < 32 then false else valFrom s k (p + (letL s p).1) := by
  show (if p < s.size then _ else _) = _
  rw [if_pos h]
theorem runFrom_step (s : ByteArray) (k p : Nat) (h : p < s.size) : runFrom s (k + 1) p = if runL s p < 32 then false else runFrom s k (p + widL s p) := by
  show (if p < s.size then _ else _) = _
  rw [if_pos h]
theorem runFrom_more (s : ByteArray) : ∀ (k m p : Nat), s.size ≤ p + k → k ≤ m → runFrom s m p = runFrom s k p
  | 0, m, p, h, _ => by rw [runFrom_end s m p (by omega), runFrom_end s 0 p (by omega)]
  | k + 1, m, p, h, hm => by
    obtain ⟨m, rfl⟩ : ∃ j, m = j + 1 := ⟨m - 1, by omega⟩
    by_cases hp : p < s.size
    · rw [runFrom_step s m p hp, runFrom_step s k p hp]
      have := widL_pos s p hp
      rw [runFrom_more s k m _ (by omega) (by omega)]
    · rw [runFrom_end s _ p hp, runFrom_end s _ p hp]
theorem letL_one (s : ByteArray) (p : Nat) (h : (letL s p).1 = 1) : (letL s p).2 < 128 := by
  unfold letL at h ⊢
  split
  · assumption
  · rename_i h0
    rw [if_neg h0] at h
    split at h
    · simp at h
    · split at h
      · simp at h
      · split at h
        · simp at h
        · simp at h
/-- both readings of a value are one -/
theorem val_eq (s : ByteArray) : ∀ (k p : Nat), s.size ≤ p + k → valFrom s k p = (Lib.validD (s.data.toList.drop p) && runFrom s k p)
  | 0, p, h => by
    rw [valFrom_end s 0 p (by omega), runFrom_end s 0 p (by omega)]
    have hn : s.data.toList.drop p = [] := List.drop_eq_nil_of_le (by rw [Array.length_toList]; exact h)
    rw [hn]
    rfl
  | k + 1, p, h => by
    by_cases hp : p < s.size
    · have hne : s.data.toList.drop p ≠ [] := by
        intro hn
        have := List.drop_eq_nil_iff.1 hn
        rw [Array.length_toList] at this
        have : s.size ≤ p := this
        omega
      rw [valFrom_step s k p hp, runFrom_step s k p hp, Lib.validD_step _ hne, Lib.decodeL_drop]
      unfold runL widL
      rw [dec_let]
      by_cases h0 : (letL s p).1 = 0
      · rw [if_pos (.inl h0), if_pos h0]
        simp
      · rw [if_neg h0]
        have hw : 1 ≤ (letL s p).1 := by omega
        have hno : ¬ ((letL s p).2 = 65533 ∧ (letL s p).1 = 1) := by
          rintro ⟨e1, e2⟩
          have hd := dec_let s p
          rw [if_neg h0, e1, e2] at hd
          have hl := letL_one s p e2
          rw [e1] at hl
          omega
        dsimp only
        rw [if_neg hno]
        by_cases hs : (letL s p).2 < 32
        · rw [if_pos (.inr hs), if_pos hs]; simp
        · rw [if_neg (by omega), if_neg hs, List.drop_drop]
          exact val_eq s k _ (by omega)
    · have hn : s.data.toList.drop p = [] := List.drop_eq_nil_of_le (by rw [Array.length_toList]; exact Nat.le_of_not_lt hp)
      rw [valFrom_end s _ p hp, runFrom_end s _ p hp, hn]
      rfl
end Go.Proofs.YtkmhmehofipehaaDoor
