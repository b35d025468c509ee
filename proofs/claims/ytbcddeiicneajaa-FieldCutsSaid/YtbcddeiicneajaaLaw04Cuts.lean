/- The walk of FieldCuts. -/
import Derived.Test.YtbcddeiicneajaaLaw04Known
import Derived.Test.YtbcddeiicneajaaFieldOwn
import Derived.Test.YtbcddeiicneajaaInts
namespace Go.Proofs.Ytbcddeiicneajaa.fieldCuts
set_option linter.unusedVariables false
open Go.RowKit
/-- how many bytes a field of the draw has -/
def nOf (x : Int) : Nat := (bits .and .i64 x 7).toNat + 1
theorem nOf_is (x : Int) : bits .and .i64 x 7 = ((nOf x - 1 : Nat) : Int) ∧ 1 ≤ nOf x ∧ nOf x ≤ 8 := by
  obtain ⟨k, hk, h7⟩ := bits7 x
  unfold nOf
  rw [hk]
  omega
/-- sevens, each in its field -/
def sevens (l : List Int) : List UInt8 := l.flatMap fun x => bytesLE 7 (nOf x)
theorem putU_seven (l : List UInt8) (n : Nat) (h : 1 ≤ n ∧ n ≤ 8) : putU (0, l) 7 (n : Int) = (0, l ++ bytesLE 7 n) := by
  have h2 : 256 ^ 1 ≤ 256 ^ n := Nat.pow_le_pow_right (by omega) h.1
  rw [putU, if_neg (by simp), if_neg (by omega), if_neg]
  · rfl
  · rintro ⟨_, h3⟩
    rw [Int.toNat_natCast] at h3
    omega
theorem valLE_bytes (v n : Nat) (h : v < 256 ^ n) : valLE (bytesLE v n) = v := by
  have key : ∀ n, valLE (bytesLE v n) = v % 256 ^ n := by
    intro n
    induction n with
    | zero => simp [bytesLE, valLE, Nat.mod_one]
    | succ n ih =>
      rw [bytesLE_snoc, valLE_snoc, ih, bytesLE_length]
      have e : (UInt8.ofNat (v / 256 ^ n % 256)).toNat = v / 256 ^ n % 256 := by
        rw [UInt8.toNat_ofNat']; omega
      rw [e, Nat.pow_succ, Nat.mod_mul, Nat.mul_comm]
  rw [key, Nat.mod_eq_of_lt h]
theorem sevens_length (l : List Int) : (sevens l).length = (l.map nOf).sum := by
  induction l with
  | nil => rfl
  | cons x l ih =>
    rw [show sevens (x :: l) = bytesLE 7 (nOf x) ++ sevens l from rfl, List.length_append, bytesLE_length, ih]; rfl
theorem sevens_le (l : List Int) : (sevens l).length ≤ 8 * l.length := by
  induction l with
  | nil => simp [sevens]
  | cons x l ih =>
    rw [show sevens (x :: l) = bytesLE 7 (nOf x) ++ sevens l from rfl, List.length_append, bytesLE_length, List.length_cons]
    have := (nOf_is x).2.2
    omega
theorem sevens_snoc (l : List Int) (x : Int) : sevens (l ++ [x]) = sevens l ++ bytesLE 7 (nOf x) := by simp [sevens]
/-- the walk stands at place p of a taker, behind k of the fields -/
theorem walk_step (l : List Int) (k : Nat) (hk : k < l.length) : sevens (l.take (k + 1)) = sevens (l.take k) ++ bytesLE 7 (nOf l[k]) := by
  rw [List.take_succ_eq_append_getElem hk, sevens_snoc]
/-- one field more of the bytes, of which some are cut off -/
theorem cut_round (l : List Int) (T C k q p : Nat) (err : Int) (hT : (sevens l).length = T + C) (hk : k < l.length) (hq : q = nOf l[k])
    (h : (err = 0 ∧ p = (sevens (l.take k)).length ∧ p ≤ T) ∨ err = 10) :
    (∃ p', takeU (err, p) ((sevens l).take T) (q : Int) = ((0, p'), bytesLE 7 q) ∧ p' = (sevens (l.take (k + 1))).length ∧ p' ≤ T) ∨ ∃ p', takeU (err, p) ((sevens l).take T) (q : Int) = ((10, p'), []) := by
  rcases h with ⟨rfl, rfl, hp⟩ | rfl
  · have hn := (nOf_is l[k]).2
    rw [← hq] at hn
    have hTl : ((sevens l).take T).length = T := by rw [List.length_take]; omega
    have hs := walk_step l k hk
    rw [← hq] at hs
    have hsplit : sevens l = sevens (l.take (k + 1)) ++ sevens (l.drop (k + 1)) := by
      unfold sevens; rw [← List.flatMap_append, List.take_append_drop]
    rw [takeU, if_neg (by simp), if_neg (by omega), Int.toNat_natCast, tnext, hTl]
    by_cases hlt : T - (sevens (l.take k)).length < q
    · rw [if_pos hlt]; exact .inr ⟨_, rfl⟩
    · rw [if_neg hlt]
      refine .inl ⟨_, ?_, rfl, ?_⟩
      · have e1 : (sevens (l.take (k + 1))).length = (sevens (l.take k)).length + q := by rw [hs, List.length_append, bytesLE_length]
        rw [e1]
        congr 1
        rw [List.drop_take, List.take_take, Nat.min_eq_left (by omega), hsplit, hs, List.append_assoc, List.drop_left, List.take_append_of_le_length (Nat.le_of_eq (bytesLE_length _ _).symm), List.take_of_length_le (Nat.le_of_eq (bytesLE_length _ _))]
      · rw [hs, List.length_append, bytesLE_length]; omega
  · exact .inr ⟨p, by rw [takeU, if_pos (by simp)]⟩
theorem seven (q : Nat) (h : 1 ≤ q) : valLE (bytesLE 7 q) = 7 := by
  refine valLE_bytes 7 q ?_
  have h2 : 256 ^ 1 ≤ 256 ^ q := Nat.pow_le_pow_right (by omega) h
  omega
end Go.Proofs.Ytbcddeiicneajaa.fieldCuts
