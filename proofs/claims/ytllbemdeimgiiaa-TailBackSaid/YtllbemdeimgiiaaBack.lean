/- Bytes of a number, and the number of bytes: each from the other. -/
import Derived.Test.YtllbemdeimgiiaaTaker2
namespace Go.Proofs.Ytllbemdeimgiiaa
set_option linter.unusedVariables false
open Go.RowKit
theorem bytesLE_cons (v n : Nat) : bytesLE v (n + 1) = UInt8.ofNat (v % 256) :: bytesLE (v / 256) n := by
  unfold bytesLE
  rw [List.range_succ_eq_map, List.map_cons, List.map_map]
  congr 1
  · simp
  · apply List.map_congr_left
    intro i _
    simp only [Function.comp, Nat.pow_succ, Nat.mul_comm (256 ^ i), Nat.div_div_eq_div_mul]
theorem bytesLE_val (l : List UInt8) : bytesLE (valLE l) l.length = l := by
  induction l with
  | nil => rfl
  | cons x l ih =>
    have h := x.toNat_lt
    have e : valLE (x :: l) = x.toNat + 256 * valLE l := rfl
    rw [List.length_cons, bytesLE_cons, e, show (x.toNat + 256 * valLE l) % 256 = x.toNat by omega, show (x.toNat + 256 * valLE l) / 256 = valLE l by omega, ih]
    simp
theorem valLE_of (v n : Nat) (h : v < 256 ^ n) : valLE (bytesLE v n) = v := by
  induction n generalizing v with
  | zero => simp at h; subst h; rfl
  | succ n ih =>
    have h2 : v / 256 < 256 ^ n := by rw [Nat.pow_succ] at h; exact Nat.div_lt_of_lt_mul (by rw [Nat.mul_comm]; exact h)
    have e : valLE (bytesLE v (n + 1)) = (UInt8.ofNat (v % 256)).toNat + 256 * valLE (bytesLE (v / 256) n) := by rw [bytesLE_cons]; rfl
    rw [e, ih _ h2, UInt8.toNat_ofNat_of_lt' (by show v % 256 < 256; omega)]
    omega
/-- a field that stands behind p bytes -/
theorem fld_at (P X R : List UInt8) (p n : Nat) (hp : P.length = p) (hn : X.length = n) : ((P ++ (X ++ R)).drop p).take n = X := by
  subst hp hn; simp
/-- a row of the call's own has room for what it holds -/
theorem own_room {w : World} {base size n c : Nat} {e : TypeId} {A : Option Addr} {xs : List Value} (h : w.ownsRow base e size (.slice A n c) n xs) : n ≤ c ∧ c ≤ maxLen := by
  rcases h.2 with ⟨h1, h0⟩ | ⟨g, cap, cur, h1, _, _, h4, h5, _⟩
  · injection h1 with _ _ h3
    subst h3; subst h0; exact ⟨Nat.le_refl _, Nat.zero_le _⟩
  · injection h1 with _ _ h3
    subst h3; exact ⟨h4, h5⟩
end Go.Proofs.Ytllbemdeimgiiaa
