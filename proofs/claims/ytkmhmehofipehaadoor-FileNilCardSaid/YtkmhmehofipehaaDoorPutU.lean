/- A number laid that fits; bytes with their sum. -/
import Derived.Test.YtkmhmehofipehaaDoorMakerU
import Derived.Test.YtkmhmehofipehaaDoorCrcWalks2
import Derived.Lib.SmallJoins
namespace Go.Proofs.YtkmhmehofipehaaDoor
set_option linter.unusedVariables false
open Go.RowKit
def sealed (l : List UInt8) : List UInt8 := l ++ bytesLE (sumI l).toNat 4
theorem putU_ok (l : List UInt8) (v n : Nat) (h : 1 ≤ n ∧ n ≤ 8) (hv : v < 256 ^ n) : putU (0, l) v (n : Int) = (0, l ++ bytesLE v n) := by
  rw [putU, if_neg (by simp), if_neg (by omega), if_neg]
  · rfl
  · rintro ⟨_, h3⟩
    rw [Int.toNat_natCast] at h3
    omega
theorem NewB.lower {w w1 w2 : World} {l : List UInt8} {v : Value} (h : NewB w1 l v w2) (hb : Below w.heap.size w w1) : NewB w l v w2 := by
  obtain ⟨A, c, hv, ho, h2⟩ := h
  exact ⟨A, c, hv, Joins.ownsRow_le ho hb.size, hb.trans (h2.mono hb.size)⟩
def PutPost (w : World) (l : List UInt8) (e : Ending) (w' : World) : Prop := ∃ v, e = .returned (.tuple #[v, .int .i64 0]) ∧ NewB w l v w'
end Go.Proofs.YtkmhmehofipehaaDoor
