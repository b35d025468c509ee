/- The walk of TailNil. -/
import Derived.Test.YtllbemdeimgiiaaLaw28Known
import Derived.Test.YtllbemdeimgiiaaTailSame
import Derived.Test.YtllbemdeimgiiaaTailPut
namespace Go.Proofs.Ytllbemdeimgiiaa.tailNil
set_option linter.unusedVariables false
open Go.RowKit
set_option maxHeartbeats 2000000 in
theorem walk (count sum : Int) (A : Option Addr) (c : Nat) (l : List Int) (B : Option Addr) (d : Nat) (b : List UInt8) (w : World) (hl : SeesI w A l ∧ l.length ≤ c ∧ c ≤ maxLen) (hb : SeesB w B b ∧ b.length ≤ d ∧ d ≤ maxLen) :
    Calls Try.prog 7 #[.agg #[.int .i64 count, .int .u32 sum, .slice A l.length c], .slice B b.length d] w fun e w' => e = .returned (.bool true) ∧ Below w.heap.size w w' := by
  have hb : Below w.heap.size w (w.alloc (.cells #[.int .i64 count, .int .u32 sum, .slice A l.length c] 30)) := (Below.refl _ w).alloc (Nat.le_refl _) _
  go_enter Try.func7, Try.ntmps7
  go_wp2_with fail
  generalize w.alloc (.cells #[.int .i64 count, .int .u32 sum, .slice A l.length c] 30) = w0 at *
  refine (tput_nil count sum A _ c _).mono ?_
  rintro e w1 ⟨rfl, hb1⟩
  have hbw1 := hb.trans (hb1.mono hb.size)
  go_wp2_with fail
  refine (tget_nil B _ d _).mono ?_
  rintro e w2 ⟨rfl, hb2⟩
  have hbw2 := hbw1.trans (hb2.mono hbw1.size)
  clear hbw1 hb2 hb1 hb
  have hb3 : Below w.heap.size w (w2.alloc (.cells #[.int .i64 0, .int .u32 0, .slice none 0 0] 30)) := hbw2.alloc hbw2.size _
  go_wp2_with fail
  refine (rtsame_any 0 0 none 0 [] 0 0 none 0 [] _ (Sees.nil _ _) (Sees.nil _ _) (by simp) (by simp)).mono ?_
  rintro e w3 ⟨rfl, hb4⟩
  rw [show sameT 0 0 [] 0 0 [] = true from rfl]
  have hbw3 := hb3.trans (hb4.mono hb3.size)
  clear hb3 hb4
  go_wp2_with fail
  refine (known_any _).mono ?_
  rintro e w4 ⟨rfl, hb4⟩
  go_wp2_with fail
  go_ret
  exact ⟨rfl, hbw3.trans (hb4.mono hbw3.size)⟩
end Go.Proofs.Ytllbemdeimgiiaa.tailNil
