/- Tails compared: the reference's. -/
import Derived.Test.YtkmhmehofipehaaDoorIntsEq
import Derived.Test.YtkmhmehofipehaaDoorRes
namespace Go.Proofs.YtkmhmehofipehaaDoor
set_option linter.unusedVariables false
open Go.RowKit
def sameT (count sum : Int) (l : List Int) (count' sum' : Int) (l' : List Int) : Bool := (count == count') && ((sum == sum') && decide (l = l'))
set_option maxHeartbeats 2000000 in
theorem rtsame_any (count sum : Int) (A : Option Addr) (c : Nat) (l : List Int) (count' sum' : Int) (A' : Option Addr) (c' : Nat) (l' : List Int) (w : World) (hl : SeesI w A l) (hl' : SeesI w A' l') (h1 : l.length ≤ maxLen) (h2 : l'.length ≤ maxLen) :
    Calls Tryd.prog 37 #[.agg #[.int .i64 count, .int .u32 sum, .slice A l.length c], .agg #[.int .i64 count', .int .u32 sum', .slice A' l'.length c']] w fun e w' => e = .returned (.bool (sameT count sum l count' sum' l')) ∧ Below w.heap.size w w' := by
  have hb : Below w.heap.size w ((w.alloc (.cells #[.int .i64 count, .int .u32 sum, .slice A l.length c] 43)).alloc (.cells #[.int .i64 count', .int .u32 sum', .slice A' l'.length c'] 43)) := ((Below.refl _ w).alloc (Nat.le_refl _) _).alloc (by simp) _
  have hcall := hid (fun W (hW : Below w.heap.size w W) => rints_any A A' c c' l l' W (hl.below hW) (hl'.below hW) h1 h2)
  clear hl hl' h1 h2
  cases e1 : (count == count') with
  | false =>
    go_enter Tryd.func37, Tryd.ntmps37
    go_wp2_with fail
    go_ret
    exact ⟨ret_bool (by unfold sameT; simp [e1]), hb⟩
  | true =>
  cases e2 : (sum == sum') with
  | false =>
    go_enter Tryd.func37, Tryd.ntmps37
    go_wp2_with fail
    go_ret
    exact ⟨ret_bool (by unfold sameT; simp [e2]), hb⟩
  | true =>
    go_enter Tryd.func37, Tryd.ntmps37
    go_wp2_with fail
    refine (hcall.out _ hb).mono ?_
    rintro e w2 ⟨rfl, hb2⟩
    go_wp2_with fail
    go_ret
    exact ⟨ret_bool (by unfold sameT; simp [e1, e2]), hb.trans (hb2.mono hb.size)⟩
end Go.Proofs.YtkmhmehofipehaaDoor
