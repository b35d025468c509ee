/- The walk of FileNil. -/
import Derived.Test.YtkmhmehofipehaaDoorLaw29Known
import Derived.Test.YtkmhmehofipehaaDoorFileNil
namespace Go.Proofs.YtkmhmehofipehaaDoor.fileNil
set_option linter.unusedVariables false
open Go.RowKit
set_option maxRecDepth 20000 in
set_option maxHeartbeats 2000000 in
theorem walk (k ch bi ra bl sh : Int) (l s b : Value) (w : World) :
    Calls Tryd.prog 6 #[.agg #[.int .i64 k, .int .i64 ch, .int .i64 bi, .int .i64 ra, .int .i64 bl, .int .i64 sh], l, s, b] w fun e w' => e = .returned (.bool true) ∧ Below w.heap.size w w' := by
  have hb : Below w.heap.size w (w.alloc (.cells #[.int .i64 k, .int .i64 ch, .int .i64 bi, .int .i64 ra, .int .i64 bl, .int .i64 sh] 25)) := (Below.refl _ w).alloc (Nat.le_refl _) _
  have hrow := heap_alloc_new w (.cells #[.int .i64 k, .int .i64 ch, .int .i64 bi, .int .i64 ra, .int .i64 bl, .int .i64 sh] 25)
  go_enter Tryd.func6, Tryd.ntmps6
  go_wp2_with fail
  generalize w.alloc (.cells #[.int .i64 k, .int .i64 ch, .int .i64 bi, .int .i64 ra, .int .i64 bl, .int .i64 sh] 25) = w0 at *
  refine (build_nil k ch bi ra bl sh l s 0 w0).mono ?_
  rintro e w1 ⟨rfl, hb1⟩
  have hbw1 := hb.trans (hb1.mono hb.size)
  clear hb hb1 hrow
  go_wp2_with fail
  refine (parse_nil b w1).mono ?_
  rintro e w2 ⟨rfl, hb2⟩
  have hbw2 := hbw1.trans (hb2.mono hbw1.size)
  clear hbw1 hb2
  unfold fileZ
  have hb3 : Below w2.heap.size w2 (w2.alloc (.cells #[.int .i64 0, .int .i64 0, .int .i64 0, .int .i64 0, .int .i64 0, .int .i64 0, .slice none 0 0, .slice none 0 0, .int .i64 0, .int .u32 0, .slice none 0 0] 45)) := (Below.refl _ w2).alloc (Nat.le_refl _) _
  have hB := back_empty
  have hS := rfsame_empty
  unfold fileZ at hB hS
  go_wp2_with fail
  refine (hB _).mono ?_
  rintro e w3 ⟨rfl, hb4⟩
  have hbw4 := (hbw2.trans (hb3.mono hbw2.size)).trans (hb4.mono (Nat.le_trans hbw2.size hb3.size))
  clear hbw2 hb3 hb4 hB
  go_wp2_with fail
  refine (hS _).mono ?_
  rintro e w4 ⟨rfl, hb5⟩
  have hbw5 := hbw4.trans (hb5.mono hbw4.size)
  clear hbw4 hb5 hS
  go_wp2_with fail
  refine (known_any _).mono ?_
  rintro e w5 ⟨rfl, hb6⟩
  have hbw6 := hbw5.trans (hb6.mono hbw5.size)
  go_wp2_with fail
  go_ret
  exact ⟨rfl, hbw6⟩
end Go.Proofs.YtkmhmehofipehaaDoor.fileNil
