/- The fixed calls of the statements of layer 04, and few. -/
import Derived.Test.YtbcddeiicneajaaLaw04Do
import Derived.Test.YtbcddeiicneajaaTaker2
import Derived.Test.YtbcddeiicneajaaTakerErr
import Derived.Test.YtbcddeiicneajaaTakerLeft
namespace Go.Proofs.Ytbcddeiicneajaa
set_option linter.unusedVariables false
open Go.RowKit
set_option maxHeartbeats 2000000 in
theorem known_any (w : World) :
    Calls Try.prog 9 #[] w fun e w' => e = .returned (.bool true) ∧ Below w.heap.size w w' := by
  have hm0 := mk_new w
  have hb0 : Below w.heap.size w (w.alloc (.cells #[.int .i64 0, .slice none 0 0] 31)) := (Below.refl _ w).alloc (Nat.le_refl _) _
  have hs0 := hb0.size
  go_enter Try.func9, Try.ntmps9
  go_wp2_with fail
  generalize w.alloc (.cells #[.int .i64 0, .slice none 0 0] 31) = w0 at *
  refine (makerU_any w.heap.size _ 0 [] 258 2 w0 hm0 (by omega) (by simp)).mono ?_
  rintro e w1 ⟨rfl, R1, hm1, hB1, hR1⟩
  rw [show putU (0, []) 258 2 = (0, [2, 1]) by decide] at hm1
  have hb1 := But.below hb0 hB1 (fun n h => Nat.le_of_eq h.symm) hs0
  have hs1 := hb1.size
  have hr1 : ∀ n, R1 n → w.heap.size ≤ n := fun n h => by
    rcases hR1 n h with h | h
    · exact Nat.le_of_eq h.symm
    · omega
  go_wp2_with fail
  refine (makerI_any w.heap.size _ 0 [2, 1] (-1) 3 w1 hm1 (by omega) (by simp)).mono ?_
  rintro e w2 ⟨rfl, R2, hm2, hB2, hR2⟩
  rw [show putI (0, [2, 1]) (-1) 3 = (0, [2, 1, 255, 255, 255]) by decide] at hm2
  have hb2 := But.below hb1 hB2 hr1 hs1
  have hs2 := hb2.size
  have hr2 : ∀ n, R2 n → w.heap.size ≤ n := fun n h => by
    rcases hR2 n h with h | h
    · exact hr1 n h
    · omega
  go_wp2_with fail
  refine (text_any w.heap.size _ 0 [2, 1, 255, 255, 255] ⟨#[97, 98]⟩ 1 w2 hm2 (by decide)).mono ?_
  rintro e w3 ⟨rfl, R3, hm3, hB3, hR3⟩
  rw [show putText (0, [2, 1, 255, 255, 255]) (ByteArray.mk #[97, 98]).data.toList 1 = (0, [2, 1, 255, 255, 255, 2, 97, 98]) by decide] at hm3
  have hb3 := But.below hb2 hB3 hr2 hs2
  have hs3 := hb3.size
  go_wp2_with fail
  refine (bytes_ok w.heap.size _ _ w3 hm3 (by simp)).mono ?_
  rintro e w4 ⟨v, rfl, hv⟩
  obtain ⟨A, c, rfl, hsee, hA, ho, hb4⟩ := hv.parts
  have hconv : (convert 29 9 (.slice A 8 c)).run Try.prog w4 = .ok (.string ⟨#[2, 1, 255, 255, 255, 2, 97, 98]⟩) w4 := conv_bs A c [2, 1, 255, 255, 255, 2, 97, 98] w4 hsee
  have hb4' : Below w.heap.size w w4 := hb3.trans (hb4.mono hs3)
  go_wp2_with fail
  refine (take_any A c [2, 1, 255, 255, 255, 2, 97, 98] w4 hsee (by simp)).mono ?_
  rintro e w5 ⟨g, rfl, hg, hT, hb5⟩
  go_wp2_with fail
  refine (takerU_any g 0 0 2 [2, 1, 255, 255, 255, 2, 97, 98] w5 hT (by simp)).mono ?_
  rintro e w6 ⟨rfl, hT6, hB6⟩
  rw [show takeU (0, 0) [2, 1, 255, 255, 255, 2, 97, 98] 2 = ((0, 2), [2, 1]) by decide, show valLE [2, 1] = 258 by decide]
  go_wp2_with fail
  go_ret
  exact ⟨rfl, But.below (hb4'.trans (hb5.mono hb4'.size)) hB6 (fun n h => by have : n = g := h; have := hb4'.size; omega) (Nat.le_trans hb4'.size hb5.size)⟩
end Go.Proofs.Ytbcddeiicneajaa
