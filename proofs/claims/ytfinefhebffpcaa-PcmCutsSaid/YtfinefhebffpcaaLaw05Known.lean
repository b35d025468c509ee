/- The fixed calls of the statements of layer 5. -/
import Derived.Test.YtfinefhebffpcaaPcmWeave
namespace Go.Proofs.Ytfinefhebffpcaa
set_option linter.unusedVariables false
open Go.RowKit
theorem four_heap (w : World) (X Y Z U : Obj) : ∃ W, W = (((w.alloc X).alloc Y).alloc Z).alloc U ∧ W.heap[w.heap.size]? = some X ∧ W.heap[w.heap.size + 1]? = some Y ∧ W.heap[w.heap.size + 1 + 1]? = some Z ∧ W.heap[w.heap.size + 1 + 1 + 1]? = some U ∧ Below w.heap.size w W ∧ w.heap.size + 1 + 1 + 1 < W.heap.size := by
  have s1 : (w.alloc X).heap.size = w.heap.size + 1 := by simp
  have s2 : ((w.alloc X).alloc Y).heap.size = w.heap.size + 1 + 1 := by simp
  have s3 : (((w.alloc X).alloc Y).alloc Z).heap.size = w.heap.size + 1 + 1 + 1 := by simp
  have n1 := heap_alloc_new (w.alloc X) Y
  have n2 := heap_alloc_new ((w.alloc X).alloc Y) Z
  have n3 := heap_alloc_new (((w.alloc X).alloc Y).alloc Z) U
  rw [s1] at n1
  rw [s2] at n2
  rw [s3] at n3
  refine ⟨_, rfl, ?_, ?_, ?_, n3, ?_, ?_⟩
  · exact (Below.heap_alloc _ U _ (by omega)).trans ((Below.heap_alloc _ Z _ (by omega)).trans ((Below.heap_alloc _ Y _ (by omega)).trans (heap_alloc_new w X)))
  · exact (Below.heap_alloc _ U _ (by omega)).trans ((Below.heap_alloc _ Z _ (by omega)).trans n1)
  · exact (Below.heap_alloc _ U _ (by omega)).trans n2
  · exact ((((Below.refl _ w).alloc (Nat.le_refl _) _).alloc (by simp) _).alloc (by simp; omega) _).alloc (by simp; omega) _
  · simp
def kL0 (h : Nat) : List Chan := [⟨some ⟨h, 0, none⟩, 2, [1, 2]⟩, ⟨some ⟨h + 1, 0, none⟩, 2, [3, 4]⟩]
def kL1 (h g : Nat) : List Chan := [⟨some ⟨g, 0, none⟩, 2, [1, 128]⟩, ⟨some ⟨h + 1, 0, none⟩, 2, [3, 4]⟩]
theorem kL0_check (h : Nat) : checkV 2 8 9 (kL0 h) = 0 := by
  have e1 : rightF 2 8 9 = true := by decide +kernel
  have e2 : loudI 8 [1, 2] = false := by decide +kernel
  have e3 : loudI 8 [3, 4] = false := by decide +kernel
  simp [checkV, e1, kL0, countL, e2, e3, show (8 : Int).toNat = 8 from rfl]
theorem kL1_check (h g : Nat) : checkV 2 8 9 (kL1 h g) = 21 := by
  have e1 : rightF 2 8 9 = true := by decide +kernel
  have e2 : loudI 8 [1, 128] = true := by decide +kernel
  simp [checkV, e1, kL1, countL, e2, show (8 : Int).toNat = 8 from rfl]
set_option maxRecDepth 20000 in
set_option maxHeartbeats 2000000 in
theorem known_any (w : World) :
    Calls Try.prog 9 #[] w fun e w' => e = .returned (.bool true) ∧ Below w.heap.size w w' := by
  go_enter Try.func9, Try.ntmps9
  go_wp2_with fail
  obtain ⟨w1, hw1, r0, r1, r2, r3, hb1, hsz⟩ := four_heap w (.cells #[.int .i64 1, .int .i64 2] 3) (.cells #[.int .i64 3, .int .i64 4] 3) (.cells #[.slice (some ⟨w.heap.size, 0, none⟩) 2 2, .slice (some ⟨w.heap.size + 1, 0, none⟩) 2 2] 34) (.cells #[.int .i64 2, .int .i64 8, .int .i64 9, .slice (some ⟨w.heap.size + 1 + 1, 0, none⟩) 2 2] 26)
  rw [← hw1]
  clear hw1
  have hsl : SeesL w1 (some ⟨w.heap.size + 1 + 1, 0, none⟩) (kL0 w.heap.size) := by
    refine ⟨Sees.of_block r2 rfl, fun x hx => ?_⟩
    simp only [kL0, List.mem_cons, List.mem_nil_iff, or_false] at hx
    rcases hx with rfl | rfl
    · exact ⟨Sees.of_block r0 rfl, by unfold maxLen; simp⟩
    · exact ⟨Sees.of_block r1 rfl, by unfold maxLen; simp⟩
  refine (weave_ok 2 8 9 _ 2 (kL0 w.heap.size) w1 hsl (by unfold maxLen kL0; simp) (kL0_check _)).mono ?_
  rintro e w2 ⟨v, rfl, A, c, rfl, ho, hb2⟩
  have hwt : weaveTo (kL0 w.heap.size) (countL (kL0 w.heap.size)) = [1, 3, 2, 4] := rfl
  rw [hwt] at *
  have q0 := (hb2.block _ (by omega)).trans r0
  have q1 := (hb2.block _ (by omega)).trans r1
  have q2 := (hb2.block _ (by omega)).trans r2
  have q3 := (hb2.block _ (by omega)).trans r3
  have hbw2 := hb1.trans (hb2.mono hb1.size)
  have hsz2 := hb2.size
  have s3 : w2.cell? ⟨w.heap.size + 1 + 1 + 1, 3, none⟩ = some (.slice (some ⟨w.heap.size + 1 + 1, 0, none⟩) 2 2) := by rw [cell_of_row _ _ _ _ _ _ q3]; rfl
  have hb3 : Below w2.heap.size w2 (w2.alloc (.cells #[.int .i64 1, .int .i64 128] 3)) := (Below.refl _ _).alloc (Nat.le_refl _) _
  have q2' := (hb3.block _ (by omega)).trans q2
  have t2 : (w2.alloc (.cells #[.int .i64 1, .int .i64 128] 3)).cell? ⟨w.heap.size + 1 + 1, 0, none⟩ = some (.slice (some ⟨w.heap.size, 0, none⟩) 2 2) := by rw [cell_of_row _ _ _ _ _ _ q2']; rfl
  have u2 : (w2.alloc (.cells #[.int .i64 1, .int .i64 128] 3)).frozen? ⟨w.heap.size + 1 + 1, 0, none⟩ = false := frozen_of_row _ _ _ _ _ q2'
  clear hsl r0 r1 r2 r3 hb1 hb2
  go_wp2_with fail
  have o3 := own_keep' ho hb3
  have q1' := (hb3.block _ (by omega)).trans q1
  have q3' := (hb3.block _ (by omega)).trans q3
  have qn' := heap_alloc_new w2 (.cells #[.int .i64 1, .int .i64 128] 3)
  have hsz3 : (w2.alloc (.cells #[.int .i64 1, .int .i64 128] 3)).heap.size = w2.heap.size + 1 := by simp
  have hbw3 := hbw2.trans (hb3.mono hbw2.size)
  generalize w2.alloc (.cells #[.int .i64 1, .int .i64 128] 3) = w3 at *
  have o4 := ownsRow_setCell_below o3 (a := ⟨w.heap.size + 1 + 1, 0, none⟩) (by show w.heap.size + 1 + 1 < w1.heap.size; omega) (.slice (some ⟨w2.heap.size, 0, none⟩) 2 2)
  have p1 := (heap_setCell_other w3 ⟨w.heap.size + 1 + 1, 0, none⟩ (w.heap.size + 1) (.slice (some ⟨w2.heap.size, 0, none⟩) 2 2) (by simp)).trans q1'
  have p2 := heap_setCell_same w3 (w.heap.size + 1 + 1) 0 _ _ (.slice (some ⟨w2.heap.size, 0, none⟩) 2 2) q2'
  have p3 := (heap_setCell_other w3 ⟨w.heap.size + 1 + 1, 0, none⟩ (w.heap.size + 1 + 1 + 1) (.slice (some ⟨w2.heap.size, 0, none⟩) 2 2) (by simp)).trans q3'
  have pn := (heap_setCell_other w3 ⟨w.heap.size + 1 + 1, 0, none⟩ w2.heap.size (.slice (some ⟨w2.heap.size, 0, none⟩) 2 2) (by simp; omega)).trans qn'
  have hsz4 : (w3.setCell ⟨w.heap.size + 1 + 1, 0, none⟩ (.slice (some ⟨w2.heap.size, 0, none⟩) 2 2)).heap.size = w2.heap.size + 1 := by rw [← hsz3]; simp
  have hbw4 : Below w.heap.size w (w3.setCell ⟨w.heap.size + 1 + 1, 0, none⟩ (.slice (some ⟨w2.heap.size, 0, none⟩) 2 2)) := hbw3.setCell (by show w.heap.size ≤ w.heap.size + 1 + 1; omega) _
  clear q0 q1 q2 q3 q1' q2' q3' qn' ho o3 t2 u2 s3 hb3 hbw3 hbw2
  generalize w3.setCell ⟨w.heap.size + 1 + 1, 0, none⟩ (.slice (some ⟨w2.heap.size, 0, none⟩) 2 2) = w4 at *
  have hb5 : Below w4.heap.size w4 (w4.alloc (.cells #[.int .i64 1, .int .i64 3, .int .i64 2, .int .i64 4] 3)) := (Below.refl _ _).alloc (Nat.le_refl _) _
  have hm := heap_alloc_new w4 (.cells #[.int .i64 1, .int .i64 3, .int .i64 2, .int .i64 4] 3)
  rw [hsz4] at hm
  have o5 := own_keep' o4 hb5
  have x1 := (hb5.block _ (by omega)).trans p1
  have x2 := (hb5.block _ (by omega)).trans p2
  have x3 := (hb5.block _ (by omega)).trans p3
  have xn := (hb5.block _ (by omega)).trans pn
  have hbw5 := hbw4.trans (hb5.mono hbw4.size)
  generalize w4.alloc (.cells #[.int .i64 1, .int .i64 3, .int .i64 2, .int .i64 4] 3) = w5 at *
  clear p1 p2 p3 pn o4 hb5 hbw4
  refine (rints_any A (some ⟨w2.heap.size + 1, 0, none⟩) c 4 [1, 3, 2, 4] [1, 3, 2, 4] w5 (own_sees o5) (Sees.of_block hm rfl) (by unfold maxLen; simp) (by unfold maxLen; simp)).mono ?_
  rintro e w6 ⟨rfl, hb6⟩
  rw [show decide (([1, 3, 2, 4] : List Int) = [1, 3, 2, 4]) = true from rfl]
  have y1 := (hb6.block _ (by have := (Array.getElem?_eq_some_iff.1 x1).1; exact this)).trans x1
  have y2 := (hb6.block _ (by have := (Array.getElem?_eq_some_iff.1 x2).1; exact this)).trans x2
  have y3 := (hb6.block _ (by have := (Array.getElem?_eq_some_iff.1 x3).1; exact this)).trans x3
  have yn := (hb6.block _ (by have := (Array.getElem?_eq_some_iff.1 xn).1; exact this)).trans xn
  have hbw6 := hbw5.trans (hb6.mono hbw5.size)
  have f0 : w6.cell? ⟨w.heap.size + 1 + 1 + 1, 0, none⟩ = some (.int .i64 2) := by rw [cell_of_row _ _ _ _ _ _ y3]; rfl
  have f1 : w6.cell? ⟨w.heap.size + 1 + 1 + 1, 1, none⟩ = some (.int .i64 8) := by rw [cell_of_row _ _ _ _ _ _ y3]; rfl
  have f2 : w6.cell? ⟨w.heap.size + 1 + 1 + 1, 2, none⟩ = some (.int .i64 9) := by rw [cell_of_row _ _ _ _ _ _ y3]; rfl
  have f3 : w6.cell? ⟨w.heap.size + 1 + 1 + 1, 3, none⟩ = some (.slice (some ⟨w.heap.size + 1 + 1, 0, none⟩) 2 2) := by rw [cell_of_row _ _ _ _ _ _ y3]; rfl
  have hs6 : SndAt w6 (w.heap.size + 1 + 1 + 1) 2 8 9 (some ⟨w.heap.size + 1 + 1, 0, none⟩) 2 2 := ⟨f0, f1, f2, f3⟩
  have hl6 : SeesL w6 (some ⟨w.heap.size + 1 + 1, 0, none⟩) (kL1 w.heap.size w2.heap.size) := by
    refine ⟨Sees.of_block y2 rfl, fun x hx => ?_⟩
    simp only [kL1, List.mem_cons, List.mem_nil_iff, or_false] at hx
    rcases hx with rfl | rfl
    · exact ⟨Sees.of_block yn rfl, by unfold maxLen; simp⟩
    · exact ⟨Sees.of_block y1 rfl, by unfold maxLen; simp⟩
  clear x1 x2 x3 xn y1 y2 y3 yn hbw5 hb6 o5 hm
  go_wp2_with fail
  refine (check_any 2 8 9 _ 2 (kL1 w.heap.size w2.heap.size) w6 hl6 (by unfold maxLen kL1; simp)).mono ?_
  rintro e w7 ⟨rfl, hb7⟩
  rw [kL1_check]
  have hs7 := hs6.below hb7
  have hl7 := hl6.below hb7
  obtain ⟨g0, g1, g2, g3⟩ := hs7
  have hbw7 := hbw6.trans (hb7.mono hbw6.size)
  clear f0 f1 f2 f3 hs6 hl6 hb7 hbw6
  go_wp2_with fail
  refine (count_any 2 8 9 _ 2 (kL1 w.heap.size w2.heap.size) w7 hl7).mono ?_
  rintro e w8 ⟨rfl, hb8⟩
  rw [show ((countL (kL1 w.heap.size w2.heap.size) : Nat) : Int) = 2 from rfl]
  go_wp2_with fail
  go_ret
  exact ⟨rfl, hbw7.trans (hb8.mono hbw7.size)⟩
end Go.Proofs.Ytfinefhebffpcaa
