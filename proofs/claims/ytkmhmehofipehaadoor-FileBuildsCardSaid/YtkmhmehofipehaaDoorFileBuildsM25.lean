/- Info as bytes. -/
import Derived.Test.YtkmhmehofipehaaDoorFileBuildsM24
import Derived.Test.YtkmhmehofipehaaDoorFileBuildsM23
import Derived.Test.YtkmhmehofipehaaDoorFileBuildsM8
import Derived.Lib.SmallJoins
import Derived.Test.YtkmhmehofipehaaDoorFileBuildsM10
import Derived.Test.YtkmhmehofipehaaDoorProg
import Derived.Test.YtkmhmehofipehaaDoorFileBuildsM1
import Derived.WalkSpells
import Derived.WalkLawsBesides
namespace Go.Proofs.YtkmhmehofipehaaDoor
set_option linter.unusedVariables false
open Go.RowKit
/-- the bytes of info ahead of their sum -/
def infoHead (k ch bi sh ra bl : Nat) : List UInt8 := [68, 83, 67, 49] ++ bytesLE k 1 ++ bytesLE ch 1 ++ bytesLE bi 1 ++ bytesLE sh 1 ++ bytesLE ra 3 ++ bytesLE bl 4
set_option maxHeartbeats 1000000 in
theorem iput_nil (k ch bi ra bl sh : Int) (w : World) :
    Calls Tryd.prog 38 #[.pointer none, .agg #[.int .i64 k, .int .i64 ch, .int .i64 bi, .int .i64 ra, .int .i64 bl, .int .i64 sh]] w fun e w' => e = .returned (.tuple #[.slice none 0 0, .int .i64 2]) ∧ Below w.heap.size w w' := by
  have hb : Below w.heap.size w (w.alloc (.cells #[.int .i64 k, .int .i64 ch, .int .i64 bi, .int .i64 ra, .int .i64 bl, .int .i64 sh] 25)) := (Below.refl _ w).alloc (Nat.le_refl _) _
  go_enter Tryd.func38, Tryd.ntmps38
  go_wp2_with fail
  go_ret2
  exact ⟨rfl, hb⟩
set_option maxHeartbeats 1000000 in
theorem iput_bad (g : Nat) (k ch bi ra bl sh : Int) (w : World) (hr : rightI k ch bi ra bl sh = false) :
    Calls Tryd.prog 38 #[.pointer (some ⟨g, 0, none⟩), .agg #[.int .i64 k, .int .i64 ch, .int .i64 bi, .int .i64 ra, .int .i64 bl, .int .i64 sh]] w fun e w' => e = .returned (.tuple #[.slice none 0 0, .int .i64 32]) ∧ Below w.heap.size w w' := by
  have hb : Below w.heap.size w (w.alloc (.cells #[.int .i64 k, .int .i64 ch, .int .i64 bi, .int .i64 ra, .int .i64 bl, .int .i64 sh] 25)) := (Below.refl _ w).alloc (Nat.le_refl _) _
  go_enter Tryd.func38, Tryd.ntmps38
  go_wp2_with fail
  refine (iright_any k ch bi ra bl sh _).mono ?_
  rintro e w1 ⟨rfl, hb1⟩
  rw [hr]
  go_wp2_with fail
  go_ret2
  exact ⟨rfl, hb.trans (hb1.mono hb.size)⟩
/-- the four small numbers -/
def four (k ch bi sh : Nat) (i : Nat) : List UInt8 := [68, 83, 67, 49] ++ ((([k, ch, bi, sh] : List Nat).take i).flatMap fun x => bytesLE x 1)
set_option maxHeartbeats 4000000 in
theorem iput_ok (g : Nat) (k ch bi ra bl sh : Nat) (w : World) (ht : Tab w g) (hr : rightI k ch bi ra bl sh = true) (hk : k < 256 ∧ ch < 256 ∧ bi < 256 ∧ sh < 256 ∧ ra < 16777216 ∧ bl < 4294967296) :
    Calls Tryd.prog 38 #[.pointer (some ⟨g, 0, none⟩), .agg #[.int .i64 k, .int .i64 ch, .int .i64 bi, .int .i64 ra, .int .i64 bl, .int .i64 sh]] w (PutPost w (sealed (infoHead k ch bi sh ra bl))) := by
  obtain ⟨k1, k2, k3, k4, k5, k6⟩ := hk
  have hb : Below w.heap.size w (w.alloc (.cells #[.int .i64 k, .int .i64 ch, .int .i64 bi, .int .i64 ra, .int .i64 bl, .int .i64 sh] 25)) := (Below.refl _ w).alloc (Nat.le_refl _) _
  have hrow := heap_alloc_new w (.cells #[.int .i64 k, .int .i64 ch, .int .i64 bi, .int .i64 ra, .int .i64 bl, .int .i64 sh] 25)
  have htg := ht.lt
  go_enter Tryd.func38, Tryd.ntmps38
  go_wp2_with fail
  generalize hw0 : w.alloc (.cells #[.int .i64 k, .int .i64 ch, .int .i64 bi, .int .i64 ra, .int .i64 bl, .int .i64 sh] 25) = w0 at *
  have hlt0 : w.heap.size < w0.heap.size := (Array.getElem?_eq_some_iff.1 hrow).1
  clear hw0
  refine (iright_any k ch bi ra bl sh _).mono ?_
  rintro e w1 ⟨rfl, hb1⟩
  rw [hr]
  have hrow1 := (hb1.block w.heap.size hlt0).trans hrow
  have hlt1 : w.heap.size < w1.heap.size := Nat.lt_of_lt_of_le hlt0 hb1.size
  have hbw1 := hb.trans (hb1.mono hb.size)
  clear hb hb1 hrow hr
  have hm := mk_new w1
  have hb2 : Below w1.heap.size w1 (w1.alloc (.cells #[.int .i64 0, .slice none 0 0] 106)) := (Below.refl _ w1).alloc (Nat.le_refl _) _
  have hrow2 := (hb2.block w.heap.size hlt1).trans hrow1
  have hlt2 : w.heap.size < (w1.alloc (.cells #[.int .i64 0, .slice none 0 0] 106)).heap.size := Nat.lt_of_lt_of_le hlt1 hb2.size
  have hbw2 := hbw1.trans (hb2.mono hbw1.size)
  have hsz2 : (w1.alloc (.cells #[.int .i64 0, .slice none 0 0] 106)).heap.size = w1.heap.size + 1 := by simp
  have hcv := Joins.run_convert_bytes_const_at (P := Tryd.prog) (w1.alloc (.cells #[.int .i64 0, .slice none 0 0] 106)) 32 5 #[.int .u8 68, .int .u8 83, .int .u8 67, .int .u8 49] 4 4 (w1.heap.size + 1) (by simp) Tryd.underlying32 Tryd.underlying5
  go_wp2_with fail
  clear hcv
  generalize w1.alloc (.cells #[.int .i64 0, .slice none 0 0] 106) = w2 at *
  have hb3 : Below w2.heap.size w2 (w2.alloc (.cells #[.int .u8 68, .int .u8 83, .int .u8 67, .int .u8 49] 5 (4, 5))) := (Below.refl _ w2).alloc (Nat.le_refl _) _
  have hs3 : SeesB (w2.alloc (.cells #[.int .u8 68, .int .u8 83, .int .u8 67, .int .u8 49] 5 (4, 5))) (some ⟨w1.heap.size + 1, 0, none⟩) [68, 83, 67, 49] := by
    rw [← hsz2]
    exact Sees.of_block (heap_alloc_new w2 _) rfl
  have hm3 := hm.below hb3
  have hrow3 := (hb3.block w.heap.size hlt2).trans hrow2
  have hlt3 := Nat.lt_of_lt_of_le hlt2 hb3.size
  have hbw3 := hbw2.trans (hb3.mono hbw2.size)
  clear hm hrow2 hrow1 hb2 hb3 hbw2
  generalize w2.alloc (.cells #[.int .u8 68, .int .u8 83, .int .u8 67, .int .u8 49] 5 (4, 5)) = w3 at *
  refine (raw_any w1.heap.size _ 0 [] _ 4 [68, 83, 67, 49] w3 hm3 hs3 (by decide)).mono ?_
  rintro e w4 ⟨rfl, R4, hm4, hB4, hR4⟩
  rw [show putRaw (0, []) [68, 83, 67, 49] = (0, [68, 83, 67, 49]) from rfl] at hm4
  have hR4' : ∀ b, R4 b → w1.heap.size ≤ b := fun b h => by
    rcases hR4 b h with h | h
    · exact Nat.le_of_eq h.symm
    · have := hm3.lt; omega
  have hbw4 := But.below hbw3 hB4 (fun n h => by have := hbw1.size; omega) hbw3.size
  have hrow4 := (hB4.block w.heap.size hlt3 (fun h => by omega)).trans hrow3
  have hlt4 := Nat.lt_of_lt_of_le hlt3 hB4.size
  clear hm3 hs3 hB4 hR4 hrow3 hbw3
  have c0 : w4.cell? ⟨w.heap.size, 0, none⟩ = some (.int .i64 (k : Int)) := by rw [cell_of_row _ _ _ _ _ _ hrow4]; rfl
  have c1 : w4.cell? ⟨w.heap.size, 1, none⟩ = some (.int .i64 (ch : Int)) := by rw [cell_of_row _ _ _ _ _ _ hrow4]; rfl
  have c2 : w4.cell? ⟨w.heap.size, 2, none⟩ = some (.int .i64 (bi : Int)) := by rw [cell_of_row _ _ _ _ _ _ hrow4]; rfl
  have c5 : w4.cell? ⟨w.heap.size, 5, none⟩ = some (.int .i64 (sh : Int)) := by rw [cell_of_row _ _ _ _ _ _ hrow4]; rfl
  go_wp2_with fail
  go_loopw [8, 35] (fun x i wr => ∃ n : Nat, n ≤ 4 ∧ i = .int .i64 n ∧ ∃ R, Mk wr w1.heap.size R 0 (four k ch bi sh n) ∧ (∀ b, R b → w1.heap.size ≤ b) ∧ Below w.heap.size w wr ∧ wr.heap[w.heap.size]? = some (.cells #[.int .i64 k, .int .i64 ch, .int .i64 bi, .int .i64 ra, .int .i64 bl, .int .i64 sh] 25 (0, 0))) (fun _ i _ => 4 - (intOf i).toNat)
  case atStart => exact ⟨0, by omega, rfl, R4, hm4, hR4', hbw4, hrow4⟩
  case round =>
    obtain ⟨n, hn, rfl, R, hm5, hR5, hbw5, hrow5⟩ := hrel
    have i0 : ∀ w, (Instr.index 127 (.agg #[.int .i64 k, .int .i64 ch, .int .i64 bi, .int .i64 sh]) (.int .i64 0)).run Tryd.prog w = .ok (.int .i64 k) w := fun _ => by kernel_rfl
    have i1 : ∀ w, (Instr.index 127 (.agg #[.int .i64 k, .int .i64 ch, .int .i64 bi, .int .i64 sh]) (.int .i64 1)).run Tryd.prog w = .ok (.int .i64 ch) w := fun _ => by kernel_rfl
    have i2 : ∀ w, (Instr.index 127 (.agg #[.int .i64 k, .int .i64 ch, .int .i64 bi, .int .i64 sh]) (.int .i64 2)).run Tryd.prog w = .ok (.int .i64 bi) w := fun _ => by kernel_rfl
    have i3 : ∀ w, (Instr.index 127 (.agg #[.int .i64 k, .int .i64 ch, .int .i64 bi, .int .i64 sh]) (.int .i64 3)).run Tryd.prog w = .ok (.int .i64 sh) w := fun _ => by kernel_rfl
    have hlt5 : w.heap.size < wr.heap.size := (Array.getElem?_eq_some_iff.1 hrow5).1
    have hlw5 : w1.heap.size < wr.heap.size := hm5.lt
    clear c0 c1 c2 c5
    by_cases hlt : n < 4
    · have hcase : n = 0 ∨ n = 1 ∨ n = 2 ∨ n = 3 := by omega
      rcases hcase with hh | hh | hh | hh
      · subst hh
        have hp : putU (0, four k ch bi sh 0) k 1 = (0, four k ch bi sh 1) := putU_ok _ k 1 (by omega) (by omega)
        have hst := hid (makerU_any w1.heap.size R 0 (four k ch bi sh 0) k 1 wr hm5 (by omega) (by simp [four]))
        rw [hp] at hst
        clear hp
        go_wp2_with fail
        refine hst.out.mono ?_
        rintro e w6 ⟨rfl, R6, hm6, hB6, hR6⟩
        have hbw6 := But.below hbw5 hB6 (fun b h => by have := hR5 b h; have := hbw1.size; omega) hbw5.size
        have hrow6 := (hB6.block w.heap.size hlt5 (fun h => by have := hR5 _ h; omega)).trans hrow5
        have hR6' : ∀ b, R6 b → w1.heap.size ≤ b := fun b h => by
          rcases hR6 b h with h | h
          · exact hR5 b h
          · omega
        go_wp2_with fail
        exact ⟨⟨1, by omega, by go_num, R6, hm6, hR6', hbw6, hrow6⟩, by simp [intOf]⟩
      · subst hh
        have hp : putU (0, four k ch bi sh 1) ch 1 = (0, four k ch bi sh 2) := putU_ok _ ch 1 (by omega) (by omega)
        have hst := hid (makerU_any w1.heap.size R 0 (four k ch bi sh 1) ch 1 wr hm5 (by omega) (by simp [four, bytesLE_length]))
        rw [hp] at hst
        clear hp
        go_wp2_with fail
        refine hst.out.mono ?_
        rintro e w6 ⟨rfl, R6, hm6, hB6, hR6⟩
        have hbw6 := But.below hbw5 hB6 (fun b h => by have := hR5 b h; have := hbw1.size; omega) hbw5.size
        have hrow6 := (hB6.block w.heap.size hlt5 (fun h => by have := hR5 _ h; omega)).trans hrow5
        have hR6' : ∀ b, R6 b → w1.heap.size ≤ b := fun b h => by
          rcases hR6 b h with h | h
          · exact hR5 b h
          · omega
        go_wp2_with fail
        exact ⟨⟨2, by omega, by go_num, R6, hm6, hR6', hbw6, hrow6⟩, by simp [intOf]⟩
      · subst hh
        have hp : putU (0, four k ch bi sh 2) bi 1 = (0, four k ch bi sh 3) := putU_ok _ bi 1 (by omega) (by omega)
        have hst := hid (makerU_any w1.heap.size R 0 (four k ch bi sh 2) bi 1 wr hm5 (by omega) (by simp [four, bytesLE_length]))
        rw [hp] at hst
        clear hp
        go_wp2_with fail
        refine hst.out.mono ?_
        rintro e w6 ⟨rfl, R6, hm6, hB6, hR6⟩
        have hbw6 := But.below hbw5 hB6 (fun b h => by have := hR5 b h; have := hbw1.size; omega) hbw5.size
        have hrow6 := (hB6.block w.heap.size hlt5 (fun h => by have := hR5 _ h; omega)).trans hrow5
        have hR6' : ∀ b, R6 b → w1.heap.size ≤ b := fun b h => by
          rcases hR6 b h with h | h
          · exact hR5 b h
          · omega
        go_wp2_with fail
        exact ⟨⟨3, by omega, by go_num, R6, hm6, hR6', hbw6, hrow6⟩, by simp [intOf]⟩
      · subst hh
        have hp : putU (0, four k ch bi sh 3) sh 1 = (0, four k ch bi sh 4) := putU_ok _ sh 1 (by omega) (by omega)
        have hst := hid (makerU_any w1.heap.size R 0 (four k ch bi sh 3) sh 1 wr hm5 (by omega) (by simp [four, bytesLE_length]))
        rw [hp] at hst
        clear hp
        go_wp2_with fail
        refine hst.out.mono ?_
        rintro e w6 ⟨rfl, R6, hm6, hB6, hR6⟩
        have hbw6 := But.below hbw5 hB6 (fun b h => by have := hR5 b h; have := hbw1.size; omega) hbw5.size
        have hrow6 := (hB6.block w.heap.size hlt5 (fun h => by have := hR5 _ h; omega)).trans hrow5
        have hR6' : ∀ b, R6 b → w1.heap.size ≤ b := fun b h => by
          rcases hR6 b h with h | h
          · exact hR5 b h
          · omega
        go_wp2_with fail
        exact ⟨⟨4, by omega, by go_num, R6, hm6, hR6', hbw6, hrow6⟩, by simp [intOf]⟩
    · obtain rfl : n = 4 := by omega
      have c3 : wr.cell? ⟨w.heap.size, 3, none⟩ = some (.int .i64 (ra : Int)) := by rw [cell_of_row _ _ _ _ _ _ hrow5]; rfl
      have hp : putU (0, four k ch bi sh 4) ra 3 = (0, four k ch bi sh 4 ++ bytesLE ra 3) := putU_ok _ ra 3 (by omega) (by omega)
      have hst := hid (makerU_any w1.heap.size R 0 (four k ch bi sh 4) ra 3 wr hm5 (by omega) (by simp [four, bytesLE_length]))
      rw [hp] at hst
      clear hp
      go_wp2_with fail
      refine hst.out.mono ?_
      rintro e w6 ⟨rfl, R6, hm6, hB6, hR6⟩
      have hbw6 := But.below hbw5 hB6 (fun b h => by have := hR5 b h; have := hbw1.size; omega) hbw5.size
      have hrow6 := (hB6.block w.heap.size hlt5 (fun h => by have := hR5 _ h; omega)).trans hrow5
      have hlt6 : w.heap.size < w6.heap.size := (Array.getElem?_eq_some_iff.1 hrow6).1
      have hR6' : ∀ b, R6 b → w1.heap.size ≤ b := fun b h => by
        rcases hR6 b h with h | h
        · exact hR5 b h
        · omega
      have c4 : w6.cell? ⟨w.heap.size, 4, none⟩ = some (.int .i64 (bl : Int)) := by rw [cell_of_row _ _ _ _ _ _ hrow6]; rfl
      have hp : putU (0, four k ch bi sh 4 ++ bytesLE ra 3) bl 4 = (0, infoHead k ch bi sh ra bl) := (putU_ok _ bl 4 (by omega) (by omega)).trans (by rw [show infoHead k ch bi sh ra bl = four k ch bi sh 4 ++ bytesLE ra 3 ++ bytesLE bl 4 by simp [infoHead, four]])
      have hst := hid (makerU_any w1.heap.size R6 0 (four k ch bi sh 4 ++ bytesLE ra 3) bl 4 w6 hm6 (by omega) (by simp [four, bytesLE_length]))
      rw [hp] at hst
      have hlw6 := hm6.lt
      clear hp hB6 hR6 hm6 hrow5 hbw5 hm5 c3
      go_wp2_with fail
      refine hst.out.mono ?_
      rintro e w7 ⟨rfl, R7, hm7, hB7, hR7⟩
      have hbw7 := But.below hbw6 hB7 (fun b h => by have := hR6' b h; have := hbw1.size; omega) hbw6.size
      have hR7' : ∀ b, R7 b → w1.heap.size ≤ b := fun b h => by
        rcases hR7 b h with h | h
        · exact hR6' b h
        · omega
      have hhl : (infoHead k ch bi sh ra bl).length = 15 := by simp [infoHead, bytesLE_length]
      generalize infoHead k ch bi sh ra bl = L at *
      have HL := hid hhl
      clear hhl
      clear hst hB7 hR7 c4 hrow6
      go_wp2_with fail
      refine (bytes_ok w1.heap.size R7 L w7 hm7 (by rw [HL.out]; omega)).mono ?_
      rintro e w8 ⟨v, rfl, hv⟩
      obtain ⟨A8, c8, rfl, hs8, hA8, ho8, hb8⟩ := hv.parts
      have hbw8 := hbw7.trans (hb8.mono hbw7.size)
      have hm8 := hm7.below hb8
      have hsr := sumI_range L
      obtain ⟨S, hS⟩ := Int.eq_ofNat_of_zero_le hsr.1
      go_wp2_with fail
      refine (sum_any g A8 c8 L w8 (ht.keep hbw8 htg) hs8 (by rw [HL.out]; omega)).mono ?_
      rintro e w9 ⟨rfl, rfl⟩
      have hse : sealed L = L ++ bytesLE S 4 := by unfold sealed; rw [hS]; rfl
      have HSE := hid hse
      rw [hS] at hsr ⊢
      have hS4 : S < 4294967296 := by omega
      clear hse hS
      have hp : putU (0, L) S 4 = (0, L ++ bytesLE S 4) := putU_ok _ S 4 (by omega) (by omega)
      have hst := hid (makerU_any w1.heap.size R7 0 L S 4 w8 hm8 (by omega) (by rw [HL.out]; omega))
      rw [hp] at hst
      clear hp hm7 hv ho8 hs8 hA8
      go_wp2_with fail
      refine hst.out.mono ?_
      rintro e wa ⟨rfl, Ra, hma, hBa, hRa⟩
      have hbwa := But.below hbw8 hBa (fun b h => by have := hR7' b h; have := hbw1.size; omega) hbw8.size
      go_wp2_with fail
      refine (bytes_ok w1.heap.size Ra _ wa hma (by rw [List.length_append, bytesLE_length, HL.out]; omega)).mono ?_
      rintro e wb ⟨v, rfl, hv⟩
      have hf : PutPost w (sealed L) (.returned (.tuple #[v, .int .i64 0])) wb := ⟨v, rfl, by rw [HSE.out]; exact hv.lower hbwa⟩
      go_wp2_with fail
      go_ret2
      exact hf
end Go.Proofs.YtkmhmehofipehaaDoor
/- Contracts: rising, Right, of the program and of the reference. -/
namespace Go.Proofs.YtkmhmehofipehaaDoor
set_option linter.unusedVariables false
open Go.RowKit
def fallB (x last en : Int) : Bool := decide (x ≤ last) || decide (en ≤ x)
def risesB (last en : Int) : List Int → Bool
  | [] => true
  | x :: l => !fallB x last en && risesB x en l
def One (w : World) (g : Nat) (z : Int) : Prop := w.heap[g]? = some (.cells #[.int .i64 z] 3 (0, 0))
theorem One.cell {w : World} {g : Nat} {z : Int} (h : One w g z) : w.cell? ⟨g, 0, none⟩ = some (.int .i64 z) := cell_of_row w g 0 _ _ _ h
theorem One.frozen {w : World} {g : Nat} {z : Int} (h : One w g z) : w.frozen? ⟨g, 0, none⟩ = false := frozen_of_row w g 0 _ _ h
theorem One.set {w : World} {g : Nat} {z : Int} (h : One w g z) (y : Int) : One (w.setCell ⟨g, 0, none⟩ (.int .i64 y)) g y := by
  have := heap_setCell_same w g 0 _ _ (.int .i64 y) h
  exact this
theorem One.other {w : World} {g : Nat} {z : Int} (h : One w g z) (p : Addr) (hp : g ≠ p.block) (u : Value) : One (w.setCell p u) g z := (heap_setCell_other w p g u hp).trans h
set_option maxHeartbeats 400000 in
theorem fall_any (x last en : Int) (g0 g1 : Nat) (w : World) (h0 : One w g0 en) (h1 : One w g1 last) :
    Calls Tryd.prog 105 #[.int .i64 x, .pointer (some ⟨g1, 0, none⟩), .pointer (some ⟨g0, 0, none⟩)] w fun e w' => e = .returned (.bool (fallB x last en)) ∧ w.setCell ⟨g1, 0, none⟩ (.int .i64 x) = w' := by
  have hc0 := h0.cell
  have hc1 := h1.cell
  have hf := h1.frozen
  clear h0 h1
  by_cases hx : x ≤ last
  · have hd : decide (x ≤ last) = true := by simpa using hx
    go_enter Tryd.func105, Tryd.ntmps105
    go_wp2
    go_ret
    exact ⟨by rw [fallB, hd]; rfl, rfl⟩
  · have hd : decide (x ≤ last) = false := by simpa using hx
    go_enter Tryd.func105, Tryd.ntmps105
    go_wp2
    go_ret
    exact ⟨by rw [fallB, hd]; rfl, rfl⟩
def IdxPost (w : World) (g1 : Nat) (b : Bool) (e : Ending) (w' : World) : Prop := ∃ r : Int, e = .returned (.int .i64 r) ∧ decide (0 ≤ r) = !b ∧ Below g1 w w'
set_option maxHeartbeats 400000 in
theorem index_any (A : Option Addr) (c : Nat) (l : List Int) (last en : Int) (g0 g1 : Nat) (w : World) (hl : SeesI w A l) (hlen : l.length ≤ 9223372036854775807) (h0 : One w g0 en) (h1 : One w g1 last) (hg : g0 < g1) (hA : ∀ a, A = some a → 0 < l.length → a.block < g1) :
    Calls Tryd.prog 114 #[.slice A l.length c, .func (.func 105) #[] #[.pointer (some ⟨g1, 0, none⟩), .pointer (some ⟨g0, 0, none⟩)]] w (IdxPost w g1 (risesB last en l)) := by
  go_enter Tryd.func114, Tryd.ntmps114
  go_wp2
  go_loopw [8] (fun i wr => ∃ k : Nat, k ≤ l.length ∧ i = .int .i64 k ∧ Below g1 w wr ∧ One wr g0 en ∧ ∃ la : Int, One wr g1 la ∧ risesB last en l = risesB la en (l.drop k)) (fun i _ => l.length - (intOf i).toNat)
  case atStart => exact ⟨0, by omega, rfl, Below.refl _ _, h0, last, h1, rfl⟩
  case round =>
    obtain ⟨k, hk, rfl, hb, ho0, la, ho1, hr⟩ := hrel
    have HR := hid hr
    clear hr
    by_cases hlt : k < l.length
    · obtain ⟨a, rfl, hc⟩ := hl.at hlt
      have hab := hA a rfl (by omega)
      have hcw : wr.cell? (a.add k) = some (.int .i64 l[k]) := (hb.cell (by rw [addr_block]; exact hab)).trans hc
      have hstep : risesB la en (l.drop k) = (!fallB l[k] la en && risesB l[k] en (l.drop (k + 1))) := by rw [List.drop_eq_getElem_cons hlt]; rfl
      have HS := hid hstep
      clear hstep hc
      generalize l[k] = x at hcw HS
      have hd : decide ((k : Int) < l.length) = true := by simp; omega
      by_cases hf : fallB x la en = true
      · go_wp2_with (fail)
        refine (fall_any _ _ _ _ _ _ ho0 ho1).mono ?_
        rintro e w2 ⟨rfl, rfl⟩
        go_wp2_with fail
        go_ret
        exact ⟨k, rfl, by rw [HR.out, HS.out, hf]; simp, hb.setCell (Nat.le_refl _) _⟩
      · have hf' : fallB x la en = false := by simpa using hf
        go_wp2_with (fail)
        refine (fall_any _ _ _ _ _ _ ho0 ho1).mono ?_
        rintro e w2 ⟨rfl, rfl⟩
        go_wp2_with fail
        go_roundw
        case rel => exact ⟨k + 1, by omega, by go_num, hb.setCell (Nat.le_refl _) _, ho0.other _ (by simp; omega) _, x, ho1.set _, by rw [HR.out, HS.out, hf']; rfl⟩
        case measure => simp [intOf]; omega
    · obtain rfl : k = l.length := by omega
      go_wp2_with fail
      go_ret
      exact ⟨-1, rfl, by rw [HR.out, List.drop_length]; rfl, hb⟩
def BoolPost (w : World) (B : Nat) (b : Bool) (e : Ending) (w' : World) : Prop := e = .returned (.bool b) ∧ Below B w w'
set_option maxHeartbeats 400000 in
theorem contains_any (A : Option Addr) (c : Nat) (l : List Int) (last en : Int) (g0 g1 : Nat) (w : World) (hl : SeesI w A l) (hlen : l.length ≤ 9223372036854775807) (h0 : One w g0 en) (h1 : One w g1 last) (hg : g0 < g1) (hA : ∀ a, A = some a → 0 < l.length → a.block < g1) :
    Calls Tryd.prog 104 #[.slice A l.length c, .func (.func 105) #[] #[.pointer (some ⟨g1, 0, none⟩), .pointer (some ⟨g0, 0, none⟩)]] w (BoolPost w g1 (!risesB last en l)) := by
  go_enter Tryd.func104, Tryd.ntmps104
  go_wp2_with fail
  refine (index_any A c l last en g0 g1 w hl hlen h0 h1 hg hA).mono ?_
  rintro e w1 ⟨r, rfl, hr, hb⟩
  have HR := hid hr
  clear hr
  go_wp2_with fail
  go_ret
  exact ⟨by rw [← HR.out]; rfl, hb⟩
set_option maxHeartbeats 400000 in
theorem rising_any (A : Option Addr) (c : Nat) (l : List Int) (en : Int) (w : World) (hl : SeesI w A l) (hlen : l.length ≤ 9223372036854775807) :
    Calls Tryd.prog 73 #[.slice A l.length c, .int .i64 en] w (BoolPost w w.heap.size (risesB (-1) en l)) := by
  have hb : Below w.heap.size w ((w.alloc (.cells #[.int .i64 en] 3)).alloc (.cells #[.int .i64 (-1)] 3)) := ((Below.refl _ w).alloc (Nat.le_refl _) _).alloc (by simp) _
  have hl2 := hl.below hb
  have h0 : One ((w.alloc (.cells #[.int .i64 en] 3)).alloc (.cells #[.int .i64 (-1)] 3)) w.heap.size en := heap_alloc2_old _ _ _
  have h1 : One ((w.alloc (.cells #[.int .i64 en] 3)).alloc (.cells #[.int .i64 (-1)] 3)) (w.heap.size + 1) (-1) := heap_alloc2_new _ _ _
  have hA : ∀ a, A = some a → 0 < l.length → a.block < w.heap.size + 1 := by
    intro a ha h0
    obtain ⟨a', ha', hc⟩ := hl.at h0
    rw [ha] at ha'; injection ha' with ha'; subst ha'
    have := block_lt_of_cell hc
    rw [addr_block] at this; omega
  go_enter Tryd.func73, Tryd.ntmps73
  go_wp2_with fail
  refine (contains_any A c l _ _ _ _ _ hl2 hlen h0 h1 (by omega) hA).mono ?_
  rintro e w1 ⟨rfl, hb1⟩
  go_wp2_with fail
  go_ret
  exact ⟨by simp, hb.trans (hb1.mono (Nat.le_succ _))⟩
def rightB (count : Int) (l : List Int) : Bool := decide (0 ≤ count) && (decide (count ≤ 4294967295) && (decide (l.length ≤ 16777216) && risesB (-1) 1099511627776 l))
def TailV (count sum : Int) (A : Option Addr) (n c : Nat) : Value := .agg #[.int .i64 count, .int .u32 sum, .slice A n c]
set_option maxHeartbeats 400000 in
theorem right_any (count sum : Int) (A : Option Addr) (c : Nat) (l : List Int) (w : World) (hl : SeesI w A l) (hlen : l.length ≤ 9223372036854775807) :
    Calls Tryd.prog 44 #[.agg #[.int .i64 count, .int .u32 sum, .slice A l.length c]] w (BoolPost w w.heap.size (rightB count l)) := by
  go_enter Tryd.func44, Tryd.ntmps44
  go_wp2_with fail
  · have h1 : 0 ≤ count := by assumption
    have h2 : count ≤ 4294967295 := by assumption
    have h3 : (l.length : Int) ≤ 16777216 := by assumption
    have hb : Below w.heap.size w (w.alloc (.cells #[.int .i64 count, .int .u32 sum, .slice A l.length c] 43)) := (Below.refl _ w).alloc (Nat.le_refl _) _
    refine (rising_any A c l 1099511627776 _ (hl.below hb) hlen).mono ?_
    rintro e w1 ⟨rfl, hb1⟩
    go_wp2_with fail
    go_ret
    exact ⟨by rw [rightB]; simp [h1, h2, show l.length ≤ 16777216 by omega], hb.trans (hb1.mono (by simp))⟩
  all_goals
    go_ret
    exact ⟨by rw [rightB]; simp; omega, (Below.refl _ w).alloc (Nat.le_refl _) _⟩
theorem right_is (count sum : Int) (A : Option Addr) (c : Nat) (l : List Int) (w : World) (hl : SeesI w A l) (hlen : l.length ≤ 9223372036854775807) (v : Bool) (hv : rightB count l = v) :
    Calls Tryd.prog 44 #[.agg #[.int .i64 count, .int .u32 sum, .slice A l.length c]] w fun e w' => e = .returned (.bool v) ∧ Below w.heap.size w w' :=
  hv ▸ right_any count sum A c l w hl hlen
end Go.Proofs.YtkmhmehofipehaaDoor
