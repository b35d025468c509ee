/- Info as bytes. -/
import Derived.Test.YtkmhmehofipehaaDoorK1
import Derived.Test.YtkmhmehofipehaaDoorK11
import Derived.Test.YtkmhmehofipehaaDoorK5
import Derived.Lib.SmallJoins
import Derived.Test.YtkmhmehofipehaaDoorK6
import Derived.Test.YtkmhmehofipehaaDoorProg
import Derived.WalkSpells
import Derived.WalkLawsBesides
import Derived.Test.YtkmhmehofipehaaDoorK8
import Derived.Lib.AppendZerosOnto
namespace Go.Proofs.YtkmhmehofipehaaDoor
set_option linter.unusedVariables false
open Go.RowKit
/-- the bytes of info ahead of their sum -/
def infoHead (k ch bi sh ra bl : Nat) : List UInt8 := [68, 83, 67, 49] ++ bytesLE k 1 ++ bytesLE ch 1 ++ bytesLE bi 1 ++ bytesLE sh 1 ++ bytesLE ra 3 ++ bytesLE bl 4
set_option maxHeartbeats 1000000 in
theorem iput_nil (k ch bi ra bl sh : Int) (w : World) :
    Calls Tryd.prog 38 #[.pointer none, .agg #[.int .i64 k, .int .i64 ch, .int .i64 bi, .int .i64 ra, .int .i64 bl, .int .i64 sh]] w fun e w' => e = .returned (.tuple #[.slice none 0 0, .int .i64 2]) ∧ Below w.heap.size w w' := by
  have hb : Below w.heap.size w (w.alloc (.cells #[.int .i64 k, .int .i64 ch, .int .i64 bi, .int .i64 ra, .int .i64 bl, .int .i64 sh] 25)) := (Below.refl _ w).alloc (Nat.le_refl _) _
  go_enter Tryd.func38, Tryd.ntmps38
  go_wp2_with fail
  go_ret2
  exact ⟨rfl, hb⟩
set_option maxHeartbeats 1000000 in
theorem iput_bad (g : Nat) (k ch bi ra bl sh : Int) (w : World) (hr : rightI k ch bi ra bl sh = false) :
    Calls Tryd.prog 38 #[.pointer (some ⟨g, 0, none⟩), .agg #[.int .i64 k, .int .i64 ch, .int .i64 bi, .int .i64 ra, .int .i64 bl, .int .i64 sh]] w fun e w' => e = .returned (.tuple #[.slice none 0 0, .int .i64 32]) ∧ Below w.heap.size w w' := by
  have hb : Below w.heap.size w (w.alloc (.cells #[.int .i64 k, .int .i64 ch, .int .i64 bi, .int .i64 ra, .int .i64 bl, .int .i64 sh] 25)) := (Below.refl _ w).alloc (Nat.le_refl _) _
  go_enter Tryd.func38, Tryd.ntmps38
  go_wp2_with fail
  refine (iright_any k ch bi ra bl sh _).mono ?_
  rintro e w1 ⟨rfl, hb1⟩
  rw [hr]
  go_wp2_with fail
  go_ret2
  exact ⟨rfl, hb.trans (hb1.mono hb.size)⟩
/-- the four small numbers -/
def four (k ch bi sh : Nat) (i : Nat) : List UInt8 := [68, 83, 67, 49] ++ ((([k, ch, bi, sh] : List Nat).take i).flatMap fun x => bytesLE x 1)
set_option maxHeartbeats 4000000 in
theorem iput_ok (g : Nat) (k ch bi ra bl sh : Nat) (w : World) (ht : Tab w g) (hr : rightI k ch bi ra bl sh = true) (hk : k < 256 ∧ ch < 256 ∧ bi < 256 ∧ sh < 256 ∧ ra < 16777216 ∧ bl < 4294967296) :
    Calls Tryd.prog 38 #[.pointer (some ⟨g, 0, none⟩), .agg #[.int .i64 k, .int .i64 ch, .int .i64 bi, .int .i64 ra, .int .i64 bl, .int .i64 sh]] w (PutPost w (sealed (infoHead k ch bi sh ra bl))) := by
  obtain ⟨k1, k2, k3, k4, k5, k6⟩ := hk
  have hb : Below w.heap.size w (w.alloc (.cells #[.int .i64 k, .int .i64 ch, .int .i64 bi, .int .i64 ra, .int .i64 bl, .int .i64 sh] 25)) := (Below.refl _ w).alloc (Nat.le_refl _) _
  have hrow := heap_alloc_new w (.cells #[.int .i64 k, .int .i64 ch, .int .i64 bi, .int .i64 ra, .int .i64 bl, .int .i64 sh] 25)
  have htg := ht.lt
  go_enter Tryd.func38, Tryd.ntmps38
  go_wp2_with fail
  generalize hw0 : w.alloc (.cells #[.int .i64 k, .int .i64 ch, .int .i64 bi, .int .i64 ra, .int .i64 bl, .int .i64 sh] 25) = w0 at *
  have hlt0 : w.heap.size < w0.heap.size := (Array.getElem?_eq_some_iff.1 hrow).1
  clear hw0
  refine (iright_any k ch bi ra bl sh _).mono ?_
  rintro e w1 ⟨rfl, hb1⟩
  rw [hr]
  have hrow1 := (hb1.block w.heap.size hlt0).trans hrow
  have hlt1 : w.heap.size < w1.heap.size := Nat.lt_of_lt_of_le hlt0 hb1.size
  have hbw1 := hb.trans (hb1.mono hb.size)
  clear hb hb1 hrow hr
  have hm := mk_new w1
  have hb2 : Below w1.heap.size w1 (w1.alloc (.cells #[.int .i64 0, .slice none 0 0] 106)) := (Below.refl _ w1).alloc (Nat.le_refl _) _
  have hrow2 := (hb2.block w.heap.size hlt1).trans hrow1
  have hlt2 : w.heap.size < (w1.alloc (.cells #[.int .i64 0, .slice none 0 0] 106)).heap.size := Nat.lt_of_lt_of_le hlt1 hb2.size
  have hbw2 := hbw1.trans (hb2.mono hbw1.size)
  have hsz2 : (w1.alloc (.cells #[.int .i64 0, .slice none 0 0] 106)).heap.size = w1.heap.size + 1 := by simp
  have hcv := Joins.run_convert_bytes_const_at (P := Tryd.prog) (w1.alloc (.cells #[.int .i64 0, .slice none 0 0] 106)) 32 5 #[.int .u8 68, .int .u8 83, .int .u8 67, .int .u8 49] 4 4 (w1.heap.size + 1) (by simp) Tryd.underlying32 Tryd.underlying5
  go_wp2_with fail
  clear hcv
  generalize w1.alloc (.cells #[.int .i64 0, .slice none 0 0] 106) = w2 at *
  have hb3 : Below w2.heap.size w2 (w2.alloc (.cells #[.int .u8 68, .int .u8 83, .int .u8 67, .int .u8 49] 5 (4, 5))) := (Below.refl _ w2).alloc (Nat.le_refl _) _
  have hs3 : SeesB (w2.alloc (.cells #[.int .u8 68, .int .u8 83, .int .u8 67, .int .u8 49] 5 (4, 5))) (some ⟨w1.heap.size + 1, 0, none⟩) [68, 83, 67, 49] := by
    rw [← hsz2]
    exact Sees.of_block (heap_alloc_new w2 _) rfl
  have hm3 := hm.below hb3
  have hrow3 := (hb3.block w.heap.size hlt2).trans hrow2
  have hlt3 := Nat.lt_of_lt_of_le hlt2 hb3.size
  have hbw3 := hbw2.trans (hb3.mono hbw2.size)
  clear hm hrow2 hrow1 hb2 hb3 hbw2
  generalize w2.alloc (.cells #[.int .u8 68, .int .u8 83, .int .u8 67, .int .u8 49] 5 (4, 5)) = w3 at *
  refine (raw_any w1.heap.size _ 0 [] _ 4 [68, 83, 67, 49] w3 hm3 hs3 (by decide)).mono ?_
  rintro e w4 ⟨rfl, R4, hm4, hB4, hR4⟩
  rw [show putRaw (0, []) [68, 83, 67, 49] = (0, [68, 83, 67, 49]) from rfl] at hm4
  have hR4' : ∀ b, R4 b → w1.heap.size ≤ b := fun b h => by
    rcases hR4 b h with h | h
    · exact Nat.le_of_eq h.symm
    · have := hm3.lt; omega
  have hbw4 := But.below hbw3 hB4 (fun n h => by have := hbw1.size; omega) hbw3.size
  have hrow4 := (hB4.block w.heap.size hlt3 (fun h => by omega)).trans hrow3
  have hlt4 := Nat.lt_of_lt_of_le hlt3 hB4.size
  clear hm3 hs3 hB4 hR4 hrow3 hbw3
  have c0 : w4.cell? ⟨w.heap.size, 0, none⟩ = some (.int .i64 (k : Int)) := by rw [cell_of_row _ _ _ _ _ _ hrow4]; rfl
  have c1 : w4.cell? ⟨w.heap.size, 1, none⟩ = some (.int .i64 (ch : Int)) := by rw [cell_of_row _ _ _ _ _ _ hrow4]; rfl
  have c2 : w4.cell? ⟨w.heap.size, 2, none⟩ = some (.int .i64 (bi : Int)) := by rw [cell_of_row _ _ _ _ _ _ hrow4]; rfl
  have c5 : w4.cell? ⟨w.heap.size, 5, none⟩ = some (.int .i64 (sh : Int)) := by rw [cell_of_row _ _ _ _ _ _ hrow4]; rfl
  go_wp2_with fail
  go_loopw [8, 35] (fun x i wr => ∃ n : Nat, n ≤ 4 ∧ i = .int .i64 n ∧ ∃ R, Mk wr w1.heap.size R 0 (four k ch bi sh n) ∧ (∀ b, R b → w1.heap.size ≤ b) ∧ Below w.heap.size w wr ∧ wr.heap[w.heap.size]? = some (.cells #[.int .i64 k, .int .i64 ch, .int .i64 bi, .int .i64 ra, .int .i64 bl, .int .i64 sh] 25 (0, 0))) (fun _ i _ => 4 - (intOf i).toNat)
  case atStart => exact ⟨0, by omega, rfl, R4, hm4, hR4', hbw4, hrow4⟩
  case round =>
    obtain ⟨n, hn, rfl, R, hm5, hR5, hbw5, hrow5⟩ := hrel
    have i0 : ∀ w, (Instr.index 127 (.agg #[.int .i64 k, .int .i64 ch, .int .i64 bi, .int .i64 sh]) (.int .i64 0)).run Tryd.prog w = .ok (.int .i64 k) w := fun _ => by kernel_rfl
    have i1 : ∀ w, (Instr.index 127 (.agg #[.int .i64 k, .int .i64 ch, .int .i64 bi, .int .i64 sh]) (.int .i64 1)).run Tryd.prog w = .ok (.int .i64 ch) w := fun _ => by kernel_rfl
    have i2 : ∀ w, (Instr.index 127 (.agg #[.int .i64 k, .int .i64 ch, .int .i64 bi, .int .i64 sh]) (.int .i64 2)).run Tryd.prog w = .ok (.int .i64 bi) w := fun _ => by kernel_rfl
    have i3 : ∀ w, (Instr.index 127 (.agg #[.int .i64 k, .int .i64 ch, .int .i64 bi, .int .i64 sh]) (.int .i64 3)).run Tryd.prog w = .ok (.int .i64 sh) w := fun _ => by kernel_rfl
    have hlt5 : w.heap.size < wr.heap.size := (Array.getElem?_eq_some_iff.1 hrow5).1
    have hlw5 : w1.heap.size < wr.heap.size := hm5.lt
    clear c0 c1 c2 c5
    by_cases hlt : n < 4
    · have hcase : n = 0 ∨ n = 1 ∨ n = 2 ∨ n = 3 := by omega
      rcases hcase with hh | hh | hh | hh
      · subst hh
        have hp : putU (0, four k ch bi sh 0) k 1 = (0, four k ch bi sh 1) := putU_ok _ k 1 (by omega) (by omega)
        have hst := hid (makerU_any w1.heap.size R 0 (four k ch bi sh 0) k 1 wr hm5 (by omega) (by simp [four]))
        rw [hp] at hst
        clear hp
        go_wp2_with fail
        refine hst.out.mono ?_
        rintro e w6 ⟨rfl, R6, hm6, hB6, hR6⟩
        have hbw6 := But.below hbw5 hB6 (fun b h => by have := hR5 b h; have := hbw1.size; omega) hbw5.size
        have hrow6 := (hB6.block w.heap.size hlt5 (fun h => by have := hR5 _ h; omega)).trans hrow5
        have hR6' : ∀ b, R6 b → w1.heap.size ≤ b := fun b h => by
          rcases hR6 b h with h | h
          · exact hR5 b h
          · omega
        go_wp2_with fail
        exact ⟨⟨1, by omega, by go_num, R6, hm6, hR6', hbw6, hrow6⟩, by simp [intOf]⟩
      · subst hh
        have hp : putU (0, four k ch bi sh 1) ch 1 = (0, four k ch bi sh 2) := putU_ok _ ch 1 (by omega) (by omega)
        have hst := hid (makerU_any w1.heap.size R 0 (four k ch bi sh 1) ch 1 wr hm5 (by omega) (by simp [four, bytesLE_length]))
        rw [hp] at hst
        clear hp
        go_wp2_with fail
        refine hst.out.mono ?_
        rintro e w6 ⟨rfl, R6, hm6, hB6, hR6⟩
        have hbw6 := But.below hbw5 hB6 (fun b h => by have := hR5 b h; have := hbw1.size; omega) hbw5.size
        have hrow6 := (hB6.block w.heap.size hlt5 (fun h => by have := hR5 _ h; omega)).trans hrow5
        have hR6' : ∀ b, R6 b → w1.heap.size ≤ b := fun b h => by
          rcases hR6 b h with h | h
          · exact hR5 b h
          · omega
        go_wp2_with fail
        exact ⟨⟨2, by omega, by go_num, R6, hm6, hR6', hbw6, hrow6⟩, by simp [intOf]⟩
      · subst hh
        have hp : putU (0, four k ch bi sh 2) bi 1 = (0, four k ch bi sh 3) := putU_ok _ bi 1 (by omega) (by omega)
        have hst := hid (makerU_any w1.heap.size R 0 (four k ch bi sh 2) bi 1 wr hm5 (by omega) (by simp [four, bytesLE_length]))
        rw [hp] at hst
        clear hp
        go_wp2_with fail
        refine hst.out.mono ?_
        rintro e w6 ⟨rfl, R6, hm6, hB6, hR6⟩
        have hbw6 := But.below hbw5 hB6 (fun b h => by have := hR5 b h; have := hbw1.size; omega) hbw5.size
        have hrow6 := (hB6.block w.heap.size hlt5 (fun h => by have := hR5 _ h; omega)).trans hrow5
        have hR6' : ∀ b, R6 b → w1.heap.size ≤ b := fun b h => by
          rcases hR6 b h with h | h
          · exact hR5 b h
          · omega
        go_wp2_with fail
        exact ⟨⟨3, by omega, by go_num, R6, hm6, hR6', hbw6, hrow6⟩, by simp [intOf]⟩
      · subst hh
        have hp : putU (0, four k ch bi sh 3) sh 1 = (0, four k ch bi sh 4) := putU_ok _ sh 1 (by omega) (by omega)
        have hst := hid (makerU_any w1.heap.size R 0 (four k ch bi sh 3) sh 1 wr hm5 (by omega) (by simp [four, bytesLE_length]))
        rw [hp] at hst
        clear hp
        go_wp2_with fail
        refine hst.out.mono ?_
        rintro e w6 ⟨rfl, R6, hm6, hB6, hR6⟩
        have hbw6 := But.below hbw5 hB6 (fun b h => by have := hR5 b h; have := hbw1.size; omega) hbw5.size
        have hrow6 := (hB6.block w.heap.size hlt5 (fun h => by have := hR5 _ h; omega)).trans hrow5
        have hR6' : ∀ b, R6 b → w1.heap.size ≤ b := fun b h => by
          rcases hR6 b h with h | h
          · exact hR5 b h
          · omega
        go_wp2_with fail
        exact ⟨⟨4, by omega, by go_num, R6, hm6, hR6', hbw6, hrow6⟩, by simp [intOf]⟩
    · obtain rfl : n = 4 := by omega
      have c3 : wr.cell? ⟨w.heap.size, 3, none⟩ = some (.int .i64 (ra : Int)) := by rw [cell_of_row _ _ _ _ _ _ hrow5]; rfl
      have hp : putU (0, four k ch bi sh 4) ra 3 = (0, four k ch bi sh 4 ++ bytesLE ra 3) := putU_ok _ ra 3 (by omega) (by omega)
      have hst := hid (makerU_any w1.heap.size R 0 (four k ch bi sh 4) ra 3 wr hm5 (by omega) (by simp [four, bytesLE_length]))
      rw [hp] at hst
      clear hp
      go_wp2_with fail
      refine hst.out.mono ?_
      rintro e w6 ⟨rfl, R6, hm6, hB6, hR6⟩
      have hbw6 := But.below hbw5 hB6 (fun b h => by have := hR5 b h; have := hbw1.size; omega) hbw5.size
      have hrow6 := (hB6.block w.heap.size hlt5 (fun h => by have := hR5 _ h; omega)).trans hrow5
      have hlt6 : w.heap.size < w6.heap.size := (Array.getElem?_eq_some_iff.1 hrow6).1
      have hR6' : ∀ b, R6 b → w1.heap.size ≤ b := fun b h => by
        rcases hR6 b h with h | h
        · exact hR5 b h
        · omega
      have c4 : w6.cell? ⟨w.heap.size, 4, none⟩ = some (.int .i64 (bl : Int)) := by rw [cell_of_row _ _ _ _ _ _ hrow6]; rfl
      have hp : putU (0, four k ch bi sh 4 ++ bytesLE ra 3) bl 4 = (0, infoHead k ch bi sh ra bl) := (putU_ok _ bl 4 (by omega) (by omega)).trans (by rw [show infoHead k ch bi sh ra bl = four k ch bi sh 4 ++ bytesLE ra 3 ++ bytesLE bl 4 by simp [infoHead, four]])
      have hst := hid (makerU_any w1.heap.size R6 0 (four k ch bi sh 4 ++ bytesLE ra 3) bl 4 w6 hm6 (by omega) (by simp [four, bytesLE_length]))
      rw [hp] at hst
      have hlw6 := hm6.lt
      clear hp hB6 hR6 hm6 hrow5 hbw5 hm5 c3
      go_wp2_with fail
      refine hst.out.mono ?_
      rintro e w7 ⟨rfl, R7, hm7, hB7, hR7⟩
      have hbw7 := But.below hbw6 hB7 (fun b h => by have := hR6' b h; have := hbw1.size; omega) hbw6.size
      have hR7' : ∀ b, R7 b → w1.heap.size ≤ b := fun b h => by
        rcases hR7 b h with h | h
        · exact hR6' b h
        · omega
      have hhl : (infoHead k ch bi sh ra bl).length = 15 := by simp [infoHead, bytesLE_length]
      generalize infoHead k ch bi sh ra bl = L at *
      have HL := hid hhl
      clear hhl
      clear hst hB7 hR7 c4 hrow6
      go_wp2_with fail
      refine (bytes_ok w1.heap.size R7 L w7 hm7 (by rw [HL.out]; omega)).mono ?_
      rintro e w8 ⟨v, rfl, hv⟩
      obtain ⟨A8, c8, rfl, hs8, hA8, ho8, hb8⟩ := hv.parts
      have hbw8 := hbw7.trans (hb8.mono hbw7.size)
      have hm8 := hm7.below hb8
      have hsr := sumI_range L
      obtain ⟨S, hS⟩ := Int.eq_ofNat_of_zero_le hsr.1
      go_wp2_with fail
      refine (sum_any g A8 c8 L w8 (ht.keep hbw8 htg) hs8 (by rw [HL.out]; omega)).mono ?_
      rintro e w9 ⟨rfl, rfl⟩
      have hse : sealed L = L ++ bytesLE S 4 := by unfold sealed; rw [hS]; rfl
      have HSE := hid hse
      rw [hS] at hsr ⊢
      have hS4 : S < 4294967296 := by omega
      clear hse hS
      have hp : putU (0, L) S 4 = (0, L ++ bytesLE S 4) := putU_ok _ S 4 (by omega) (by omega)
      have hst := hid (makerU_any w1.heap.size R7 0 L S 4 w8 hm8 (by omega) (by rw [HL.out]; omega))
      rw [hp] at hst
      clear hp hm7 hv ho8 hs8 hA8
      go_wp2_with fail
      refine hst.out.mono ?_
      rintro e wa ⟨rfl, Ra, hma, hBa, hRa⟩
      have hbwa := But.below hbw8 hBa (fun b h => by have := hR7' b h; have := hbw1.size; omega) hbw8.size
      go_wp2_with fail
      refine (bytes_ok w1.heap.size Ra _ wa hma (by rw [List.length_append, bytesLE_length, HL.out]; omega)).mono ?_
      rintro e wb ⟨v, rfl, hv⟩
      have hf : PutPost w (sealed L) (.returned (.tuple #[v, .int .i64 0])) wb := ⟨v, rfl, by rw [HSE.out]; exact hv.lower hbwa⟩
      go_wp2_with fail
      go_ret2
      exact hf
end Go.Proofs.YtkmhmehofipehaaDoor
/- Contracts: rising, Right, of the program and of the reference. -/
namespace Go.Proofs.YtkmhmehofipehaaDoor
set_option linter.unusedVariables false
open Go.RowKit
def fallB (x last en : Int) : Bool := decide (x ≤ last) || decide (en ≤ x)
def risesB (last en : Int) : List Int → Bool
  | [] => true
  | x :: l => !fallB x last en && risesB x en l
def One (w : World) (g : Nat) (z : Int) : Prop := w.heap[g]? = some (.cells #[.int .i64 z] 3 (0, 0))
theorem One.cell {w : World} {g : Nat} {z : Int} (h : One w g z) : w.cell? ⟨g, 0, none⟩ = some (.int .i64 z) := cell_of_row w g 0 _ _ _ h
theorem One.frozen {w : World} {g : Nat} {z : Int} (h : One w g z) : w.frozen? ⟨g, 0, none⟩ = false := frozen_of_row w g 0 _ _ h
theorem One.set {w : World} {g : Nat} {z : Int} (h : One w g z) (y : Int) : One (w.setCell ⟨g, 0, none⟩ (.int .i64 y)) g y := by
  have := heap_setCell_same w g 0 _ _ (.int .i64 y) h
  exact this
theorem One.other {w : World} {g : Nat} {z : Int} (h : One w g z) (p : Addr) (hp : g ≠ p.block) (u : Value) : One (w.setCell p u) g z := (heap_setCell_other w p g u hp).trans h
set_option maxHeartbeats 400000 in
theorem fall_any (x last en : Int) (g0 g1 : Nat) (w : World) (h0 : One w g0 en) (h1 : One w g1 last) :
    Calls Tryd.prog 105 #[.int .i64 x, .pointer (some ⟨g1, 0, none⟩), .pointer (some ⟨g0, 0, none⟩)] w fun e w' => e = .returned (.bool (fallB x last en)) ∧ w.setCell ⟨g1, 0, none⟩ (.int .i64 x) = w' := by
  have hc0 := h0.cell
  have hc1 := h1.cell
  have hf := h1.frozen
  clear h0 h1
  by_cases hx : x ≤ last
  · have hd : decide (x ≤ last) = true := by simpa using hx
    go_enter Tryd.func105, Tryd.ntmps105
    go_wp2
    go_ret
    exact ⟨by rw [fallB, hd]; rfl, rfl⟩
  · have hd : decide (x ≤ last) = false := by simpa using hx
    go_enter Tryd.func105, Tryd.ntmps105
    go_wp2
    go_ret
    exact ⟨by rw [fallB, hd]; rfl, rfl⟩
def IdxPost (w : World) (g1 : Nat) (b : Bool) (e : Ending) (w' : World) : Prop := ∃ r : Int, e = .returned (.int .i64 r) ∧ decide (0 ≤ r) = !b ∧ Below g1 w w'
set_option maxHeartbeats 400000 in
theorem index_any (A : Option Addr) (c : Nat) (l : List Int) (last en : Int) (g0 g1 : Nat) (w : World) (hl : SeesI w A l) (hlen : l.length ≤ 9223372036854775807) (h0 : One w g0 en) (h1 : One w g1 last) (hg : g0 < g1) (hA : ∀ a, A = some a → 0 < l.length → a.block < g1) :
    Calls Tryd.prog 114 #[.slice A l.length c, .func (.func 105) #[] #[.pointer (some ⟨g1, 0, none⟩), .pointer (some ⟨g0, 0, none⟩)]] w (IdxPost w g1 (risesB last en l)) := by
  go_enter Tryd.func114, Tryd.ntmps114
  go_wp2
  go_loopw [8] (fun i wr => ∃ k : Nat, k ≤ l.length ∧ i = .int .i64 k ∧ Below g1 w wr ∧ One wr g0 en ∧ ∃ la : Int, One wr g1 la ∧ risesB last en l = risesB la en (l.drop k)) (fun i _ => l.length - (intOf i).toNat)
  case atStart => exact ⟨0, by omega, rfl, Below.refl _ _, h0, last, h1, rfl⟩
  case round =>
    obtain ⟨k, hk, rfl, hb, ho0, la, ho1, hr⟩ := hrel
    have HR := hid hr
    clear hr
    by_cases hlt : k < l.length
    · obtain ⟨a, rfl, hc⟩ := hl.at hlt
      have hab := hA a rfl (by omega)
      have hcw : wr.cell? (a.add k) = some (.int .i64 l[k]) := (hb.cell (by rw [addr_block]; exact hab)).trans hc
      have hstep : risesB la en (l.drop k) = (!fallB l[k] la en && risesB l[k] en (l.drop (k + 1))) := by rw [List.drop_eq_getElem_cons hlt]; rfl
      have HS := hid hstep
      clear hstep hc
      generalize l[k] = x at hcw HS
      have hd : decide ((k : Int) < l.length) = true := by simp; omega
      by_cases hf : fallB x la en = true
      · go_wp2_with (fail)
        refine (fall_any _ _ _ _ _ _ ho0 ho1).mono ?_
        rintro e w2 ⟨rfl, rfl⟩
        go_wp2_with fail
        go_ret
        exact ⟨k, rfl, by rw [HR.out, HS.out, hf]; simp, hb.setCell (Nat.le_refl _) _⟩
      · have hf' : fallB x la en = false := by simpa using hf
        go_wp2_with (fail)
        refine (fall_any _ _ _ _ _ _ ho0 ho1).mono ?_
        rintro e w2 ⟨rfl, rfl⟩
        go_wp2_with fail
        go_roundw
        case rel => exact ⟨k + 1, by omega, by go_num, hb.setCell (Nat.le_refl _) _, ho0.other _ (by simp; omega) _, x, ho1.set _, by rw [HR.out, HS.out, hf']; rfl⟩
        case measure => simp [intOf]; omega
    · obtain rfl : k = l.length := by omega
      go_wp2_with fail
      go_ret
      exact ⟨-1, rfl, by rw [HR.out, List.drop_length]; rfl, hb⟩
def BoolPost (w : World) (B : Nat) (b : Bool) (e : Ending) (w' : World) : Prop := e = .returned (.bool b) ∧ Below B w w'
set_option maxHeartbeats 400000 in
theorem contains_any (A : Option Addr) (c : Nat) (l : List Int) (last en : Int) (g0 g1 : Nat) (w : World) (hl : SeesI w A l) (hlen : l.length ≤ 9223372036854775807) (h0 : One w g0 en) (h1 : One w g1 last) (hg : g0 < g1) (hA : ∀ a, A = some a → 0 < l.length → a.block < g1) :
    Calls Tryd.prog 104 #[.slice A l.length c, .func (.func 105) #[] #[.pointer (some ⟨g1, 0, none⟩), .pointer (some ⟨g0, 0, none⟩)]] w (BoolPost w g1 (!risesB last en l)) := by
  go_enter Tryd.func104, Tryd.ntmps104
  go_wp2_with fail
  refine (index_any A c l last en g0 g1 w hl hlen h0 h1 hg hA).mono ?_
  rintro e w1 ⟨r, rfl, hr, hb⟩
  have HR := hid hr
  clear hr
  go_wp2_with fail
  go_ret
  exact ⟨by rw [← HR.out]; rfl, hb⟩
set_option maxHeartbeats 400000 in
theorem rising_any (A : Option Addr) (c : Nat) (l : List Int) (en : Int) (w : World) (hl : SeesI w A l) (hlen : l.length ≤ 9223372036854775807) :
    Calls Tryd.prog 73 #[.slice A l.length c, .int .i64 en] w (BoolPost w w.heap.size (risesB (-1) en l)) := by
  have hb : Below w.heap.size w ((w.alloc (.cells #[.int .i64 en] 3)).alloc (.cells #[.int .i64 (-1)] 3)) := ((Below.refl _ w).alloc (Nat.le_refl _) _).alloc (by simp) _
  have hl2 := hl.below hb
  have h0 : One ((w.alloc (.cells #[.int .i64 en] 3)).alloc (.cells #[.int .i64 (-1)] 3)) w.heap.size en := heap_alloc2_old _ _ _
  have h1 : One ((w.alloc (.cells #[.int .i64 en] 3)).alloc (.cells #[.int .i64 (-1)] 3)) (w.heap.size + 1) (-1) := heap_alloc2_new _ _ _
  have hA : ∀ a, A = some a → 0 < l.length → a.block < w.heap.size + 1 := by
    intro a ha h0
    obtain ⟨a', ha', hc⟩ := hl.at h0
    rw [ha] at ha'; injection ha' with ha'; subst ha'
    have := block_lt_of_cell hc
    rw [addr_block] at this; omega
  go_enter Tryd.func73, Tryd.ntmps73
  go_wp2_with fail
  refine (contains_any A c l _ _ _ _ _ hl2 hlen h0 h1 (by omega) hA).mono ?_
  rintro e w1 ⟨rfl, hb1⟩
  go_wp2_with fail
  go_ret
  exact ⟨by simp, hb.trans (hb1.mono (Nat.le_succ _))⟩
def rightB (count : Int) (l : List Int) : Bool := decide (0 ≤ count) && (decide (count ≤ 4294967295) && (decide (l.length ≤ 16777216) && risesB (-1) 1099511627776 l))
def TailV (count sum : Int) (A : Option Addr) (n c : Nat) : Value := .agg #[.int .i64 count, .int .u32 sum, .slice A n c]
set_option maxHeartbeats 400000 in
theorem right_any (count sum : Int) (A : Option Addr) (c : Nat) (l : List Int) (w : World) (hl : SeesI w A l) (hlen : l.length ≤ 9223372036854775807) :
    Calls Tryd.prog 44 #[.agg #[.int .i64 count, .int .u32 sum, .slice A l.length c]] w (BoolPost w w.heap.size (rightB count l)) := by
  go_enter Tryd.func44, Tryd.ntmps44
  go_wp2_with fail
  · have h1 : 0 ≤ count := by assumption
    have h2 : count ≤ 4294967295 := by assumption
    have h3 : (l.length : Int) ≤ 16777216 := by assumption
    have hb : Below w.heap.size w (w.alloc (.cells #[.int .i64 count, .int .u32 sum, .slice A l.length c] 43)) := (Below.refl _ w).alloc (Nat.le_refl _) _
    refine (rising_any A c l 1099511627776 _ (hl.below hb) hlen).mono ?_
    rintro e w1 ⟨rfl, hb1⟩
    go_wp2_with fail
    go_ret
    exact ⟨by rw [rightB]; simp [h1, h2, show l.length ≤ 16777216 by omega], hb.trans (hb1.mono (by simp))⟩
  all_goals
    go_ret
    exact ⟨by rw [rightB]; simp; omega, (Below.refl _ w).alloc (Nat.le_refl _) _⟩
theorem right_is (count sum : Int) (A : Option Addr) (c : Nat) (l : List Int) (w : World) (hl : SeesI w A l) (hlen : l.length ≤ 9223372036854775807) (v : Bool) (hv : rightB count l = v) :
    Calls Tryd.prog 44 #[.agg #[.int .i64 count, .int .u32 sum, .slice A l.length c]] w fun e w' => e = .returned (.bool v) ∧ Below w.heap.size w w' :=
  hv ▸ right_any count sum A c l w hl hlen
end Go.Proofs.YtkmhmehofipehaaDoor
/- A tail as bytes. -/
namespace Go.Proofs.YtkmhmehofipehaaDoor
set_option linter.unusedVariables false
open Go.RowKit
def placesB (l : List Int) : List UInt8 := l.flatMap fun p => bytesLE p.toNat 5
def threeB (count sum n : Nat) (i : Nat) : List UInt8 := [69, 78] ++ (([count, sum, n] : List Nat).take i).flatMap fun x => bytesLE x 4
def tailHead (count sum : Nat) (l : List Int) : List UInt8 := threeB count sum l.length 3 ++ placesB l
theorem placesB_step (l : List Int) (k : Nat) (h : k < l.length) : placesB (l.take (k + 1)) = placesB (l.take k) ++ bytesLE l[k].toNat 5 := by
  unfold placesB; rw [List.take_succ_eq_append_getElem h, List.flatMap_append]; simp
theorem placesB_len (l : List Int) : (placesB l).length = 5 * l.length := by
  induction l with
  | nil => rfl
  | cons x l ih => rw [show placesB (x :: l) = bytesLE x.toNat 5 ++ placesB l from rfl, List.length_append, ih, bytesLE_length, List.length_cons]; omega
theorem threeB_len (count sum n : Nat) : (threeB count sum n 3).length = 14 := by simp [threeB, bytesLE_length]
theorem tailHead_len (count sum : Nat) (l : List Int) : (tailHead count sum l).length = 14 + 5 * l.length := by unfold tailHead; rw [List.length_append, threeB_len, placesB_len]
theorem rises_mem (en : Int) : ∀ (l : List Int) (last : Int), -1 ≤ last → risesB last en l = true → ∀ x ∈ l, 0 ≤ x ∧ x < en
  | [], _, _, _, x, hx => by simp at hx
  | y :: l, last, h0, h, x, hx => by
    unfold risesB fallB at h
    simp only [Bool.and_eq_true, Bool.not_eq_true', Bool.or_eq_false_iff, decide_eq_false_iff_not] at h
    rcases List.mem_cons.1 hx with rfl | hx
    · omega
    · exact rises_mem en l y (by omega) h.2 x hx
theorem right_range {count : Int} {l : List Int} (h : rightB count l = true) : 0 ≤ count ∧ count ≤ 4294967295 ∧ l.length ≤ 16777216 ∧ ∀ (i : Nat) (h : i < l.length), 0 ≤ l[i] ∧ l[i] < 1099511627776 := by
  unfold rightB at h
  simp only [Bool.and_eq_true, decide_eq_true_eq] at h
  exact ⟨h.1, h.2.1, h.2.2.1, fun i hi => rises_mem _ l (-1) (by omega) h.2.2.2 _ (List.getElem_mem hi)⟩
set_option maxHeartbeats 1000000 in
theorem tput_nil (count sum : Int) (A : Option Addr) (n c : Nat) (w : World) :
    Calls Tryd.prog 20 #[.pointer none, .agg #[.int .i64 count, .int .u32 sum, .slice A n c]] w fun e w' => e = .returned (.tuple #[.slice none 0 0, .int .i64 2]) ∧ Below w.heap.size w w' := by
  have hb : Below w.heap.size w (w.alloc (.cells #[.int .i64 count, .int .u32 sum, .slice A n c] 43)) := (Below.refl _ w).alloc (Nat.le_refl _) _
  go_enter Tryd.func20, Tryd.ntmps20
  go_wp2_with fail
  go_ret2
  exact ⟨rfl, hb⟩
set_option maxHeartbeats 1000000 in
theorem tput_bad (g : Nat) (count sum : Int) (A : Option Addr) (c : Nat) (l : List Int) (w : World) (hl : SeesI w A l) (hlen : l.length ≤ 9223372036854775807) (hr : rightB count l = false) :
    Calls Tryd.prog 20 #[.pointer (some ⟨g, 0, none⟩), .agg #[.int .i64 count, .int .u32 sum, .slice A l.length c]] w fun e w' => e = .returned (.tuple #[.slice none 0 0, .int .i64 60]) ∧ Below w.heap.size w w' := by
  have hb : Below w.heap.size w (w.alloc (.cells #[.int .i64 count, .int .u32 sum, .slice A l.length c] 43)) := (Below.refl _ w).alloc (Nat.le_refl _) _
  go_enter Tryd.func20, Tryd.ntmps20
  go_wp2_with fail
  refine (right_is count sum A c l _ (hl.below hb) hlen false hr).mono ?_
  rintro e w1 ⟨rfl, hb1⟩
  go_wp2_with fail
  go_ret2
  exact ⟨rfl, hb.trans (hb1.mono hb.size)⟩
set_option maxHeartbeats 4000000 in
theorem tput_ok (g : Nat) (count sum : Nat) (A : Option Addr) (c : Nat) (l : List Int) (w : World) (ht : Tab w g) (hl : SeesI w A l) (hlen : l.length ≤ 16777216) (hr : rightB count l = true) (hc : count < 4294967296) (hs : sum < 4294967296) (hpl : ∀ (i : Nat) (h : i < l.length), 0 ≤ l[i] ∧ l[i] < 1099511627776) :
    Calls Tryd.prog 20 #[.pointer (some ⟨g, 0, none⟩), .agg #[.int .i64 (count : Int), .int .u32 (sum : Int), .slice A l.length c]] w (PutPost w (sealed (tailHead count sum l))) := by
  have hb : Below w.heap.size w (w.alloc (.cells #[.int .i64 (count : Int), .int .u32 (sum : Int), .slice A l.length c] 43)) := (Below.refl _ w).alloc (Nat.le_refl _) _
  have hrow := heap_alloc_new w (.cells #[.int .i64 (count : Int), .int .u32 (sum : Int), .slice A l.length c] 43)
  have hsz0 : (w.alloc (.cells #[.int .i64 (count : Int), .int .u32 (sum : Int), .slice A l.length c] 43)).heap.size = w.heap.size + 1 := by simp
  have htg := ht.lt
  go_enter Tryd.func20, Tryd.ntmps20
  go_wp2_with fail
  generalize w.alloc (.cells #[.int .i64 (count : Int), .int .u32 (sum : Int), .slice A l.length c] 43) = w0 at *
  have hlt0 : w.heap.size < w0.heap.size := by omega
  refine (right_is count sum A c l w0 (hl.below hb) (by omega) true hr).mono ?_
  rintro e w1 ⟨rfl, hb1⟩
  have hrow1 := (hb1.block w.heap.size hlt0).trans hrow
  have hlt1 : w.heap.size < w1.heap.size := Nat.lt_of_lt_of_le hlt0 hb1.size
  have hbw1 := hb.trans (hb1.mono hb.size)
  clear hb hb1 hrow hr hsz0
  have hm := mk_new w1
  have hb2 : Below w1.heap.size w1 (w1.alloc (.cells #[.int .i64 0, .slice none 0 0] 106)) := (Below.refl _ w1).alloc (Nat.le_refl _) _
  have hrow2 := (hb2.block w.heap.size hlt1).trans hrow1
  have hlt2 : w.heap.size < (w1.alloc (.cells #[.int .i64 0, .slice none 0 0] 106)).heap.size := Nat.lt_of_lt_of_le hlt1 hb2.size
  have hbw2 := hbw1.trans (hb2.mono hbw1.size)
  have hsz2 : (w1.alloc (.cells #[.int .i64 0, .slice none 0 0] 106)).heap.size = w1.heap.size + 1 := by simp
  go_wp2_with fail
  generalize w1.alloc (.cells #[.int .i64 0, .slice none 0 0] 106) = w2 at *
  have hb3 : Below w2.heap.size w2 (w2.alloc (.cells #[.int .u8 69, .int .u8 78] 5)) := (Below.refl _ w2).alloc (Nat.le_refl _) _
  have hs3 : SeesB (w2.alloc (.cells #[.int .u8 69, .int .u8 78] 5)) (some ⟨w1.heap.size + 1, 0, none⟩) [69, 78] := by
    rw [← hsz2]
    exact Sees.of_block (heap_alloc_new w2 _) rfl
  have hm3 := hm.below hb3
  have hrow3 := (hb3.block w.heap.size hlt2).trans hrow2
  have hlt3 := Nat.lt_of_lt_of_le hlt2 hb3.size
  have hbw3 := hbw2.trans (hb3.mono hbw2.size)
  clear hm hrow2 hrow1 hb2 hb3 hbw2
  generalize w2.alloc (.cells #[.int .u8 69, .int .u8 78] 5) = w3 at *
  refine (raw_any w1.heap.size _ 0 [] _ 2 [69, 78] w3 hm3 hs3 (by decide)).mono ?_
  rintro e w4 ⟨rfl, R4, hm4, hB4, hR4⟩
  rw [show putRaw (0, []) [69, 78] = (0, [69, 78]) from rfl] at hm4
  have hR4' : ∀ b, R4 b → w1.heap.size ≤ b := fun b h => by
    rcases hR4 b h with h | h
    · exact Nat.le_of_eq h.symm
    · have := hm3.lt; omega
  have hbw4 := But.below hbw3 hB4 (fun n h => by have := hbw1.size; omega) hbw3.size
  have hrow4 := (hB4.block w.heap.size hlt3 (fun h => by omega)).trans hrow3
  have hlt4 := Nat.lt_of_lt_of_le hlt3 hB4.size
  clear hm3 hs3 hB4 hR4 hrow3 hbw3
  have c0 : w4.cell? ⟨w.heap.size, 0, none⟩ = some (.int .i64 (count : Int)) := by rw [cell_of_row _ _ _ _ _ _ hrow4]; rfl
  have c1 : w4.cell? ⟨w.heap.size, 1, none⟩ = some (.int .u32 (sum : Int)) := by rw [cell_of_row _ _ _ _ _ _ hrow4]; rfl
  have c2 : w4.cell? ⟨w.heap.size, 2, none⟩ = some (.slice A l.length c) := by rw [cell_of_row _ _ _ _ _ _ hrow4]; rfl
  go_wp2_with fail
  go_loopw [8, 34] (fun x i wr => ∃ n : Nat, n ≤ 3 ∧ i = .int .i64 n ∧ ∃ R, Mk wr w1.heap.size R 0 (threeB count sum l.length n) ∧ (∀ b, R b → w1.heap.size ≤ b) ∧ Below w.heap.size w wr ∧ wr.heap[w.heap.size]? = some (.cells #[.int .i64 (count : Int), .int .u32 (sum : Int), .slice A l.length c] 43 (0, 0))) (fun _ i _ => 3 - (intOf i).toNat)
  case atStart => exact ⟨0, by omega, rfl, R4, hm4, hR4', hbw4, hrow4⟩
  case round =>
    obtain ⟨n, hn, rfl, R, hm5, hR5, hbw5, hrow5⟩ := hrel
    have i0 : ∀ w, (Instr.index 108 (.agg #[.int .i64 (count : Int), .int .i64 (sum : Int), .int .i64 (l.length : Int)]) (.int .i64 0)).run Tryd.prog w = .ok (.int .i64 (count : Int)) w := fun _ => by kernel_rfl
    have i1 : ∀ w, (Instr.index 108 (.agg #[.int .i64 (count : Int), .int .i64 (sum : Int), .int .i64 (l.length : Int)]) (.int .i64 1)).run Tryd.prog w = .ok (.int .i64 (sum : Int)) w := fun _ => by kernel_rfl
    have i2 : ∀ w, (Instr.index 108 (.agg #[.int .i64 (count : Int), .int .i64 (sum : Int), .int .i64 (l.length : Int)]) (.int .i64 2)).run Tryd.prog w = .ok (.int .i64 (l.length : Int)) w := fun _ => by kernel_rfl
    have hlt5 : w.heap.size < wr.heap.size := (Array.getElem?_eq_some_iff.1 hrow5).1
    have hlw5 : w1.heap.size < wr.heap.size := hm5.lt
    clear c0 c1 c2
    by_cases hlt : n < 3
    · have hcase : n = 0 ∨ n = 1 ∨ n = 2 := by omega
      rcases hcase with hh | hh | hh
      · subst hh
        have hp : putU (0, threeB count sum l.length 0) count 4 = (0, threeB count sum l.length 1) := putU_ok _ count 4 (by omega) (by omega)
        have hst := hid (makerU_any w1.heap.size R 0 (threeB count sum l.length 0) count 4 wr hm5 (by omega) (by simp [threeB]))
        rw [hp] at hst
        clear hp
        go_wp2_with fail
        refine hst.out.mono ?_
        rintro e w6 ⟨rfl, R6, hm6, hB6, hR6⟩
        have hbw6 := But.below hbw5 hB6 (fun b h => by have := hR5 b h; have := hbw1.size; omega) hbw5.size
        have hrow6 := (hB6.block w.heap.size hlt5 (fun h => by have := hR5 _ h; omega)).trans hrow5
        have hR6' : ∀ b, R6 b → w1.heap.size ≤ b := fun b h => by
          rcases hR6 b h with h | h
          · exact hR5 b h
          · omega
        go_wp2_with fail
        exact ⟨⟨1, by omega, by go_num, R6, hm6, hR6', hbw6, hrow6⟩, by simp [intOf]⟩
      · subst hh
        have hp : putU (0, threeB count sum l.length 1) sum 4 = (0, threeB count sum l.length 2) := putU_ok _ sum 4 (by omega) (by omega)
        have hst := hid (makerU_any w1.heap.size R 0 (threeB count sum l.length 1) sum 4 wr hm5 (by omega) (by simp [threeB, bytesLE_length]))
        rw [hp] at hst
        clear hp
        go_wp2_with fail
        refine hst.out.mono ?_
        rintro e w6 ⟨rfl, R6, hm6, hB6, hR6⟩
        have hbw6 := But.below hbw5 hB6 (fun b h => by have := hR5 b h; have := hbw1.size; omega) hbw5.size
        have hrow6 := (hB6.block w.heap.size hlt5 (fun h => by have := hR5 _ h; omega)).trans hrow5
        have hR6' : ∀ b, R6 b → w1.heap.size ≤ b := fun b h => by
          rcases hR6 b h with h | h
          · exact hR5 b h
          · omega
        go_wp2_with fail
        exact ⟨⟨2, by omega, by go_num, R6, hm6, hR6', hbw6, hrow6⟩, by simp [intOf]⟩
      · subst hh
        have hp : putU (0, threeB count sum l.length 2) l.length 4 = (0, threeB count sum l.length 3) := putU_ok _ l.length 4 (by omega) (by omega)
        have hst := hid (makerU_any w1.heap.size R 0 (threeB count sum l.length 2) l.length 4 wr hm5 (by omega) (by simp [threeB, bytesLE_length]))
        rw [hp] at hst
        clear hp
        go_wp2_with fail
        refine hst.out.mono ?_
        rintro e w6 ⟨rfl, R6, hm6, hB6, hR6⟩
        have hbw6 := But.below hbw5 hB6 (fun b h => by have := hR5 b h; have := hbw1.size; omega) hbw5.size
        have hrow6 := (hB6.block w.heap.size hlt5 (fun h => by have := hR5 _ h; omega)).trans hrow5
        have hR6' : ∀ b, R6 b → w1.heap.size ≤ b := fun b h => by
          rcases hR6 b h with h | h
          · exact hR5 b h
          · omega
        go_wp2_with fail
        exact ⟨⟨3, by omega, by go_num, R6, hm6, hR6', hbw6, hrow6⟩, by simp [intOf]⟩
    · have hn3 : n = 3 := by omega
      have hd3 : decide ((n : Int) < 3) = false := by simp; omega
      rw [hn3] at hm5
      have HN3 := hid hn3
      clear hn3
      have c2 : wr.cell? ⟨w.heap.size, 2, none⟩ = some (.slice A l.length c) := by rw [cell_of_row _ _ _ _ _ _ hrow5]; rfl
      have hli := hl.below hbw5
      clear i0 i1 i2
      go_wp2_with fail
      clear c2
      go_loopw [10, 45] (fun x i wq => ∃ n : Nat, n ≤ l.length ∧ i = .int .i64 n ∧ ∃ R, Mk wq w1.heap.size R 0 (threeB count sum l.length 3 ++ placesB (l.take n)) ∧ (∀ b, R b → w1.heap.size ≤ b) ∧ Below w.heap.size w wq) (fun _ i _ => l.length - (intOf i).toNat)
      case atStart => exact ⟨0, by omega, rfl, R, by simpa [placesB] using hm5, hR5, hbw5⟩
      case round =>
        clear hm5 hR5 hbw5 hrow5 hlt5 hlw5 hli
        clear HN3 hd3 hn hlt
        obtain ⟨n, hn, rfl, R, hm5, hR5, hbw5⟩ := hrel
        have hlw5 : w1.heap.size < wr.heap.size := hm5.lt
        have hpt : (placesB (l.take n)).length = 5 * n := by rw [placesB_len, List.length_take]; omega
        by_cases hlt : n < l.length
        · have hd : decide (n < l.length) = true := by simpa using hlt
          obtain ⟨a, rfl, ca⟩ := (hl.below hbw5).at hlt
          have hpp := hpl n hlt
          obtain ⟨p, hp⟩ := Int.eq_ofNat_of_zero_le hpp.1
          have hps := placesB_step l n hlt
          rw [hp] at ca hpp hps
          rw [Int.toNat_natCast] at hps
          have hput : putU (0, threeB count sum l.length 3 ++ placesB (l.take n)) p 5 = (0, threeB count sum l.length 3 ++ placesB (l.take (n + 1))) := (putU_ok _ p 5 (by omega) (by omega)).trans (by rw [hps, List.append_assoc])
          have hst := hid (makerU_any w1.heap.size R 0 (threeB count sum l.length 3 ++ placesB (l.take n)) p 5 wr hm5 (by omega) (by rw [List.length_append, threeB_len, hpt]; omega))
          rw [hput] at hst
          clear hput hps hp
          go_wp2_with fail
          refine hst.out.mono ?_
          rintro e w6 ⟨rfl, R6, hm6, hB6, hR6⟩
          have hbw6 := But.below hbw5 hB6 (fun b h => by have := hR5 b h; have := hbw1.size; omega) hbw5.size
          have hR6' : ∀ b, R6 b → w1.heap.size ≤ b := fun b h => by
            rcases hR6 b h with h | h
            · exact hR5 b h
            · omega
          go_wp2_with fail
          exact ⟨⟨n + 1, hlt, by go_num, R6, hm6, hR6', hbw6⟩, by simp [intOf]; omega⟩
        · obtain rfl : n = l.length := by omega
          have hd : decide (l.length < l.length) = false := by simp
          rw [List.take_length] at hm5
          have HL : Hid ((tailHead count sum l).length = 14 + 5 * l.length) := hid (tailHead_len count sum l)
          rw [show threeB count sum l.length 3 ++ placesB l = tailHead count sum l from rfl] at hm5
          clear hpt
          generalize tailHead count sum l = L at *
          go_wp2_with fail
          refine (bytes_ok w1.heap.size R L wr hm5 (by rw [HL.out]; omega)).mono ?_
          rintro e w8 ⟨v, rfl, hv⟩
          obtain ⟨A8, c8, rfl, hs8, hA8, ho8, hb8⟩ := hv.parts
          have hbw8 := hbw5.trans (hb8.mono hbw5.size)
          have hm8 := hm5.below hb8
          have hsr := sumI_range L
          obtain ⟨S, hS⟩ := Int.eq_ofNat_of_zero_le hsr.1
          go_wp2_with fail
          refine (sum_any g A8 c8 L w8 (ht.keep hbw8 htg) hs8 (by rw [HL.out]; omega)).mono ?_
          rintro e w9 ⟨rfl, rfl⟩
          have HSE : Hid (sealed L = L ++ bytesLE S 4) := hid (by unfold sealed; rw [hS]; rfl)
          rw [hS] at hsr ⊢
          have hS4 : S < 4294967296 := by omega
          clear hS
          have hp : putU (0, L) S 4 = (0, L ++ bytesLE S 4) := putU_ok _ S 4 (by omega) (by omega)
          have hst := hid (makerU_any w1.heap.size R 0 L S 4 w8 hm8 (by omega) (by rw [HL.out]; omega))
          rw [hp] at hst
          clear hp hm5 hv ho8 hs8 hA8
          go_wp2_with fail
          refine hst.out.mono ?_
          rintro e wa ⟨rfl, Ra, hma, hBa, hRa⟩
          have hbwa := But.below hbw8 hBa (fun b h => by have := hR5 b h; have := hbw1.size; omega) hbw8.size
          go_wp2_with fail
          refine (bytes_ok w1.heap.size Ra _ wa hma (by rw [List.length_append, bytesLE_length, HL.out]; omega)).mono ?_
          rintro e wb ⟨v, rfl, hv⟩
          have hf : PutPost w (sealed L) (.returned (.tuple #[v, .int .i64 0])) wb := ⟨v, rfl, by rw [HSE.out]; exact hv.lower hbwa⟩
          go_wp2_with fail
          go_ret2
          exact hf
end Go.Proofs.YtkmhmehofipehaaDoor
/- Files, plainly: what their parts make; blocks in memory. -/
namespace Go.Proofs.YtkmhmehofipehaaDoor
set_option linter.unusedVariables false
open Go.RowKit
/-- a slice of bytes -/
structure BlkV where
  A : Option Addr
  c : Nat
  l : List UInt8
def BlkV.v (x : BlkV) : Value := .slice x.A x.l.length x.c
/-- a slice that begins at A reads as these slices of bytes -/
def SeesK (w : World) (A : Option Addr) (L : List BlkV) : Prop := Sees w A (L.map BlkV.v) ∧ ∀ x ∈ L, SeesB w x.A x.l ∧ x.l.length ≤ x.c ∧ x.c ≤ maxLen
theorem SeesK.below {w w' : World} {A : Option Addr} {L : List BlkV} (h : SeesK w A L) (hb : Below w.heap.size w w') : SeesK w' A L :=
  ⟨Sees.below h.1 hb, fun x hx => ⟨(h.2 x hx).1.below hb, (h.2 x hx).2⟩⟩
theorem SeesK.at {w : World} {A : Option Addr} {L : List BlkV} (h : SeesK w A L) {i : Nat} (hi : i < L.length) : ∃ a, A = some a ∧ w.cell? (a.add i) = some (.slice L[i].A L[i].l.length L[i].c) :=
  h.1 i L[i].v (by rw [List.getElem?_map, List.getElem?_eq_getElem hi]; rfl)
theorem SeesK.one {w : World} {A : Option Addr} {L : List BlkV} (h : SeesK w A L) {i : Nat} (hi : i < L.length) : SeesB w L[i].A L[i].l ∧ L[i].l.length ≤ L[i].c ∧ L[i].c ≤ maxLen := h.2 _ (List.getElem_mem hi)
/-- a file on its way -/
structure FileS where
  out : List UInt8
  pl : List Int
  cnt : Int
  short : Bool
def addE (i : InfoV) (s : FileS) (b : List UInt8) : Int × FileS :=
  if (openH b).1 ≠ 0 then ((openH b).1, s) else if (36 + (openH b).2.1.siz : Int) < b.length then (62, s)
  else if nextE i (openH b).2.1 s.pl.length s.short ≠ 0 then (nextE i (openH b).2.1 s.pl.length s.short, s)
  else (0, ⟨s.out ++ b, s.pl ++ [(s.out.length : Int)], s.cnt + (openH b).2.1.len, decide ((openH b).2.1.len < i.bl)⟩)
def addAll (i : InfoV) : List (List UInt8) → FileS → Int × FileS
  | [], s => (0, s)
  | b :: bs, s => if (addE i s b).1 ≠ 0 then ((addE i s b).1, s) else addAll i bs (addE i s b).2
def InfoV.right (i : InfoV) : Bool := rightI i.k i.ch i.bi i.ra i.bl i.sh
def infoB (i : InfoV) : List UInt8 := sealed (infoHead i.k.toNat i.ch.toNat i.bi.toNat i.sh.toNat i.ra.toNat i.bl.toNat)
def startF (i : InfoV) (l : List TagV) : FileS := ⟨infoB i ++ sealed (tagsB l), [], 0, false⟩
def tailB (s : FileS) (sum : Nat) : List UInt8 := sealed (tailHead s.cnt.toNat sum s.pl)
def endF (r : Int × FileS) (sum : Nat) : Int × List UInt8 := if r.1 ≠ 0 then (r.1, []) else (0, r.2.out ++ tailB r.2 sum)
def buildF (i : InfoV) (l : List TagV) (bs : List (List UInt8)) (sum : Nat) : Int × List UInt8 :=
  if i.right = false then (32, []) else if (checkT l).2 ≠ 0 then ((checkT l).2, []) else endF (addAll i bs (startF i l)) sum
theorem InfoV.range {i : InfoV} (h : i.right = true) : (1 ≤ i.k ∧ i.k ≤ 3) ∧ (1 ≤ i.ch ∧ i.ch ≤ 8) ∧ (8 ≤ i.bi ∧ i.bi ≤ 24) ∧ (1 ≤ i.ra ∧ i.ra ≤ 1048575) ∧ (256 ≤ i.bl ∧ i.bl ≤ 65536) ∧ (0 ≤ i.sh ∧ i.sh ≤ 3) := by
  have h1 := of_decide_eq_true h
  have h2 := of_decide_eq_true h1.2.1
  exact ⟨h1.1, h2.1, h2.2.1, h2.2.2, h1.2.2.1, h1.2.2.2.1⟩
theorem infoB_len (i : InfoV) : (infoB i).length = 19 := by simp [infoB, sealed, infoHead, bytesLE_length]
theorem openH_fine {b : List UInt8} (h : (openH b).1 = 0) : 36 + (openH b).2.1.siz ≤ b.length ∧ rightH (openH b).2.1.k (openH b).2.1.idx (openH b).2.1.len (openH b).2.1.stp (openH b).2.1.bnd (openH b).2.1.lst (openH b).2.1.lnk (openH b).2.1.siz = true ∧ 0 ≤ (openH b).2.1.siz := by
  unfold openH at h ⊢
  by_cases h1 : (getH b).1 ≠ 0
  · rw [if_pos h1] at h; exact absurd h h1
  · rw [if_neg h1] at h ⊢
    obtain ⟨_, _, _, hok, hsd⟩ := getH_ok (by simpa using h1)
    split at h
    · exact absurd h (by decide)
    · split at h
      · exact absurd h (by decide)
      · rename_i h2 h3
        rw [if_neg h2, if_neg h3]
        simp only
        rw [hsd]
        unfold okH at hok
        rw [Bool.and_eq_true] at hok
        unfold saidH
        simp only
        exact ⟨by omega, hok.2, by omega⟩
theorem openH_len {b : List UInt8} (h : (openH b).1 = 0) : 1 ≤ (openH b).2.1.len ∧ (openH b).2.1.len ≤ 65536 := by
  have h1 := of_decide_eq_true (openH_fine h).2.1
  exact h1.2.2.1
theorem addE_ok {i : InfoV} {s : FileS} {b : List UInt8} (h : (addE i s b).1 = 0) : (openH b).1 = 0 ∧ b.length = 36 + (openH b).2.1.siz ∧ nextE i (openH b).2.1 s.pl.length s.short = 0 ∧ (addE i s b).2 = ⟨s.out ++ b, s.pl ++ [(s.out.length : Int)], s.cnt + (openH b).2.1.len, decide ((openH b).2.1.len < i.bl)⟩ := by
  unfold addE at h ⊢
  by_cases h1 : (openH b).1 = 0
  case neg => rw [if_pos h1] at h; exact absurd h h1
  rw [if_neg (by rw [h1]; simp)] at h ⊢
  by_cases h2 : (36 + (openH b).2.1.siz : Int) < b.length
  case pos => rw [if_pos h2] at h; exact absurd h (by simp)
  rw [if_neg h2] at h ⊢
  by_cases h3 : nextE i (openH b).2.1 s.pl.length s.short = 0
  case neg => rw [if_pos h3] at h; exact absurd h h3
  rw [if_neg (by rw [h3]; simp)]
  have h4 := (openH_fine h1).1
  exact ⟨h1, by omega, h3, rfl⟩
/-- what n blocks of bytes make of a file's measures -/
structure FileS.ok (s : FileS) (n : Nat) : Prop where
  pl : s.pl.length = n
  cnt : 0 ≤ s.cnt ∧ s.cnt ≤ 65536 * n
  out : s.out.length ≤ 71000 + 300 * n
theorem FileS.ok.next {i : InfoV} {s : FileS} {n : Nat} {b : List UInt8} (h : s.ok n) (hb : b.length ≤ 300) (he : (addE i s b).1 = 0) : (addE i s b).2.ok (n + 1) := by
  obtain ⟨h1, _, _, h4⟩ := addE_ok he
  have h5 := openH_len h1
  have h6 := h.cnt
  have h7 := h.out
  rw [h4]
  exact ⟨by simp [h.pl], ⟨by simp only; omega, by simp only; omega⟩, by simp only [List.length_append]; omega⟩
theorem startF_ok (i : InfoV) {l : List TagV} (h : Short l) : (startF i l).ok 0 := by
  have h1 := tagsB_len h
  refine ⟨rfl, ⟨by simp [startF], by simp [startF]⟩, ?_⟩
  unfold startF sealed
  simp only [List.length_append, infoB_len, bytesLE_length]
  omega
theorem addAll_ok {i : InfoV} : ∀ (bs : List (List UInt8)) (s : FileS) (n : Nat), s.ok n → (∀ b ∈ bs, b.length ≤ 300) → (addAll i bs s).1 = 0 → (addAll i bs s).2.ok (n + bs.length)
  | [], s, n, h, _, _ => h
  | b :: bs, s, n, h, hb, he => by
    unfold addAll at he ⊢
    by_cases h1 : (addE i s b).1 = 0
    · rw [if_neg (by rw [h1]; simp)] at he ⊢
      have := addAll_ok bs _ (n + 1) (h.next (hb b (by simp)) h1) (fun x hx => hb x (by simp [hx])) he
      rw [List.length_cons]
      rwa [show n + (bs.length + 1) = n + 1 + bs.length by omega]
    · rw [if_pos h1] at he
      exact absurd he h1
/-- places rise -/
theorem rises_snoc (en : Int) : ∀ (l : List Int) (last x : Int), risesB last en l = true → (∀ y ∈ l, y < x) → last < x → x < en → risesB last en (l ++ [x]) = true
  | [], last, x, _, _, h1, h2 => by
    simp only [List.nil_append, risesB, fallB]
    simp
    omega
  | y :: l, last, x, h, hm, h1, h2 => by
    unfold risesB at h
    rw [Bool.and_eq_true] at h
    rw [List.cons_append, risesB, Bool.and_eq_true]
    exact ⟨h.1, rises_snoc en l y x h.2 (fun z hz => hm z (by simp [hz])) (hm y (by simp)) h2⟩
def FileS.rise (s : FileS) : Prop := risesB (-1) 1099511627776 s.pl = true ∧ ∀ y ∈ s.pl, y < s.out.length
theorem addE_rise {i : InfoV} {s : FileS} {b : List UInt8} {n : Nat} (h : s.rise) (hn : s.ok n) (hn2 : n ≤ 1000000) (he : (addE i s b).1 = 0) : (addE i s b).2.rise := by
  obtain ⟨h1, h2, _, h4⟩ := addE_ok he
  have h5 := (openH_fine h1).2.2
  have h7 := hn.out
  rw [h4]
  refine ⟨rises_snoc _ _ _ _ h.1 h.2 (by omega) (by omega), ?_⟩
  intro y hy
  simp only [List.length_append] at hy ⊢
  rcases List.mem_append.1 hy with hy | hy
  · have := h.2 y hy; omega
  · rw [List.mem_singleton.1 hy]; omega
theorem addAll_rise {i : InfoV} : ∀ (bs : List (List UInt8)) (s : FileS) (n : Nat), s.rise → s.ok n → n + bs.length ≤ 1000000 → (∀ b ∈ bs, b.length ≤ 300) → (addAll i bs s).1 = 0 → (addAll i bs s).2.rise
  | [], s, n, h, _, _, _, _ => h
  | b :: bs, s, n, h, ho, hn, hb, he => by
    rw [List.length_cons] at hn
    unfold addAll at he ⊢
    by_cases h1 : (addE i s b).1 = 0
    · rw [if_neg (by rw [h1]; simp)] at he ⊢
      exact addAll_rise bs _ (n + 1) (addE_rise h ho (by omega) h1) (ho.next (hb b (by simp)) h1) (by omega) (fun x hx => hb x (by simp [hx])) he
    · rw [if_pos h1] at he
      exact absurd he h1
theorem start_rise (i : InfoV) (l : List TagV) : (startF i l).rise := ⟨rfl, by simp [startF]⟩
theorem rise_right {s : FileS} {n : Nat} (h : s.rise) (ho : s.ok n) (hn : n ≤ 12) : rightB (s.cnt.toNat : Int) s.pl = true := by
  have h1 := ho.cnt
  have h2 := ho.pl
  unfold rightB
  rw [h.1, decide_eq_true (show 0 ≤ (s.cnt.toNat : Int) by omega), decide_eq_true (show (s.cnt.toNat : Int) ≤ 4294967295 by omega), decide_eq_true (show s.pl.length ≤ 16777216 by omega)]
  rfl
end Go.Proofs.YtkmhmehofipehaaDoor
/- slices.Concat of two slices of bytes. -/
namespace Go.Proofs.YtkmhmehofipehaaDoor
set_option linter.unusedVariables false
open Go.RowKit
theorem grow_info : (Tryd.prog.info? 5).map (fun i => (i.zero, i.size, i.bytes)) = some (some (.int .u8 0), 1, 1) := by kernel_rfl
def GrowPost (w : World) (e : Ending) (w' : World) : Prop := ∃ c : Nat, e = .returned (.slice (some ⟨w.heap.size, 0, none⟩) 0 c) ∧ w'.ownsRow w.heap.size 5 1 (.slice (some ⟨w.heap.size, 0, none⟩) 0 c) 0 [] ∧ Below w.heap.size w w'
set_option maxRecDepth 20000 in
set_option maxHeartbeats 1000000 in
theorem grow_none (n : Nat) (w : World) (h0 : 0 < n) (hn : n ≤ 70368744177664) :
    Calls Tryd.prog 66 #[.slice none 0 0, .int .i64 (n : Int)] w (GrowPost w) := by
  obtain ⟨i, hi, hz, hs, hb⟩ := info_parts grow_info
  have hold : (Builtin.firstCells i.size 0 (.slice none 0 0)).run Tryd.prog w.drew = .ok ([] : List Value).toArray w.drew := by rw [hs]; rfl
  have hrz := fun ty => Lib.run_append_grow_zeros (P := Tryd.prog) w 32 3 ty 5 i (.int .u8 0) .i64 .i64 Tryd.underlying32 Tryd.underlying3 hi hz none 0 0 [] hold n h0 (by omega) (by omega) (by omega) (by rw [hb]; omega) (growslice_fits (by omega) (by rw [hb]; omega))
  simp only [Nat.zero_add] at hrz
  have hG := grownCap_ge w n 0 5
  have hG2 := grownCap_le_maxLen w n 0 5 (by unfold maxLen; omega)
  generalize grownCap w n 0 5 = G at *
  obtain ⟨X, hX⟩ : ∃ X, X = (#[] ++ Builtin.zeroCells (Value.int .u8 0).cells n ++ Builtin.zeroCells (Value.int .u8 0).cells (G - n) : Array Value) := ⟨_, rfl⟩
  have hXs : X.size = G := by
    rw [hX]
    simp [size_zeroCells]
    have : (Value.int .u8 0).cells.size = 1 := rfl
    rw [this]; omega
  have hf : GrowPost w (.returned (.slice (some ⟨w.heap.size, 0, none⟩) 0 G)) (w.drew.alloc (.cells X 5)) :=
    ⟨G, rfl, ⟨by simp, .inr ⟨w.heap.size, G, X, rfl, Nat.le_refl _, heap_alloc_new w.drew _, by omega, hG2, by omega, by simp⟩⟩, ((Below.refl _ w).drew).alloc (Nat.le_refl _) _⟩
  rw [show ([] : List Value).toArray ++ Builtin.zeroCells (Value.int .u8 0).cells n ++ Builtin.zeroCells (Value.int .u8 0).cells (G - n) = X from hX.symm] at hrz
  generalize w.drew.alloc (.cells X 5) = w1 at *
  have d0 : decide ((n : Int) < 0) = false := decide_eq_false (by omega)
  have d1 : decide (0 < (n : Int)) = true := decide_eq_true (by omega)
  have hz1 : wrap64 (n : Int) = (n : Int) := by unfold wrap64; omega
  clear hX hG2 hold
  go_enter Tryd.func66, Tryd.ntmps66
  go_wp2_with (at_builtin; refine Lib.wpList_append_run _ rfl _ _ _ _ rfl _ _ rfl rfl _ _ (hrz _) ?_)
  all_goals (go_ret; exact hf)
/-- two slices of bytes that lie side by side -/
def TwoB (w : World) (g : Nat) (A B : Option Addr) (la ca lb cb : Nat) : Prop := w.cell? ⟨g, 0, none⟩ = some (.slice A la ca) ∧ w.cell? ⟨g, 1, none⟩ = some (.slice B lb cb)
set_option maxRecDepth 20000 in
set_option maxHeartbeats 2000000 in
theorem concat_two (g : Nat) (A B : Option Addr) (ca cb : Nat) (a b : List UInt8) (w : World) (hg : w.heap[g]? = some (.cells #[.slice A a.length ca, .slice B b.length cb] 32 (0, 0))) (ha : SeesB w A a) (hb : SeesB w B b) (h0 : 0 < a.length + b.length) (hlen : a.length + b.length ≤ 70368744177664) :
    Calls Tryd.prog 40 #[.slice (some ⟨g, 0, none⟩) 2 2] w (ClonePost w (a ++ b)) := by
  have c0 : w.cell? ⟨g, 0, none⟩ = some (.slice A a.length ca) := by rw [cell_of_row _ _ _ _ _ _ hg]; rfl
  have c1 : w.cell? ⟨g, 1, none⟩ = some (.slice B b.length cb) := by rw [cell_of_row _ _ _ _ _ _ hg]; rfl
  have hlt : g < w.heap.size := (Array.getElem?_eq_some_iff.1 hg).1
  clear hg
  obtain ⟨la, hla⟩ : ∃ la, la = a.length := ⟨_, rfl⟩
  obtain ⟨lb, hlb⟩ : ∃ lb, lb = b.length := ⟨_, rfl⟩
  rw [← hla] at c0 h0 hlen
  rw [← hlb] at c1 h0 hlen
  have HA := hid hla
  have HB := hid hlb
  obtain ⟨ab, hab⟩ : ∃ ab, ab = a ++ b := ⟨_, rfl⟩
  have hl2 : la + lb = ab.length := by rw [hab, hla, hlb, List.length_append]
  have hmm : (a ++ b).map byteV = a.map byteV ++ b.map byteV := List.map_append
  rw [← hab] at hmm ⊢
  have HM := hid hmm
  have HL := hid hl2
  have HAL := hid (show (a.map byteV).length = la by rw [hla, List.length_map])
  have HBL := hid (show (b.map byteV).length = lb by rw [hlb, List.length_map])
  have HO := hid (show ∀ u ∈ a.map byteV, u.oneCell' = true by simp [byteV, Value.oneCell'])
  have HP := hid (show ∀ u ∈ b.map byteV, u.oneCell' = true by simp [byteV, Value.oneCell'])
  clear hla hlb hab hl2 hmm
  go_enter Tryd.func40, Tryd.ntmps40
  go_wp2_with fail
  go_loop [3, 11] (fun x i => ∃ k n : Nat, k ≤ 2 ∧ i = .int .i64 (k : Int) ∧ x = .int .i64 (n : Int) ∧ Hid ((k = 0 → n = 0) ∧ (k = 1 → n = la) ∧ (k = 2 → n = la + lb))) (fun _ i => 2 - (intOf i).toNat)
  case atStart => exact ⟨0, 0, by omega, rfl, rfl, hid ⟨fun _ => rfl, fun h => by omega, fun h => by omega⟩⟩
  case round =>
    obtain ⟨k, n, hk, rfl, rfl, hP⟩ := hrel
    have hcase : k = 0 ∨ k = 1 ∨ k = 2 := by omega
    rcases hcase with hh | hh | hh
    · obtain rfl : n = 0 := hP.out.1 hh
      subst hh
      clear hP
      have dn : decide ((la : Int) < 0) = false := decide_eq_false (by omega)
      go_wp2_with fail
      go_round
      case rel => exact ⟨1, la, by omega, by go_num, by go_num, hid ⟨fun h => by omega, fun _ => rfl, fun h => by omega⟩⟩
      case measure => simp [intOf]
    · obtain rfl : n = la := hP.out.2.1 hh
      subst hh
      clear hP
      have dn : decide ((n : Int) + (lb : Int) < 0) = false := decide_eq_false (by omega)
      go_wp2_with fail
      go_round
      case rel => exact ⟨2, n + lb, by omega, by go_num, by go_num, hid ⟨fun h => by omega, fun h => by omega, fun _ => rfl⟩⟩
      case measure => simp [intOf]
    · obtain rfl : n = la + lb := hP.out.2.2 hh
      subst hh
      clear hP
      go_wp2_with fail
      refine (grow_none (la + lb) w h0 hlen).mono ?_
      rintro e w1 ⟨c, rfl, ho, hb1⟩
      have c0' := (hb1.cell (p := ⟨g, 0, none⟩) hlt).trans c0
      have c1' := (hb1.cell (p := ⟨g, 1, none⟩) hlt).trans c1
      have HC0 := hid c0
      have HC1 := hid c1
      have HSA := hid ha
      have HSB := hid hb
      clear c0 c1 ha hb c0' c1'
      go_wp2_with fail
      go_loopw [6, 27] (fun x i wr => ∃ k : Nat, k ≤ 2 ∧ i = .int .i64 (k : Int) ∧ ∃ (m : List UInt8) (N : Nat) (A' : Option Addr) (c' : Nat), Hid ((k = 0 → m = [] ∧ N = 0) ∧ (k = 1 → m = a ∧ N = la) ∧ (k = 2 → m = ab ∧ N = la + lb)) ∧ x = .slice A' N c' ∧ wr.ownsRow w.heap.size 5 1 (.slice A' N c') N (m.map byteV) ∧ Below w.heap.size w wr) (fun _ i _ => 2 - (intOf i).toNat)
      case atStart => exact ⟨0, by omega, rfl, [], 0, _, _, hid ⟨fun _ => ⟨rfl, rfl⟩, fun h => by omega, fun h => by omega⟩, rfl, ho, hb1⟩
      case round =>
        obtain ⟨k, hk, rfl, m, N, A', c', hP, rfl, ho', hb'⟩ := hrel
        have hcase : k = 0 ∨ k = 1 ∨ k = 2 := by omega
        rcases hcase with hh | hh | hh
        · obtain ⟨rfl, rfl⟩ := hP.out.1 hh
          subst hh
          clear hP hb1 ho
          have c0 := (hb'.cell (p := ⟨g, 0, none⟩) hlt).trans HC0.out
          have hsa := HSA.out.below hb'
          go_wp2_with (at_builtin; refine wpList_app rfl (.tmp 31) (.tmp 32) _ rfl elB rfl ho' A la ca rfl (a.map byteV) hsa (by rw [HAL.out]; omega) HO.out la (by omega) (a.map byteV) rfl (by unfold maxLen; omega) (by omega) hb'.size ?_; intro A2 c2 w2 hown hgr hat hbel)
          exact ⟨⟨1, by omega, by go_num, a, la, A2, c2, hid ⟨fun h => by omega, fun _ => ⟨rfl, rfl⟩, fun h => by omega⟩, rfl, hown, hb'.trans hbel⟩, by simp [intOf]⟩
        · obtain ⟨rfl, rfl⟩ := hP.out.2.1 hh
          subst hh
          clear hP hb1 ho
          have c1 := (hb'.cell (p := ⟨g, 1, none⟩) hlt).trans HC1.out
          have hsb := HSB.out.below hb'
          go_wp2_with (at_builtin; refine wpList_app rfl (.tmp 31) (.tmp 32) _ rfl elB rfl ho' B lb cb rfl (b.map byteV) hsb (by rw [HBL.out]; omega) HP.out (N + lb) rfl (ab.map byteV) HM.out.symm (by unfold maxLen; omega) (by omega) hb'.size ?_; intro A2 c2 w2 hown hgr hat hbel)
          exact ⟨⟨2, by omega, by go_num, ab, N + lb, A2, c2, hid ⟨fun h => by omega, fun h => by omega, fun _ => ⟨rfl, rfl⟩⟩, rfl, hown, hb'.trans hbel⟩, by simp [intOf]⟩
        · obtain ⟨rfl, rfl⟩ := hP.out.2.2 hh
          subst hh
          clear hP hb1 ho
          go_wp2_with fail
          have hf : ClonePost w m (.returned (.slice A' (la + lb) c')) wr := ⟨_, rfl, A', c', by rw [← HL.out], by rw [← HL.out]; exact ho', hb'⟩
          go_ret
          exact hf
end Go.Proofs.YtkmhmehofipehaaDoor
