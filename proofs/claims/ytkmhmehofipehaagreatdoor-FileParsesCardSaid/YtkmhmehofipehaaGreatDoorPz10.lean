/- Contracts: rising, Right, of the program and of the reference. -/
import Derived.Test.YtkmhmehofipehaaGreatDoorPz5
import Derived.Test.YtkmhmehofipehaaGreatDoorProg
import Derived.Test.YtkmhmehofipehaaGreatDoorPz1
import Derived.WalkSpells
import Derived.WalkLawsBesides
import Derived.Test.YtkmhmehofipehaaGreatDoorPz9
import Derived.Test.YtkmhmehofipehaaGreatDoorPz4
import Derived.Lib.SmallJoins
import Derived.Test.YtkmhmehofipehaaGreatDoorPz7
import Derived.Test.YtkmhmehofipehaaGreatDoorPz2
import Derived.BigQuiet
import Derived.Lib.AppendZerosOnto
import Derived.Test.YtkmhmehofipehaaGreatDoorPz3
import Derived.Deep.RegionHeld3
namespace Go.Proofs.YtkmhmehofipehaaGreatDoor
set_option linter.unusedVariables false
open Go.RowKit
def fallB (x last en : Int) : Bool := decide (x ≤ last) || decide (en ≤ x)
def risesB (last en : Int) : List Int → Bool
  | [] => true
  | x :: l => !fallB x last en && risesB x en l
def One (w : World) (g : Nat) (z : Int) : Prop := w.heap[g]? = some (.cells #[.int .i64 z] 3 (0, 0))
theorem One.cell {w : World} {g : Nat} {z : Int} (h : One w g z) : w.cell? ⟨g, 0, none⟩ = some (.int .i64 z) := cell_of_row w g 0 _ _ _ h
theorem One.frozen {w : World} {g : Nat} {z : Int} (h : One w g z) : w.frozen? ⟨g, 0, none⟩ = false := frozen_of_row w g 0 _ _ h
theorem One.set {w : World} {g : Nat} {z : Int} (h : One w g z) (y : Int) : One (w.setCell ⟨g, 0, none⟩ (.int .i64 y)) g y := by
  have := heap_setCell_same w g 0 _ _ (.int .i64 y) h
  exact this
theorem One.other {w : World} {g : Nat} {z : Int} (h : One w g z) (p : Addr) (hp : g ≠ p.block) (u : Value) : One (w.setCell p u) g z := (heap_setCell_other w p g u hp).trans h
set_option maxHeartbeats 400000 in
theorem fall_any (x last en : Int) (g0 g1 : Nat) (w : World) (h0 : One w g0 en) (h1 : One w g1 last) :
    Calls Tryz.prog 99 #[.int .i64 x, .pointer (some ⟨g1, 0, none⟩), .pointer (some ⟨g0, 0, none⟩)] w fun e w' => e = .returned (.bool (fallB x last en)) ∧ w.setCell ⟨g1, 0, none⟩ (.int .i64 x) = w' := by
  have hc0 := h0.cell
  have hc1 := h1.cell
  have hf := h1.frozen
  clear h0 h1
  by_cases hx : x ≤ last
  · have hd : decide (x ≤ last) = true := by simpa using hx
    go_enter Tryz.func99, Tryz.ntmps99
    go_wp2
    go_ret
    exact ⟨by rw [fallB, hd]; rfl, rfl⟩
  · have hd : decide (x ≤ last) = false := by simpa using hx
    go_enter Tryz.func99, Tryz.ntmps99
    go_wp2
    go_ret
    exact ⟨by rw [fallB, hd]; rfl, rfl⟩
def IdxPost (w : World) (g1 : Nat) (b : Bool) (e : Ending) (w' : World) : Prop := ∃ r : Int, e = .returned (.int .i64 r) ∧ decide (0 ≤ r) = !b ∧ Below g1 w w'
set_option maxHeartbeats 400000 in
theorem index_any (A : Option Addr) (c : Nat) (l : List Int) (last en : Int) (g0 g1 : Nat) (w : World) (hl : SeesI w A l) (hlen : l.length ≤ 9223372036854775807) (h0 : One w g0 en) (h1 : One w g1 last) (hg : g0 < g1) (hA : ∀ a, A = some a → 0 < l.length → a.block < g1) :
    Calls Tryz.prog 107 #[.slice A l.length c, .func (.func 99) #[] #[.pointer (some ⟨g1, 0, none⟩), .pointer (some ⟨g0, 0, none⟩)]] w (IdxPost w g1 (risesB last en l)) := by
  go_enter Tryz.func107, Tryz.ntmps107
  go_wp2
  go_loopw [8] (fun i wr => ∃ k : Nat, k ≤ l.length ∧ i = .int .i64 k ∧ Below g1 w wr ∧ One wr g0 en ∧ ∃ la : Int, One wr g1 la ∧ risesB last en l = risesB la en (l.drop k)) (fun i _ => l.length - (intOf i).toNat)
  case atStart => exact ⟨0, by omega, rfl, Below.refl _ _, h0, last, h1, rfl⟩
  case round =>
    obtain ⟨k, hk, rfl, hb, ho0, la, ho1, hr⟩ := hrel
    have HR := hid hr
    clear hr
    by_cases hlt : k < l.length
    · obtain ⟨a, rfl, hc⟩ := hl.at hlt
      have hab := hA a rfl (by omega)
      have hcw : wr.cell? (a.add k) = some (.int .i64 l[k]) := (hb.cell (by rw [addr_block]; exact hab)).trans hc
      have hstep : risesB la en (l.drop k) = (!fallB l[k] la en && risesB l[k] en (l.drop (k + 1))) := by rw [List.drop_eq_getElem_cons hlt]; rfl
      have HS := hid hstep
      clear hstep hc
      generalize l[k] = x at hcw HS
      have hd : decide ((k : Int) < l.length) = true := by simp; omega
      by_cases hf : fallB x la en = true
      · go_wp2_with (fail)
        refine (fall_any _ _ _ _ _ _ ho0 ho1).mono ?_
        rintro e w2 ⟨rfl, rfl⟩
        go_wp2_with fail
        go_ret
        exact ⟨k, rfl, by rw [HR.out, HS.out, hf]; simp, hb.setCell (Nat.le_refl _) _⟩
      · have hf' : fallB x la en = false := by simpa using hf
        go_wp2_with (fail)
        refine (fall_any _ _ _ _ _ _ ho0 ho1).mono ?_
        rintro e w2 ⟨rfl, rfl⟩
        go_wp2_with fail
        go_roundw
        case rel => exact ⟨k + 1, by omega, by go_num, hb.setCell (Nat.le_refl _) _, ho0.other _ (by simp; omega) _, x, ho1.set _, by rw [HR.out, HS.out, hf']; rfl⟩
        case measure => simp [intOf]; omega
    · obtain rfl : k = l.length := by omega
      go_wp2_with fail
      go_ret
      exact ⟨-1, rfl, by rw [HR.out, List.drop_length]; rfl, hb⟩
def BoolPost (w : World) (B : Nat) (b : Bool) (e : Ending) (w' : World) : Prop := e = .returned (.bool b) ∧ Below B w w'
set_option maxHeartbeats 400000 in
theorem contains_any (A : Option Addr) (c : Nat) (l : List Int) (last en : Int) (g0 g1 : Nat) (w : World) (hl : SeesI w A l) (hlen : l.length ≤ 9223372036854775807) (h0 : One w g0 en) (h1 : One w g1 last) (hg : g0 < g1) (hA : ∀ a, A = some a → 0 < l.length → a.block < g1) :
    Calls Tryz.prog 98 #[.slice A l.length c, .func (.func 99) #[] #[.pointer (some ⟨g1, 0, none⟩), .pointer (some ⟨g0, 0, none⟩)]] w (BoolPost w g1 (!risesB last en l)) := by
  go_enter Tryz.func98, Tryz.ntmps98
  go_wp2_with fail
  refine (index_any A c l last en g0 g1 w hl hlen h0 h1 hg hA).mono ?_
  rintro e w1 ⟨r, rfl, hr, hb⟩
  have HR := hid hr
  clear hr
  go_wp2_with fail
  go_ret
  exact ⟨by rw [← HR.out]; rfl, hb⟩
set_option maxHeartbeats 400000 in
theorem rising_any (A : Option Addr) (c : Nat) (l : List Int) (en : Int) (w : World) (hl : SeesI w A l) (hlen : l.length ≤ 9223372036854775807) :
    Calls Tryz.prog 76 #[.slice A l.length c, .int .i64 en] w (BoolPost w w.heap.size (risesB (-1) en l)) := by
  have hb : Below w.heap.size w ((w.alloc (.cells #[.int .i64 en] 3)).alloc (.cells #[.int .i64 (-1)] 3)) := ((Below.refl _ w).alloc (Nat.le_refl _) _).alloc (by simp) _
  have hl2 := hl.below hb
  have h0 : One ((w.alloc (.cells #[.int .i64 en] 3)).alloc (.cells #[.int .i64 (-1)] 3)) w.heap.size en := heap_alloc2_old _ _ _
  have h1 : One ((w.alloc (.cells #[.int .i64 en] 3)).alloc (.cells #[.int .i64 (-1)] 3)) (w.heap.size + 1) (-1) := heap_alloc2_new _ _ _
  have hA : ∀ a, A = some a → 0 < l.length → a.block < w.heap.size + 1 := by
    intro a ha h0
    obtain ⟨a', ha', hc⟩ := hl.at h0
    rw [ha] at ha'; injection ha' with ha'; subst ha'
    have := block_lt_of_cell hc
    rw [addr_block] at this; omega
  go_enter Tryz.func76, Tryz.ntmps76
  go_wp2_with fail
  refine (contains_any A c l _ _ _ _ _ hl2 hlen h0 h1 (by omega) hA).mono ?_
  rintro e w1 ⟨rfl, hb1⟩
  go_wp2_with fail
  go_ret
  exact ⟨by simp, hb.trans (hb1.mono (Nat.le_succ _))⟩
def rightB (count : Int) (l : List Int) : Bool := decide (0 ≤ count) && (decide (count ≤ 4294967295) && (decide (l.length ≤ 16777216) && risesB (-1) 1099511627776 l))
set_option maxHeartbeats 400000 in
theorem right_any (count sum : Int) (A : Option Addr) (c : Nat) (l : List Int) (w : World) (hl : SeesI w A l) (hlen : l.length ≤ 9223372036854775807) :
    Calls Tryz.prog 48 #[.agg #[.int .i64 count, .int .u32 sum, .slice A l.length c]] w (BoolPost w w.heap.size (rightB count l)) := by
  go_enter Tryz.func48, Tryz.ntmps48
  go_wp2_with fail
  · have h1 : 0 ≤ count := by assumption
    have h2 : count ≤ 4294967295 := by assumption
    have h3 : (l.length : Int) ≤ 16777216 := by assumption
    have hb : Below w.heap.size w (w.alloc (.cells #[.int .i64 count, .int .u32 sum, .slice A l.length c] 33)) := (Below.refl _ w).alloc (Nat.le_refl _) _
    refine (rising_any A c l 1099511627776 _ (hl.below hb) hlen).mono ?_
    rintro e w1 ⟨rfl, hb1⟩
    go_wp2_with fail
    go_ret
    exact ⟨by rw [rightB]; simp [h1, h2, show l.length ≤ 16777216 by omega], hb.trans (hb1.mono (by simp))⟩
  all_goals
    go_ret
    exact ⟨by rw [rightB]; simp; omega, (Below.refl _ w).alloc (Nat.le_refl _) _⟩
theorem right_is (count sum : Int) (A : Option Addr) (c : Nat) (l : List Int) (w : World) (hl : SeesI w A l) (hlen : l.length ≤ 9223372036854775807) (v : Bool) (hv : rightB count l = v) :
    Calls Tryz.prog 48 #[.agg #[.int .i64 count, .int .u32 sum, .slice A l.length c]] w fun e w' => e = .returned (.bool v) ∧ Below w.heap.size w w' :=
  hv ▸ right_any count sum A c l w hl hlen
end Go.Proofs.YtkmhmehofipehaaGreatDoor
/- A tail as bytes. -/
namespace Go.Proofs.YtkmhmehofipehaaGreatDoor
set_option linter.unusedVariables false
open Go.RowKit
def placesB (l : List Int) : List UInt8 := l.flatMap fun p => bytesLE p.toNat 5
def threeB (count sum n : Nat) (i : Nat) : List UInt8 := [69, 78] ++ (([count, sum, n] : List Nat).take i).flatMap fun x => bytesLE x 4
def tailHead (count sum : Nat) (l : List Int) : List UInt8 := threeB count sum l.length 3 ++ placesB l
theorem placesB_step (l : List Int) (k : Nat) (h : k < l.length) : placesB (l.take (k + 1)) = placesB (l.take k) ++ bytesLE l[k].toNat 5 := by
  unfold placesB; rw [List.take_succ_eq_append_getElem h, List.flatMap_append]; simp
theorem placesB_len (l : List Int) : (placesB l).length = 5 * l.length := by
  induction l with
  | nil => rfl
  | cons x l ih => rw [show placesB (x :: l) = bytesLE x.toNat 5 ++ placesB l from rfl, List.length_append, ih, bytesLE_length, List.length_cons]; omega
theorem threeB_len (count sum n : Nat) : (threeB count sum n 3).length = 14 := by simp [threeB, bytesLE_length]
theorem tailHead_len (count sum : Nat) (l : List Int) : (tailHead count sum l).length = 14 + 5 * l.length := by unfold tailHead; rw [List.length_append, threeB_len, placesB_len]
set_option maxHeartbeats 4000000 in
theorem tput_ok (g : Nat) (count sum : Nat) (A : Option Addr) (c : Nat) (l : List Int) (w : World) (ht : Tab w g) (hl : SeesI w A l) (hlen : l.length ≤ 16777216) (hr : rightB count l = true) (hc : count < 4294967296) (hs : sum < 4294967296) (hpl : ∀ (i : Nat) (h : i < l.length), 0 ≤ l[i] ∧ l[i] < 1099511627776) :
    Calls Tryz.prog 27 #[.pointer (some ⟨g, 0, none⟩), .agg #[.int .i64 (count : Int), .int .u32 (sum : Int), .slice A l.length c]] w (PutPost w (sealed (tailHead count sum l))) := by
  have hb : Below w.heap.size w (w.alloc (.cells #[.int .i64 (count : Int), .int .u32 (sum : Int), .slice A l.length c] 33)) := (Below.refl _ w).alloc (Nat.le_refl _) _
  have hrow := heap_alloc_new w (.cells #[.int .i64 (count : Int), .int .u32 (sum : Int), .slice A l.length c] 33)
  have hsz0 : (w.alloc (.cells #[.int .i64 (count : Int), .int .u32 (sum : Int), .slice A l.length c] 33)).heap.size = w.heap.size + 1 := by simp
  have htg := ht.lt
  go_enter Tryz.func27, Tryz.ntmps27
  go_wp2_with fail
  generalize w.alloc (.cells #[.int .i64 (count : Int), .int .u32 (sum : Int), .slice A l.length c] 33) = w0 at *
  have hlt0 : w.heap.size < w0.heap.size := by omega
  refine (right_is count sum A c l w0 (hl.below hb) (by omega) true hr).mono ?_
  rintro e w1 ⟨rfl, hb1⟩
  have hrow1 := (hb1.block w.heap.size hlt0).trans hrow
  have hlt1 : w.heap.size < w1.heap.size := Nat.lt_of_lt_of_le hlt0 hb1.size
  have hbw1 := hb.trans (hb1.mono hb.size)
  clear hb hb1 hrow hr hsz0
  have hm := mk_new w1
  have hb2 : Below w1.heap.size w1 (w1.alloc (.cells #[.int .i64 0, .slice none 0 0] 116)) := (Below.refl _ w1).alloc (Nat.le_refl _) _
  have hrow2 := (hb2.block w.heap.size hlt1).trans hrow1
  have hlt2 : w.heap.size < (w1.alloc (.cells #[.int .i64 0, .slice none 0 0] 116)).heap.size := Nat.lt_of_lt_of_le hlt1 hb2.size
  have hbw2 := hbw1.trans (hb2.mono hbw1.size)
  have hsz2 : (w1.alloc (.cells #[.int .i64 0, .slice none 0 0] 116)).heap.size = w1.heap.size + 1 := by simp
  go_wp2_with fail
  generalize w1.alloc (.cells #[.int .i64 0, .slice none 0 0] 116) = w2 at *
  have hb3 : Below w2.heap.size w2 (w2.alloc (.cells #[.int .u8 69, .int .u8 78] 5)) := (Below.refl _ w2).alloc (Nat.le_refl _) _
  have hs3 : SeesB (w2.alloc (.cells #[.int .u8 69, .int .u8 78] 5)) (some ⟨w1.heap.size + 1, 0, none⟩) [69, 78] := by
    rw [← hsz2]
    exact Sees.of_block (heap_alloc_new w2 _) rfl
  have hm3 := hm.below hb3
  have hrow3 := (hb3.block w.heap.size hlt2).trans hrow2
  have hlt3 := Nat.lt_of_lt_of_le hlt2 hb3.size
  have hbw3 := hbw2.trans (hb3.mono hbw2.size)
  clear hm hrow2 hrow1 hb2 hb3 hbw2
  generalize w2.alloc (.cells #[.int .u8 69, .int .u8 78] 5) = w3 at *
  refine (raw_any w1.heap.size _ 0 [] _ 2 [69, 78] w3 hm3 hs3 (by decide)).mono ?_
  rintro e w4 ⟨rfl, R4, hm4, hB4, hR4⟩
  rw [show putRaw (0, []) [69, 78] = (0, [69, 78]) from rfl] at hm4
  have hR4' : ∀ b, R4 b → w1.heap.size ≤ b := fun b h => by
    rcases hR4 b h with h | h
    · exact Nat.le_of_eq h.symm
    · have := hm3.lt; omega
  have hbw4 := But.below hbw3 hB4 (fun n h => by have := hbw1.size; omega) hbw3.size
  have hrow4 := (hB4.block w.heap.size hlt3 (fun h => by omega)).trans hrow3
  have hlt4 := Nat.lt_of_lt_of_le hlt3 hB4.size
  clear hm3 hs3 hB4 hR4 hrow3 hbw3
  have c0 : w4.cell? ⟨w.heap.size, 0, none⟩ = some (.int .i64 (count : Int)) := by rw [cell_of_row _ _ _ _ _ _ hrow4]; rfl
  have c1 : w4.cell? ⟨w.heap.size, 1, none⟩ = some (.int .u32 (sum : Int)) := by rw [cell_of_row _ _ _ _ _ _ hrow4]; rfl
  have c2 : w4.cell? ⟨w.heap.size, 2, none⟩ = some (.slice A l.length c) := by rw [cell_of_row _ _ _ _ _ _ hrow4]; rfl
  go_wp2_with fail
  go_loopw [8, 34] (fun x i wr => ∃ n : Nat, n ≤ 3 ∧ i = .int .i64 n ∧ ∃ R, Mk wr w1.heap.size R 0 (threeB count sum l.length n) ∧ (∀ b, R b → w1.heap.size ≤ b) ∧ Below w.heap.size w wr ∧ wr.heap[w.heap.size]? = some (.cells #[.int .i64 (count : Int), .int .u32 (sum : Int), .slice A l.length c] 33 (0, 0))) (fun _ i _ => 3 - (intOf i).toNat)
  case atStart => exact ⟨0, by omega, rfl, R4, hm4, hR4', hbw4, hrow4⟩
  case round =>
    obtain ⟨n, hn, rfl, R, hm5, hR5, hbw5, hrow5⟩ := hrel
    have i0 : ∀ w, (Instr.index 118 (.agg #[.int .i64 (count : Int), .int .i64 (sum : Int), .int .i64 (l.length : Int)]) (.int .i64 0)).run Tryz.prog w = .ok (.int .i64 (count : Int)) w := fun _ => by kernel_rfl
    have i1 : ∀ w, (Instr.index 118 (.agg #[.int .i64 (count : Int), .int .i64 (sum : Int), .int .i64 (l.length : Int)]) (.int .i64 1)).run Tryz.prog w = .ok (.int .i64 (sum : Int)) w := fun _ => by kernel_rfl
    have i2 : ∀ w, (Instr.index 118 (.agg #[.int .i64 (count : Int), .int .i64 (sum : Int), .int .i64 (l.length : Int)]) (.int .i64 2)).run Tryz.prog w = .ok (.int .i64 (l.length : Int)) w := fun _ => by kernel_rfl
    have hlt5 : w.heap.size < wr.heap.size := (Array.getElem?_eq_some_iff.1 hrow5).1
    have hlw5 : w1.heap.size < wr.heap.size := hm5.lt
    clear c0 c1 c2
    by_cases hlt : n < 3
    · have hcase : n = 0 ∨ n = 1 ∨ n = 2 := by omega
      rcases hcase with hh | hh | hh
      · subst hh
        have hp : putU (0, threeB count sum l.length 0) count 4 = (0, threeB count sum l.length 1) := putU_ok _ count 4 (by omega) (by omega)
        have hst := hid (makerU_any w1.heap.size R 0 (threeB count sum l.length 0) count 4 wr hm5 (by omega) (by simp [threeB]))
        rw [hp] at hst
        clear hp
        go_wp2_with fail
        refine hst.out.mono ?_
        rintro e w6 ⟨rfl, R6, hm6, hB6, hR6⟩
        have hbw6 := But.below hbw5 hB6 (fun b h => by have := hR5 b h; have := hbw1.size; omega) hbw5.size
        have hrow6 := (hB6.block w.heap.size hlt5 (fun h => by have := hR5 _ h; omega)).trans hrow5
        have hR6' : ∀ b, R6 b → w1.heap.size ≤ b := fun b h => by
          rcases hR6 b h with h | h
          · exact hR5 b h
          · omega
        go_wp2_with fail
        exact ⟨⟨1, by omega, by go_num, R6, hm6, hR6', hbw6, hrow6⟩, by simp [intOf]⟩
      · subst hh
        have hp : putU (0, threeB count sum l.length 1) sum 4 = (0, threeB count sum l.length 2) := putU_ok _ sum 4 (by omega) (by omega)
        have hst := hid (makerU_any w1.heap.size R 0 (threeB count sum l.length 1) sum 4 wr hm5 (by omega) (by simp [threeB, bytesLE_length]))
        rw [hp] at hst
        clear hp
        go_wp2_with fail
        refine hst.out.mono ?_
        rintro e w6 ⟨rfl, R6, hm6, hB6, hR6⟩
        have hbw6 := But.below hbw5 hB6 (fun b h => by have := hR5 b h; have := hbw1.size; omega) hbw5.size
        have hrow6 := (hB6.block w.heap.size hlt5 (fun h => by have := hR5 _ h; omega)).trans hrow5
        have hR6' : ∀ b, R6 b → w1.heap.size ≤ b := fun b h => by
          rcases hR6 b h with h | h
          · exact hR5 b h
          · omega
        go_wp2_with fail
        exact ⟨⟨2, by omega, by go_num, R6, hm6, hR6', hbw6, hrow6⟩, by simp [intOf]⟩
      · subst hh
        have hp : putU (0, threeB count sum l.length 2) l.length 4 = (0, threeB count sum l.length 3) := putU_ok _ l.length 4 (by omega) (by omega)
        have hst := hid (makerU_any w1.heap.size R 0 (threeB count sum l.length 2) l.length 4 wr hm5 (by omega) (by simp [threeB, bytesLE_length]))
        rw [hp] at hst
        clear hp
        go_wp2_with fail
        refine hst.out.mono ?_
        rintro e w6 ⟨rfl, R6, hm6, hB6, hR6⟩
        have hbw6 := But.below hbw5 hB6 (fun b h => by have := hR5 b h; have := hbw1.size; omega) hbw5.size
        have hrow6 := (hB6.block w.heap.size hlt5 (fun h => by have := hR5 _ h; omega)).trans hrow5
        have hR6' : ∀ b, R6 b → w1.heap.size ≤ b := fun b h => by
          rcases hR6 b h with h | h
          · exact hR5 b h
          · omega
        go_wp2_with fail
        exact ⟨⟨3, by omega, by go_num, R6, hm6, hR6', hbw6, hrow6⟩, by simp [intOf]⟩
    · have hn3 : n = 3 := by omega
      have hd3 : decide ((n : Int) < 3) = false := by simp; omega
      rw [hn3] at hm5
      have HN3 := hid hn3
      clear hn3
      have c2 : wr.cell? ⟨w.heap.size, 2, none⟩ = some (.slice A l.length c) := by rw [cell_of_row _ _ _ _ _ _ hrow5]; rfl
      have hli := hl.below hbw5
      clear i0 i1 i2
      go_wp2_with fail
      clear c2
      go_loopw [10, 45] (fun x i wq => ∃ n : Nat, n ≤ l.length ∧ i = .int .i64 n ∧ ∃ R, Mk wq w1.heap.size R 0 (threeB count sum l.length 3 ++ placesB (l.take n)) ∧ (∀ b, R b → w1.heap.size ≤ b) ∧ Below w.heap.size w wq) (fun _ i _ => l.length - (intOf i).toNat)
      case atStart => exact ⟨0, by omega, rfl, R, by simpa [placesB] using hm5, hR5, hbw5⟩
      case round =>
        clear hm5 hR5 hbw5 hrow5 hlt5 hlw5 hli
        clear HN3 hd3 hn hlt
        obtain ⟨n, hn, rfl, R, hm5, hR5, hbw5⟩ := hrel
        have hlw5 : w1.heap.size < wr.heap.size := hm5.lt
        have hpt : (placesB (l.take n)).length = 5 * n := by rw [placesB_len, List.length_take]; omega
        by_cases hlt : n < l.length
        · have hd : decide (n < l.length) = true := by simpa using hlt
          obtain ⟨a, rfl, ca⟩ := (hl.below hbw5).at hlt
          have hpp := hpl n hlt
          obtain ⟨p, hp⟩ := Int.eq_ofNat_of_zero_le hpp.1
          have hps := placesB_step l n hlt
          rw [hp] at ca hpp hps
          rw [Int.toNat_natCast] at hps
          have hput : putU (0, threeB count sum l.length 3 ++ placesB (l.take n)) p 5 = (0, threeB count sum l.length 3 ++ placesB (l.take (n + 1))) := (putU_ok _ p 5 (by omega) (by omega)).trans (by rw [hps, List.append_assoc])
          have hst := hid (makerU_any w1.heap.size R 0 (threeB count sum l.length 3 ++ placesB (l.take n)) p 5 wr hm5 (by omega) (by rw [List.length_append, threeB_len, hpt]; omega))
          rw [hput] at hst
          clear hput hps hp
          go_wp2_with fail
          refine hst.out.mono ?_
          rintro e w6 ⟨rfl, R6, hm6, hB6, hR6⟩
          have hbw6 := But.below hbw5 hB6 (fun b h => by have := hR5 b h; have := hbw1.size; omega) hbw5.size
          have hR6' : ∀ b, R6 b → w1.heap.size ≤ b := fun b h => by
            rcases hR6 b h with h | h
            · exact hR5 b h
            · omega
          go_wp2_with fail
          exact ⟨⟨n + 1, hlt, by go_num, R6, hm6, hR6', hbw6⟩, by simp [intOf]; omega⟩
        · obtain rfl : n = l.length := by omega
          have hd : decide (l.length < l.length) = false := by simp
          rw [List.take_length] at hm5
          have HL : Hid ((tailHead count sum l).length = 14 + 5 * l.length) := hid (tailHead_len count sum l)
          rw [show threeB count sum l.length 3 ++ placesB l = tailHead count sum l from rfl] at hm5
          clear hpt
          generalize tailHead count sum l = L at *
          go_wp2_with fail
          refine (bytes_ok w1.heap.size R L wr hm5 (by rw [HL.out]; omega)).mono ?_
          rintro e w8 ⟨v, rfl, hv⟩
          obtain ⟨A8, c8, rfl, hs8, hA8, ho8, hb8⟩ := hv.parts
          have hbw8 := hbw5.trans (hb8.mono hbw5.size)
          have hm8 := hm5.below hb8
          have hsr := sumI_range L
          obtain ⟨S, hS⟩ := Int.eq_ofNat_of_zero_le hsr.1
          go_wp2_with fail
          refine (sum_any g A8 c8 L w8 (ht.keep hbw8 htg) hs8 (by rw [HL.out]; omega)).mono ?_
          rintro e w9 ⟨rfl, rfl⟩
          have HSE : Hid (sealed L = L ++ bytesLE S 4) := hid (by unfold sealed; rw [hS]; rfl)
          rw [hS] at hsr ⊢
          have hS4 : S < 4294967296 := by omega
          clear hS
          have hp : putU (0, L) S 4 = (0, L ++ bytesLE S 4) := putU_ok _ S 4 (by omega) (by omega)
          have hst := hid (makerU_any w1.heap.size R 0 L S 4 w8 hm8 (by omega) (by rw [HL.out]; omega))
          rw [hp] at hst
          clear hp hm5 hv ho8 hs8 hA8
          go_wp2_with fail
          refine hst.out.mono ?_
          rintro e wa ⟨rfl, Ra, hma, hBa, hRa⟩
          have hbwa := But.below hbw8 hBa (fun b h => by have := hR5 b h; have := hbw1.size; omega) hbw8.size
          go_wp2_with fail
          refine (bytes_ok w1.heap.size Ra _ wa hma (by rw [List.length_append, bytesLE_length, HL.out]; omega)).mono ?_
          rintro e wb ⟨v, rfl, hv⟩
          have hf : PutPost w (sealed L) (.returned (.tuple #[v, .int .i64 0])) wb := ⟨v, rfl, by rw [HSE.out]; exact hv.lower hbwa⟩
          go_wp2_with fail
          go_ret2
          exact hf
end Go.Proofs.YtkmhmehofipehaaGreatDoor
/- Files, plainly: what their parts make; blocks in memory. -/
namespace Go.Proofs.YtkmhmehofipehaaGreatDoor
set_option linter.unusedVariables false
open Go.RowKit
def InfoV.right (i : InfoV) : Bool := rightI i.k i.ch i.bi i.ra i.bl i.sh
theorem InfoV.range {i : InfoV} (h : i.right = true) : (1 ≤ i.k ∧ i.k ≤ 3) ∧ (1 ≤ i.ch ∧ i.ch ≤ 8) ∧ (8 ≤ i.bi ∧ i.bi ≤ 24) ∧ (1 ≤ i.ra ∧ i.ra ≤ 1048575) ∧ (256 ≤ i.bl ∧ i.bl ≤ 65536) ∧ (0 ≤ i.sh ∧ i.sh ≤ 3) := by
  have h1 := of_decide_eq_true h
  have h2 := of_decide_eq_true h1.2.1
  exact ⟨h1.1, h2.1, h2.2.1, h2.2.2, h1.2.2.1, h1.2.2.2.1⟩
theorem openH_fine {b : List UInt8} (h : (openH b).1 = 0) : 36 + (openH b).2.1.siz ≤ b.length ∧ rightH (openH b).2.1.k (openH b).2.1.idx (openH b).2.1.len (openH b).2.1.stp (openH b).2.1.bnd (openH b).2.1.lst (openH b).2.1.lnk (openH b).2.1.siz = true ∧ 0 ≤ (openH b).2.1.siz := by
  unfold openH at h ⊢
  by_cases h1 : (getH b).1 ≠ 0
  · rw [if_pos h1] at h; exact absurd h h1
  · rw [if_neg h1] at h ⊢
    obtain ⟨_, _, _, hok, hsd⟩ := getH_ok (by simpa using h1)
    split at h
    · exact absurd h (by decide)
    · split at h
      · exact absurd h (by decide)
      · rename_i h2 h3
        rw [if_neg h2, if_neg h3]
        simp only
        rw [hsd]
        unfold okH at hok
        rw [Bool.and_eq_true] at hok
        unfold saidH
        simp only
        exact ⟨by omega, hok.2, by omega⟩
theorem openH_len {b : List UInt8} (h : (openH b).1 = 0) : 1 ≤ (openH b).2.1.len ∧ (openH b).2.1.len ≤ 65536 := by
  have h1 := of_decide_eq_true (openH_fine h).2.1
  exact h1.2.2.1
end Go.Proofs.YtkmhmehofipehaaGreatDoor
/- What a reader has not read. -/
namespace Go.Proofs.YtkmhmehofipehaaGreatDoor
set_option linter.unusedVariables false
open Go.RowKit
def RestPost (w : World) (l : List UInt8) (e : Ending) (w' : World) : Prop :=
  ∃ (A : Option Addr) (c : Nat), e = .returned (.slice A l.length c) ∧ SeesB w' A l ∧ l.length ≤ c ∧ c ≤ maxLen ∧ Below w.heap.size w w'
set_option maxRecDepth 20000 in
set_option maxHeartbeats 2000000 in
theorem rest_any (m : Nat) (cs : Array Value) (t : TypeId) (A : Option Addr) (c p : Nat) (l : List UInt8) (w : World) (hm : w.heap[m]? = some (.cells cs t (0, 0))) (h11 : cs[11]? = some (.slice A l.length c)) (h12 : cs[12]? = some (.int .i64 (p : Int))) (hl : SeesB w A l) (hc : l.length ≤ c) (hcm : c ≤ maxLen) (hp : p ≤ l.length) :
    Calls Tryz.prog 13 #[.pointer (some ⟨m, 0, none⟩)] w (RestPost w (l.drop p)) := by
  have c11 : w.cell? ⟨m, 11, none⟩ = some (.slice A l.length c) := by rw [cell_of_row _ _ _ _ _ _ hm]; exact h11
  have c12 : w.cell? ⟨m, 12, none⟩ = some (.int .i64 (p : Int)) := by rw [cell_of_row _ _ _ _ _ _ hm]; exact h12
  have b0 : 0 ≤ (p : Int) := by omega
  have b1 : (p : Int) ≤ l.length := by omega
  have b2 : (l.length : Int) ≤ c := by omega
  have hdl : (l.drop p).length = l.length - p := List.length_drop
  clear hm h11 h12
  go_enter Tryz.func13, Tryz.ntmps13
  go_wp2_with fail
  go_quiet (fail)
  have hs : SeesB w (if c = p then A else A.map (·.add p)) (l.drop p) := by
    by_cases h : c = p
    · rw [if_pos h, List.drop_eq_nil_of_le (by omega)]; exact Sees.nil _ _
    · rw [if_neg h]
      have := SeesB.cutTo hl p l.length
      rwa [List.take_of_length_le (by rw [hdl]; omega)] at this
  have hfin : RestPost w (l.drop p) (.returned (.slice (if c = p then A else A.map (·.add p)) (l.length - p) (c - p))) (w.drewN nq) :=
    ⟨_, _, by rw [hdl], hs, by rw [hdl]; omega, by omega, ⟨rfl, rfl, rfl, Nat.le_refl _, fun _ _ => rfl⟩⟩
  clear hs hl
  generalize (if c = p then A else Option.map (fun x => x.add p) A) = Z at *
  go_wp2_with fail
  go_ret
  exact hfin
end Go.Proofs.YtkmhmehofipehaaGreatDoor
/- slices.Concat of two slices of bytes. -/
namespace Go.Proofs.YtkmhmehofipehaaGreatDoor
set_option linter.unusedVariables false
open Go.RowKit
theorem grow_info : (Tryz.prog.info? 5).map (fun i => (i.zero, i.size, i.bytes)) = some (some (.int .u8 0), 1, 1) := by kernel_rfl
def GrowPost (w : World) (e : Ending) (w' : World) : Prop := ∃ c : Nat, e = .returned (.slice (some ⟨w.heap.size, 0, none⟩) 0 c) ∧ w'.ownsRow w.heap.size 5 1 (.slice (some ⟨w.heap.size, 0, none⟩) 0 c) 0 [] ∧ Below w.heap.size w w'
set_option maxRecDepth 20000 in
set_option maxHeartbeats 1000000 in
theorem grow_none (n : Nat) (w : World) (h0 : 0 < n) (hn : n ≤ 70368744177664) :
    Calls Tryz.prog 75 #[.slice none 0 0, .int .i64 (n : Int)] w (GrowPost w) := by
  obtain ⟨i, hi, hz, hs, hb⟩ := info_parts grow_info
  have hold : (Builtin.firstCells i.size 0 (.slice none 0 0)).run Tryz.prog w.drew = .ok ([] : List Value).toArray w.drew := by rw [hs]; rfl
  have hrz := fun ty => Lib.run_append_grow_zeros (P := Tryz.prog) w 22 3 ty 5 i (.int .u8 0) .i64 .i64 Tryz.underlying22 Tryz.underlying3 hi hz none 0 0 [] hold n h0 (by omega) (by omega) (by omega) (by rw [hb]; omega) (growslice_fits (by omega) (by rw [hb]; omega))
  simp only [Nat.zero_add] at hrz
  have hG := grownCap_ge w n 0 5
  have hG2 := grownCap_le_maxLen w n 0 5 (by unfold maxLen; omega)
  generalize grownCap w n 0 5 = G at *
  obtain ⟨X, hX⟩ : ∃ X, X = (#[] ++ Builtin.zeroCells (Value.int .u8 0).cells n ++ Builtin.zeroCells (Value.int .u8 0).cells (G - n) : Array Value) := ⟨_, rfl⟩
  have hXs : X.size = G := by
    rw [hX]
    simp [size_zeroCells]
    have : (Value.int .u8 0).cells.size = 1 := rfl
    rw [this]; omega
  have hf : GrowPost w (.returned (.slice (some ⟨w.heap.size, 0, none⟩) 0 G)) (w.drew.alloc (.cells X 5)) :=
    ⟨G, rfl, ⟨by simp, .inr ⟨w.heap.size, G, X, rfl, Nat.le_refl _, heap_alloc_new w.drew _, by omega, hG2, by omega, by simp⟩⟩, ((Below.refl _ w).drew).alloc (Nat.le_refl _) _⟩
  rw [show ([] : List Value).toArray ++ Builtin.zeroCells (Value.int .u8 0).cells n ++ Builtin.zeroCells (Value.int .u8 0).cells (G - n) = X from hX.symm] at hrz
  generalize w.drew.alloc (.cells X 5) = w1 at *
  have d0 : decide ((n : Int) < 0) = false := decide_eq_false (by omega)
  have d1 : decide (0 < (n : Int)) = true := decide_eq_true (by omega)
  have hz1 : wrap64 (n : Int) = (n : Int) := by unfold wrap64; omega
  clear hX hG2 hold
  go_enter Tryz.func75, Tryz.ntmps75
  go_wp2_with (at_builtin; refine Lib.wpList_append_run _ rfl _ _ _ _ rfl _ _ rfl rfl _ _ (hrz _) ?_)
  all_goals (go_ret; exact hf)
set_option maxRecDepth 20000 in
set_option maxHeartbeats 2000000 in
theorem concat_two (g : Nat) (A B : Option Addr) (ca cb : Nat) (a b : List UInt8) (w : World) (hg : w.heap[g]? = some (.cells #[.slice A a.length ca, .slice B b.length cb] 22 (0, 0))) (ha : SeesB w A a) (hb : SeesB w B b) (h0 : 0 < a.length + b.length) (hlen : a.length + b.length ≤ 70368744177664) :
    Calls Tryz.prog 47 #[.slice (some ⟨g, 0, none⟩) 2 2] w (ClonePost w (a ++ b)) := by
  have c0 : w.cell? ⟨g, 0, none⟩ = some (.slice A a.length ca) := by rw [cell_of_row _ _ _ _ _ _ hg]; rfl
  have c1 : w.cell? ⟨g, 1, none⟩ = some (.slice B b.length cb) := by rw [cell_of_row _ _ _ _ _ _ hg]; rfl
  have hlt : g < w.heap.size := (Array.getElem?_eq_some_iff.1 hg).1
  clear hg
  obtain ⟨la, hla⟩ : ∃ la, la = a.length := ⟨_, rfl⟩
  obtain ⟨lb, hlb⟩ : ∃ lb, lb = b.length := ⟨_, rfl⟩
  rw [← hla] at c0 h0 hlen
  rw [← hlb] at c1 h0 hlen
  have HA := hid hla
  have HB := hid hlb
  obtain ⟨ab, hab⟩ : ∃ ab, ab = a ++ b := ⟨_, rfl⟩
  have hl2 : la + lb = ab.length := by rw [hab, hla, hlb, List.length_append]
  have hmm : (a ++ b).map byteV = a.map byteV ++ b.map byteV := List.map_append
  rw [← hab] at hmm ⊢
  have HM := hid hmm
  have HL := hid hl2
  have HAL := hid (show (a.map byteV).length = la by rw [hla, List.length_map])
  have HBL := hid (show (b.map byteV).length = lb by rw [hlb, List.length_map])
  have HO := hid (show ∀ u ∈ a.map byteV, u.oneCell' = true by simp [byteV, Value.oneCell'])
  have HP := hid (show ∀ u ∈ b.map byteV, u.oneCell' = true by simp [byteV, Value.oneCell'])
  clear hla hlb hab hl2 hmm
  go_enter Tryz.func47, Tryz.ntmps47
  go_wp2_with fail
  go_loop [3, 11] (fun x i => ∃ k n : Nat, k ≤ 2 ∧ i = .int .i64 (k : Int) ∧ x = .int .i64 (n : Int) ∧ Hid ((k = 0 → n = 0) ∧ (k = 1 → n = la) ∧ (k = 2 → n = la + lb))) (fun _ i => 2 - (intOf i).toNat)
  case atStart => exact ⟨0, 0, by omega, rfl, rfl, hid ⟨fun _ => rfl, fun h => by omega, fun h => by omega⟩⟩
  case round =>
    obtain ⟨k, n, hk, rfl, rfl, hP⟩ := hrel
    have hcase : k = 0 ∨ k = 1 ∨ k = 2 := by omega
    rcases hcase with hh | hh | hh
    · obtain rfl : n = 0 := hP.out.1 hh
      subst hh
      clear hP
      have dn : decide ((la : Int) < 0) = false := decide_eq_false (by omega)
      go_wp2_with fail
      go_round
      case rel => exact ⟨1, la, by omega, by go_num, by go_num, hid ⟨fun h => by omega, fun _ => rfl, fun h => by omega⟩⟩
      case measure => simp [intOf]
    · obtain rfl : n = la := hP.out.2.1 hh
      subst hh
      clear hP
      have dn : decide ((n : Int) + (lb : Int) < 0) = false := decide_eq_false (by omega)
      go_wp2_with fail
      go_round
      case rel => exact ⟨2, n + lb, by omega, by go_num, by go_num, hid ⟨fun h => by omega, fun h => by omega, fun _ => rfl⟩⟩
      case measure => simp [intOf]
    · obtain rfl : n = la + lb := hP.out.2.2 hh
      subst hh
      clear hP
      go_wp2_with fail
      refine (grow_none (la + lb) w h0 hlen).mono ?_
      rintro e w1 ⟨c, rfl, ho, hb1⟩
      have c0' := (hb1.cell (p := ⟨g, 0, none⟩) hlt).trans c0
      have c1' := (hb1.cell (p := ⟨g, 1, none⟩) hlt).trans c1
      have HC0 := hid c0
      have HC1 := hid c1
      have HSA := hid ha
      have HSB := hid hb
      clear c0 c1 ha hb c0' c1'
      go_wp2_with fail
      go_loopw [6, 27] (fun x i wr => ∃ k : Nat, k ≤ 2 ∧ i = .int .i64 (k : Int) ∧ ∃ (m : List UInt8) (N : Nat) (A' : Option Addr) (c' : Nat), Hid ((k = 0 → m = [] ∧ N = 0) ∧ (k = 1 → m = a ∧ N = la) ∧ (k = 2 → m = ab ∧ N = la + lb)) ∧ x = .slice A' N c' ∧ wr.ownsRow w.heap.size 5 1 (.slice A' N c') N (m.map byteV) ∧ Below w.heap.size w wr) (fun _ i _ => 2 - (intOf i).toNat)
      case atStart => exact ⟨0, by omega, rfl, [], 0, _, _, hid ⟨fun _ => ⟨rfl, rfl⟩, fun h => by omega, fun h => by omega⟩, rfl, ho, hb1⟩
      case round =>
        obtain ⟨k, hk, rfl, m, N, A', c', hP, rfl, ho', hb'⟩ := hrel
        have hcase : k = 0 ∨ k = 1 ∨ k = 2 := by omega
        rcases hcase with hh | hh | hh
        · obtain ⟨rfl, rfl⟩ := hP.out.1 hh
          subst hh
          clear hP hb1 ho
          have c0 := (hb'.cell (p := ⟨g, 0, none⟩) hlt).trans HC0.out
          have hsa := HSA.out.below hb'
          go_wp2_with (at_builtin; refine wpList_app rfl (.tmp 31) (.tmp 32) _ rfl elB rfl ho' A la ca rfl (a.map byteV) hsa (by rw [HAL.out]; omega) HO.out la (by omega) (a.map byteV) rfl (by unfold maxLen; omega) (by omega) hb'.size ?_; intro A2 c2 w2 hown hgr hat hbel)
          exact ⟨⟨1, by omega, by go_num, a, la, A2, c2, hid ⟨fun h => by omega, fun _ => ⟨rfl, rfl⟩, fun h => by omega⟩, rfl, hown, hb'.trans hbel⟩, by simp [intOf]⟩
        · obtain ⟨rfl, rfl⟩ := hP.out.2.1 hh
          subst hh
          clear hP hb1 ho
          have c1 := (hb'.cell (p := ⟨g, 1, none⟩) hlt).trans HC1.out
          have hsb := HSB.out.below hb'
          go_wp2_with (at_builtin; refine wpList_app rfl (.tmp 31) (.tmp 32) _ rfl elB rfl ho' B lb cb rfl (b.map byteV) hsb (by rw [HBL.out]; omega) HP.out (N + lb) rfl (ab.map byteV) HM.out.symm (by unfold maxLen; omega) (by omega) hb'.size ?_; intro A2 c2 w2 hown hgr hat hbel)
          exact ⟨⟨2, by omega, by go_num, ab, N + lb, A2, c2, hid ⟨fun h => by omega, fun h => by omega, fun _ => ⟨rfl, rfl⟩⟩, rfl, hown, hb'.trans hbel⟩, by simp [intOf]⟩
        · obtain ⟨rfl, rfl⟩ := hP.out.2.2 hh
          subst hh
          clear hP hb1 ho
          go_wp2_with fail
          have hf : ClonePost w m (.returned (.slice A' (la + lb) c')) wr := ⟨_, rfl, A', c', by rw [← HL.out], by rw [← HL.out]; exact ho', hb'⟩
          go_ret
          exact hf
end Go.Proofs.YtkmhmehofipehaaGreatDoor
/- A file of info and any tags, as it begins. -/
namespace Go.Proofs.YtkmhmehofipehaaGreatDoor
set_option linter.unusedVariables false
open Go.RowKit
theorem own_keepF {w w' : World} {base : Nat} {e : TypeId} {size : Nat} {v : Value} {n : Nat} {xs : List Value} (h : w.ownsRow base e size v n xs) (hb : Below w.heap.size w w') : w'.ownsRow base e size v n xs := by
  refine ⟨h.1, ?_⟩
  rcases h.2 with h' | ⟨g, cap, cur, hv, hbg, hg, rest⟩
  · exact .inl h'
  · exact .inr ⟨g, cap, cur, hv, hbg, (hb.block g (Array.getElem?_eq_some_iff.1 hg).1).trans hg, rest⟩
end Go.Proofs.YtkmhmehofipehaaGreatDoor
/- A block put behind the others. -/
namespace Go.Proofs.YtkmhmehofipehaaGreatDoor
set_option linter.unusedVariables false
open Go.RowKit
/-- rows of unlike cells do not share a block -/
theorem own_apart {w : World} {base base' size size' n n' : Nat} {e e' : TypeId} {v v' : Value} {xs xs' : List Value} (h : w.ownsRow base e size v n xs) (h' : w.ownsRow base' e' size' v' n' xs') (hne : e ≠ e') (k : Nat) (hk : v.ownBlock = some k) : v'.ownBlock ≠ some k := by
  rcases h.2 with ⟨rfl, _⟩ | ⟨g, cap, cur, rfl, hb, hg, _⟩
  · simp [Value.ownBlock] at hk
  · simp [Value.ownBlock] at hk
    subst hk
    exact own_other h' hg (Ne.symm hne)
end Go.Proofs.YtkmhmehofipehaaGreatDoor
/- A taker whose bytes lie below a block: what is made above it does not touch them. -/
namespace Go.Proofs.YtkmhmehofipehaaGreatDoor
set_option linter.unusedVariables false
open Go.RowKit
def TkB (w : World) (g : Nat) (err : Int) (p : Nat) (l : List UInt8) (B : Nat) : Prop :=
  ∃ (A : Option Addr) (c : Nat), w.heap[g]? = some (.cells #[.int .i64 err, .slice A l.length c, .int .i64 (p : Int)] 142 (0, 0)) ∧ SeesB w A l ∧ l.length ≤ c ∧ c ≤ maxLen ∧ p ≤ l.length ∧ ∀ a, A = some a → a.block ≠ g ∧ a.block < B
theorem TkB.tk {w : World} {g : Nat} {err : Int} {p : Nat} {l : List UInt8} {B : Nat} (h : TkB w g err p l B) : Tk w g err p l := by
  obtain ⟨A, c, hg, hs, h1, h2, h3, h4⟩ := h
  exact ⟨A, c, hg, hs, h1, h2, h3, fun a ha => (h4 a ha).1⟩
theorem Tk.tkB {w : World} {g : Nat} {err : Int} {p : Nat} {l : List UInt8} (h : Tk w g err p l) (hl : 0 < l.length) : TkB w g err p l w.heap.size := by
  obtain ⟨A, c, hg, hs, h1, h2, h3, h4⟩ := h
  refine ⟨A, c, hg, hs, h1, h2, h3, fun a ha => ⟨h4 a ha, ?_⟩⟩
  obtain ⟨a', ha', hc⟩ := hs.at hl
  rw [ha] at ha'
  injection ha' with ha'
  subst ha'
  have := block_lt_of_cell hc
  rwa [addr_block] at this
theorem TkB.setErr {w : World} {g : Nat} {err : Int} {p : Nat} {l : List UInt8} {B : Nat} (h : TkB w g err p l B) (e : Int) : TkB (w.setCell ⟨g, 0, none⟩ (.int .i64 e)) g e p l B ∧ But (Only g) w (w.setCell ⟨g, 0, none⟩ (.int .i64 e)) := by
  obtain ⟨A, c, hg, hs, h1, h2, h3, h4⟩ := h
  have hb : But (Only g) w (w.setCell ⟨g, 0, none⟩ (.int .i64 e)) := ⟨rfl, rfl, rfl, by simp [World.setCell], fun b _ hb => heap_setCell_other w _ b _ (fun h => hb h)⟩
  exact ⟨⟨A, c, heap_setCell_same w g 0 _ _ _ hg, Sees.but hs hb (fun a ha h => (h4 a ha).1 h), h1, h2, h3, h4⟩, hb⟩
theorem TkB.setAt {w : World} {g : Nat} {err : Int} {p : Nat} {l : List UInt8} {B : Nat} (h : TkB w g err p l B) (q : Nat) (hq : q ≤ l.length) : TkB (w.setCell ⟨g, 2, none⟩ (.int .i64 (q : Int))) g err q l B ∧ But (Only g) w (w.setCell ⟨g, 2, none⟩ (.int .i64 (q : Int))) := by
  obtain ⟨A, c, hg, hs, h1, h2, h3, h4⟩ := h
  have hb : But (Only g) w (w.setCell ⟨g, 2, none⟩ (.int .i64 (q : Int))) := ⟨rfl, rfl, rfl, by simp [World.setCell], fun b _ hb => heap_setCell_other w _ b _ (fun h => hb h)⟩
  exact ⟨⟨A, c, heap_setCell_same w g 2 _ _ _ hg, Sees.but hs hb (fun a ha h => (h4 a ha).1 h), h1, h2, hq, h4⟩, hb⟩
theorem TkB.below {w w' : World} {g : Nat} {err : Int} {p : Nat} {l : List UInt8} {B : Nat} (h : TkB w g err p l B) (hb : Below w.heap.size w w') : TkB w' g err p l B := by
  obtain ⟨A, c, hg, hs, h1, h2, h3, h4⟩ := h
  exact ⟨A, c, (hb.block g (Array.getElem?_eq_some_iff.1 hg).1).trans hg, hs.below hb, h1, h2, h3, h4⟩
/-- what is made above the block leaves the taker -/
theorem TkB.far {w w' : World} {g : Nat} {err : Int} {p : Nat} {l : List UInt8} {B : Nat} (h : TkB w g err p l B) (hg : g < B) (hb : Below B w w') : TkB w' g err p l B := by
  obtain ⟨A, c, hr, hs, h1, h2, h3, h4⟩ := h
  refine ⟨A, c, (hb.block g hg).trans hr, ?_, h1, h2, h3, h4⟩
  intro i v hv
  obtain ⟨a, ha, hc⟩ := hs i v hv
  exact ⟨a, ha, (World.cell?_of_block (w := w) (hb.block _ (by rw [addr_block]; exact (h4 a ha).2))).trans hc⟩
/-- a store into another block, whose cells are no bytes -/
theorem TkB.setTyped {w : World} {g q : Nat} {err : Int} {p : Nat} {l : List UInt8} {B : Nat} {cs : Array Value} {t : TypeId} {fr : Nat × Nat} (h : TkB w g err p l B) (hne : g ≠ q) (hq : w.heap[q]? = some (.cells cs t fr)) (hcs : ∀ (j : Nat) (z : Int), cs[j]? ≠ some (.int .u8 z)) (j : Nat) (v : Value) : TkB (w.setCell ⟨q, j, none⟩ v) g err p l B := by
  obtain ⟨A, c, hr, hs, h1, h2, h3, h4⟩ := h
  refine ⟨A, c, (heap_setCell_other w ⟨q, j, none⟩ g v hne).trans hr, ?_, h1, h2, h3, h4⟩
  intro i u hu
  obtain ⟨a, ha, hc⟩ := hs i u hu
  refine ⟨a, ha, (World.cell?_of_block (w := w) (heap_setCell_other w ⟨q, j, none⟩ _ v ?_)).trans hc⟩
  rw [addr_block]
  intro hb
  have hb' : a.block = q := hb
  have hcc := hc
  unfold World.cell? at hcc
  rw [addr_block, hb', hq] at hcc
  have hcc2 : cs[(a.add i).off]? = some u := by
    dsimp only at hcc
    split at hcc
    · cases hcc
    · exact hcc
  rw [List.getElem?_map] at hu
  cases h5 : l[i]? with
  | none => rw [h5] at hu; cases hu
  | some b =>
    rw [h5] at hu
    injection hu with hu
    exact hcs _ _ (hcc2.trans (by rw [← hu]; rfl))
def NextPostB (w : World) (g : Nat) (l : List UInt8) (B : Nat) (r : (Int × Nat) × List UInt8) (e : Ending) (w' : World) : Prop :=
  ∃ (A : Option Addr) (c : Nat), e = .returned (.slice A r.2.length c) ∧ SeesB w' A r.2 ∧ r.2.length ≤ c ∧ c ≤ maxLen ∧ TkB w' g r.1.1 r.1.2 l B ∧ But (Only g) w w'
set_option maxHeartbeats 1000000 in
theorem tnextB_any (g : Nat) (p n : Nat) (l : List UInt8) (w : World) (B : Nat) (h : TkB w g 0 p l B) (hlen : l.length ≤ 140737488355328) (hn : n ≤ 9223372036854775807) :
    Calls Tryz.prog 84 #[.pointer (some ⟨g, 0, none⟩), .int .i64 (n : Int)] w (NextPostB w g l B (tnext p l n)) := by
  obtain ⟨A, c, hc0, hc1, hc2, hs, h1, h2, h3, hf⟩ := h.tk.cells
  have hf0 := hf 0
  have hf2 := hf 2
  by_cases hlt : l.length - p < n
  · rw [tnext, if_pos hlt]
    have d1 : decide ((l.length : Int) - p < n) = true := by simp; omega
    go_enter Tryz.func84, Tryz.ntmps84
    go_wp2_with fail
    go_quiet (fail)
    go_wp2_with fail
    have hdr : Below w.heap.size w (w.drewN nq) := ⟨rfl, rfl, rfl, Nat.le_refl _, fun _ _ => rfl⟩
    refine (fail_ok g 10 (w.drewN nq) hc0 hf0).mono ?_
    rintro e w' ⟨rfl, rfl⟩
    go_wp2_with fail
    have hT := (h.below hdr).setErr 10
    go_ret
    exact ⟨none, 0, rfl, Sees.nil _ _, Nat.le_refl _, by unfold maxLen; omega, hT.1, (But.of_below (R := Only g) hdr).trans hT.2 (fun n h => .inl h)⟩
  · rw [tnext, if_neg hlt]
    have d1 : decide ((n : Int) > (l.length : Int) - p) = false := by simp; omega
    have hw2 : wrap64 ((p : Int) + n) = ((p + n : Nat) : Int) := by unfold wrap64; unfold maxLen at h2; omega
    go_enter Tryz.func84, Tryz.ntmps84
    go_wp2_with fail
    go_quiet (fail)
    go_wp2_with fail
    have hdr : Below w.heap.size w (w.drewN nq) := ⟨rfl, rfl, rfl, Nat.le_refl _, fun _ _ => rfl⟩
    have hT := (h.below hdr).setAt (p + n) (by omega)
    rw [show ((p + n : Nat) : Int) = (p : Int) + n by omega] at hT
    generalize (w.drewN nq).setCell ⟨g, 2, none⟩ (.int .i64 ((p : Int) + n)) = w1 at *
    obtain ⟨hT1, hT2⟩ := hT
    clear hc0 hc1 hc2 hs hf hf0 hf2
    obtain ⟨A, c, hc0, hc1, hc2, hs, h1, h2, h3, hf⟩ := hT1.tk.cells
    rw [show ((p + n : Nat) : Int) = (p : Int) + n by omega] at hc2
    have b0 : 0 ≤ (p : Int) := by omega
    have b1 : (p : Int) ≤ p + n := by omega
    have b2 : (p : Int) + n ≤ c := by omega
    go_quiet (fail)
    go_wp2_with fail
    · have hl2 : (l.drop p).take n = [] := by rw [List.drop_eq_nil_of_le (by omega), List.take_nil]
      have hn0 : n = 0 := by omega
      have hd1 : Below w1.heap.size w1 (w1.drewN nq) := ⟨rfl, rfl, rfl, Nat.le_refl _, fun _ _ => rfl⟩
      rw [hl2]
      refine bodyPost_ret (results_tmp rfl _ _ _) rfl ?_
      refine ⟨A, 0, ?_, Sees.nil _ _, Nat.le_refl _, by unfold maxLen; omega, hT1.below hd1, ((But.of_below (R := Only g) hdr).trans hT2 (fun n h => .inl h)).trans (But.of_below (R := fun _ => False) hd1) (fun n h => h.elim)⟩
      subst hn0; rfl
    · have hlen2 : ((l.drop p).take n).length = n := by simp; omega
      have hd1 : Below w1.heap.size w1 (w1.drewN nq) := ⟨rfl, rfl, rfl, Nat.le_refl _, fun _ _ => rfl⟩
      have hf : NextPostB w g l B ((0, p + n), (l.drop p).take n) (.returned (.slice (A.map (·.add p)) n (c - p))) (w1.drewN nq) :=
        ⟨_, _, by rw [hlen2], SeesB.cutTo (SeesB.below hs hd1) p n, by rw [hlen2]; omega, by omega, hT1.below hd1, ((But.of_below (R := Only g) hdr).trans hT2 (fun n h => .inl h)).trans (But.of_below (R := fun _ => False) hd1) (fun n h => h.elim)⟩
      go_ret
      exact hf
def UPostB (w : World) (g : Nat) (l : List UInt8) (B : Nat) (r : (Int × Nat) × List UInt8) (e : Ending) (w' : World) : Prop :=
  e = .returned (.int .u64 (valLE r.2 : Nat)) ∧ TkB w' g r.1.1 r.1.2 l B ∧ But (Only g) w w'
set_option maxHeartbeats 1000000 in
theorem takerUB_any (g : Nat) (err : Int) (p : Nat) (n : Int) (l : List UInt8) (w : World) (B : Nat) (h : TkB w g err p l B) (hlen : l.length ≤ 140737488355328) :
    Calls Tryz.prog 55 #[.pointer (some ⟨g, 0, none⟩), .int .i64 n] w (UPostB w g l B (takeU (err, p) l n)) := by
  obtain ⟨A, c, hc0, hc1, hc2, hs, h1, h2, h3, hf⟩ := h.tk.cells
  have hf0 := hf 0
  by_cases h0 : err = 0
  · subst h0
    by_cases hn : n < 1 ∨ 8 < n
    · rw [takeU, if_neg (by simp), if_pos hn]
      have hT := h.setErr 1
      go_enter Tryz.func55, Tryz.ntmps55
      go_wp2_with fail
      refine (tready_is g 0 true _ hc0 rfl).mono ?_
      rintro e w' ⟨rfl, rfl⟩
      go_wp2_with fail
      refine (may_no g n _ hc0 hf0 hn).mono ?_
      rintro e w' ⟨rfl, rfl⟩
      go_wp2_with fail
      go_ret
      exact ⟨rfl, hT.1, hT.2⟩
    · rw [takeU, if_neg (by simp), if_neg hn]
      obtain ⟨N, rfl⟩ := Int.eq_ofNat_of_zero_le (show 0 ≤ n by omega)
      have hN : 1 ≤ N ∧ N ≤ 8 := by omega
      rw [show ((N : Int)).toNat = N from rfl]
      have hr8 : (tnext p l N).2.length ≤ 8 := by
        unfold tnext; split
        · simp
        · simp; omega
      have hnx := tnextB_any g p N l w B h hlen (by omega)
      generalize tnext p l N = r at hr8 hnx
      go_enter Tryz.func55, Tryz.ntmps55
      go_wp2_with fail
      refine (tready_is g 0 true _ hc0 rfl).mono ?_
      rintro e w' ⟨rfl, rfl⟩
      go_wp2_with fail
      refine (may_yes g (N : Int) _ hc0 (by omega)).mono ?_
      rintro e w' ⟨rfl, rfl⟩
      go_wp2_with fail
      refine hnx.mono ?_
      rintro e w1 ⟨A1, c1, rfl, hs1, hc1', hc2', hT, hB⟩
      obtain ⟨m, hm⟩ : ∃ m, m = r.2.length := ⟨_, rfl⟩
      rw [← hm]
      go_wp2_with fail
      go_loop [5, 6, 7, 23] (fun v x y i => ∃ k : Nat, k ≤ r.2.length ∧ i = .int .i64 k ∧ v = .int .u64 (valLE (r.2.take k) : Nat)) (fun _ _ _ i => r.2.length - (intOf i).toNat)
      case atStart => exact ⟨0, by omega, rfl, rfl⟩
      case round =>
        obtain ⟨k, hk, rfl, rfl⟩ := hrel
        by_cases hlt : k < r.2.length
        · have hd : decide ((k : Int) < m) = true := by simp; omega
          obtain ⟨a, rfl, hc⟩ := hs1.at hlt
          have hbl := byte_lt r.2[k]
          go_wp2_with fail
          exact ⟨⟨k + 1, hlt, by go_num, by rw [or_add _ _ k (by omega) (by have := valLE_lt (r.2.take k); rwa [List.length_take, Nat.min_eq_left hk] at this), List.take_succ_eq_append_getElem hlt, valLE_snoc, List.length_take, Nat.min_eq_left hk]⟩, by simp [intOf]; omega⟩
        · obtain rfl : k = m := by omega
          have hd : decide ((k : Int) < k) = false := by simp
          have hfull : r.2.take k = r.2 := by rw [hm]; exact List.take_length
          rw [hfull]
          go_wp2_with fail
          go_ret
          exact ⟨rfl, hT, hB⟩
  · have d0 : (err == 0) = false := by simpa using h0
    rw [takeU, if_pos h0]
    go_enter Tryz.func55, Tryz.ntmps55
    go_wp2_with fail
    refine (tready_is g err false _ hc0 d0).mono ?_
    rintro e w' ⟨rfl, rfl⟩
    go_wp2_with fail
    go_ret
    exact ⟨rfl, h, But.refl _ _⟩
end Go.Proofs.YtkmhmehofipehaaGreatDoor
/- A taker's text beside a row that grows. -/
namespace Go.Proofs.YtkmhmehofipehaaGreatDoor
set_option linter.unusedVariables false
open Go.RowKit
theorem takeU_good {s : Int × Nat} {l : List UInt8} {n : Int} (h : (takeU s l n).1.1 = 0) : s.1 = 0 ∧ 1 ≤ n ∧ n ≤ 8 ∧ takeU s l n = ((0, s.2 + n.toNat), (l.drop s.2).take n.toNat) ∧ n.toNat ≤ l.length - s.2 := by
  unfold takeU at h ⊢
  by_cases h0 : s.1 ≠ 0
  · rw [if_pos h0] at h; exact absurd h h0
  · rw [if_neg h0] at h ⊢
    by_cases hn : n < 1 ∨ 8 < n
    · rw [if_pos hn] at h; simp at h
    · rw [if_neg hn] at h ⊢
      unfold tnext at h ⊢
      by_cases hl : l.length - s.2 < n.toNat
      · rw [if_pos hl] at h; simp at h
      · rw [if_neg hl]
        exact ⟨by omega, by omega, by omega, rfl, by omega⟩
/-- what a taker gives of a text behind a field of n bytes -/
def textR (s : Int × Nat) (l : List UInt8) (n : Int) : (Int × Nat) × List UInt8 :=
  if s.1 ≠ 0 then (s, []) else if (takeU s l n).1.1 ≠ 0 then (((takeU s l n).1.1, s.2), [])
  else if l.length - (takeU s l n).1.2 < valLE (takeU s l n).2 then ((10, s.2), []) else ((0, (takeU s l n).1.2 + valLE (takeU s l n).2), (l.drop (takeU s l n).1.2).take (valLE (takeU s l n).2))
def TextPostRB (w : World) (g : Nat) (l : List UInt8) (B : Nat) (r : (Int × Nat) × List UInt8) (e : Ending) (w' : World) : Prop :=
  e = .returned (.string ⟨r.2.toArray⟩) ∧ TkB w' g r.1.1 r.1.2 l B ∧ But (Only g) w w'
theorem takeU_bad {s : Int × Nat} {l : List UInt8} {n : Int} (h : (takeU s l n).1.1 ≠ 0) : takeU s l n = (((takeU s l n).1.1, s.2), []) := by
  unfold takeU at h ⊢
  by_cases h0 : s.1 ≠ 0
  · rw [if_pos h0]
  · rw [if_neg h0] at h ⊢
    by_cases hn : n < 1 ∨ 8 < n
    · rw [if_pos hn]
    · rw [if_neg hn] at h ⊢
      unfold tnext at h ⊢
      by_cases hl : l.length - s.2 < n.toNat
      · rw [if_pos hl]
      · rw [if_neg hl] at h; simp at h
theorem takeU_len (s : Int × Nat) (l : List UInt8) (n : Int) : (takeU s l n).2.length ≤ 8 := by
  unfold takeU
  split
  · simp
  · split
    · simp
    · unfold tnext
      split
      · simp
      · simp; omega
set_option maxHeartbeats 4000000 in
theorem ttextB_any (g : Nat) (err : Int) (p : Nat) (n : Int) (l : List UInt8) (w : World) (B : Nat) (h : TkB w g err p l B) (hlen : l.length ≤ 140737488355328) :
    Calls Tryz.prog 59 #[.pointer (some ⟨g, 0, none⟩), .int .i64 n] w (TextPostRB w g l B (textR (err, p) l n)) := by
  obtain ⟨A, c, hc0, hc1, hc2, _, _, _, _, hf⟩ := h.tk.cells
  by_cases he : err = 0
  case neg =>
    have d0 : (err == 0) = false := by simpa using he
    rw [textR, if_pos he]
    go_enter Tryz.func59, Tryz.ntmps59
    go_wp2_with fail
    refine (tready_is g err false _ hc0 d0).mono ?_
    rintro e w' ⟨rfl, rfl⟩
    go_wp2_with fail
    go_ret
    exact ⟨rfl, h, But.refl _ _⟩
  subst he
  have hU := takerUB_any g 0 p n l w B h hlen
  by_cases hu : (takeU (0, p) l n).1.1 ≠ 0
  · have hub := takeU_bad hu
    rw [textR, if_neg (by simp), if_pos hu]
    obtain ⟨E, hE⟩ : ∃ E, E = (takeU (0, p) l n).1.1 := ⟨_, rfl⟩
    rw [← hE] at hub hu ⊢
    rw [hub] at hU
    unfold UPostB at hU
    have HU := hid hU
    have dE : (E == 0) = false := by simpa using hu
    clear hU hub hE hu
    go_enter Tryz.func59, Tryz.ntmps59
    go_wp2_with fail
    refine (tready_is g 0 true _ hc0 rfl).mono ?_
    rintro e w' ⟨rfl, rfl⟩
    go_wp2_with fail
    refine HU.out.mono ?_
    rintro e w1 ⟨rfl, hT, hB⟩
    clear hc0 hc1 hc2 hf
    obtain ⟨A1, c1, hc0, hc1, hc2, _, _, _, _, hf⟩ := hT.tk.cells
    have hf2 := hf 2
    go_wp2_with fail
    go_quiet ((go_at_call 83; refine Calls.quiet_of_same (same (tready_is g E false _ ?_ dE)); exact hc0))
    have hdr : Below w1.heap.size w1 (w1.drewN nq) := ⟨rfl, rfl, rfl, Nat.le_refl _, fun _ _ => rfl⟩
    have hTd := (hT.below hdr).setAt p (by obtain ⟨_, _, _, _, _, _, h3, _⟩ := h.tk; exact h3)
    have hcd : (w1.drewN nq).cell? ⟨g, 0, none⟩ = some (.int .i64 E) := hc0
    have hcd2 : (w1.drewN nq).cell? ⟨g, 2, none⟩ = some (.int .i64 (p : Int)) := hc2
    have hfd2 : (w1.drewN nq).frozen? ⟨g, 2, none⟩ = false := hf2
    have hBB : But (Only g) w (w1.drewN nq) := hB.trans (But.of_below (R := fun _ => False) hdr) (fun n h => h.elim)
    clear hc0 hc1 hc2 hf hf2 hT hB hdr
    generalize w1.drewN nq = w2 at *
    go_wp2_with fail
    refine (tready_is g E false _ hcd dE).mono ?_
    rintro e w' ⟨rfl, rfl⟩
    go_wp2_with fail
    go_ret
    exact ⟨rfl, hTd.1, hBB.trans hTd.2 (fun n h => .inl h)⟩
  obtain ⟨_, hn1, hn8, hr, hle⟩ := takeU_good (s := (0, p)) (l := l) (n := n) (by omega)
  obtain ⟨N, rfl⟩ := Int.eq_ofNat_of_zero_le (show 0 ≤ n by omega)
  rw [textR, if_neg (by simp), if_neg hu]
  rw [show ((N : Int)).toNat = N from rfl] at hr hle
  rw [hr] at hU ⊢
  clear hu hr
  have hpN : p + N ≤ l.length := by
    obtain ⟨_, _, _, _, _, _, h3, _⟩ := h.tk
    simp only at hle
    omega
  have hv8 : valLE ((l.drop p).take N) < 18446744073709551616 := by
    have := valLE_lt ((l.drop p).take N)
    have h8 : ((l.drop p).take N).length ≤ 8 := by rw [List.length_take]; omega
    have := Nat.pow_le_pow_right (show 0 < 256 by omega) h8
    omega
  unfold UPostB at hU
  simp only at hU hle ⊢
  obtain ⟨V, hV⟩ : ∃ V, V = valLE ((l.drop p).take N) := ⟨_, rfl⟩
  rw [← hV] at hU hv8 ⊢
  have HU := hid hU
  have HLE := hid hle
  clear hU hV hle
  by_cases hlt : l.length - (p + N) < V
  · rw [if_pos hlt]
    have hd : decide (((l.length : Int) - ((p + N : Nat) : Int)) < (V : Int)) = true := by simp; omega
    have hd2 : decide (((l.length : Int) - ((p : Int) + (N : Int))) < (V : Int)) = true := by simp; omega
    have hg1 : 0 ≤ (l.length : Int) - ((p : Int) + (N : Int)) := by omega
    clear hlt
    go_enter Tryz.func59, Tryz.ntmps59
    go_wp2_with fail
    refine (tready_is g 0 true _ hc0 rfl).mono ?_
    rintro e w' ⟨rfl, rfl⟩
    go_wp2_with fail
    refine HU.out.mono ?_
    rintro e w1 ⟨rfl, hT, hB⟩
    clear hc0 hc1 hc2 hf
    obtain ⟨A1, c1, hc0, hc1, hc2, _, _, _, _, hf⟩ := hT.tk.cells
    have hf0 := hf 0
    go_wp2_with fail
    go_quiet ((go_at_call 83; refine Calls.quiet_of_same (same (tready_is g 0 true _ ?_ rfl)); exact hc0))
    have hdr : Below w1.heap.size w1 (w1.drewN nq) := ⟨rfl, rfl, rfl, Nat.le_refl _, fun _ _ => rfl⟩
    have hTd := (hT.below hdr).setErr 10
    have hTe := hTd.1.setAt p (by omega)
    have hcd : (w1.drewN nq).cell? ⟨g, 0, none⟩ = some (.int .i64 0) := hc0
    have hfd : (w1.drewN nq).frozen? ⟨g, 0, none⟩ = false := hf0
    have hBB : But (Only g) w (w1.drewN nq) := hB.trans (But.of_below (R := fun _ => False) hdr) (fun n h => h.elim)
    obtain ⟨A2, c2, k0, k1, k2, _, _, _, _, kf⟩ := hTd.1.tk.cells
    have kf2 := kf 2
    clear hc0 hc1 hc2 hf hf0 hT hB hdr
    generalize w1.drewN nq = w2 at *
    go_wp2_with fail
    refine (fail_ok g 10 w2 hcd hfd).mono ?_
    rintro e w' ⟨rfl, rfl⟩
    go_wp2_with fail
    refine (tready_is g 10 false _ k0 rfl).mono ?_
    rintro e w' ⟨rfl, rfl⟩
    go_wp2_with fail
    go_ret
    exact ⟨rfl, hTe.1, (hBB.trans hTd.2 (fun n h => .inl h)).trans hTe.2 (fun n h => .inl h)⟩
  · rw [if_neg hlt]
    have hd : decide (((l.length : Int) - ((p + N : Nat) : Int)) < (V : Int)) = false := by simp; omega
    have hd2 : decide (((l.length : Int) - ((p : Int) + (N : Int))) < (V : Int)) = false := by simp; omega
    have hg1 : 0 ≤ (l.length : Int) - ((p : Int) + (N : Int)) := by omega
    have hVl : V ≤ l.length := by omega
    have HTN := hid (show tnext (p + N) l V = ((0, p + N + V), (l.drop (p + N)).take V) by unfold tnext; rw [if_neg hlt])
    generalize (l.drop (p + N)).take V = s at *
    clear hlt
    go_enter Tryz.func59, Tryz.ntmps59
    go_wp2_with fail
    refine (tready_is g 0 true _ hc0 rfl).mono ?_
    rintro e w' ⟨rfl, rfl⟩
    go_wp2_with fail
    refine HU.out.mono ?_
    rintro e w1 ⟨rfl, hT, hB⟩
    clear hc0 hc1 hc2 hf
    obtain ⟨A1, c1, hc0, hc1, hc2, _, _, _, _, hf⟩ := hT.tk.cells
    go_wp2_with fail
    go_quiet ((go_at_call 83; refine Calls.quiet_of_same (same (tready_is g 0 true _ ?_ rfl)); exact hc0))
    have hdr : Below w1.heap.size w1 (w1.drewN nq) := ⟨rfl, rfl, rfl, Nat.le_refl _, fun _ _ => rfl⟩
    have hTd := hT.below hdr
    have HN2 := hid (tnextB_any g (p + N) V l (w1.drewN nq) B hTd hlen (by omega))
    rw [HTN.out] at HN2
    have hcd : (w1.drewN nq).cell? ⟨g, 0, none⟩ = some (.int .i64 0) := hc0
    have hBB : But (Only g) w (w1.drewN nq) := hB.trans (But.of_below (R := fun _ => False) hdr) (fun n h => h.elim)
    clear hc0 hc1 hc2 hf hT hB hdr hTd
    generalize w1.drewN nq = w2 at *
    go_wp2_with fail
    refine (tready_is g 0 true _ hcd rfl).mono ?_
    rintro e w' ⟨rfl, rfl⟩
    go_wp2_with fail
    refine HN2.out.mono ?_
    rintro e w3 ⟨A3, c3, rfl, hs3, h31, h32, hT3, hB3⟩
    have hcv := conv_bs A3 c3 _ w3 hs3
    have hfin : TextPostRB w g l B ((0, p + N + V), s) (.returned (.string ⟨s.toArray⟩)) w3 := ⟨rfl, hT3, hBB.trans hB3 (fun n h => .inl h)⟩
    go_wp2_with fail
    go_ret
    exact hfin
end Go.Proofs.YtkmhmehofipehaaGreatDoor
