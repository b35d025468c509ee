/- A tail as bytes. -/
import Derived.Test.YtkmhmehofipehaaDoorFileBuildsM25
import Derived.Test.YtkmhmehofipehaaDoorFileBuildsM23
import Derived.Test.YtkmhmehofipehaaDoorFileBuildsM8
import Derived.Lib.SmallJoins
import Derived.Test.YtkmhmehofipehaaDoorFileBuildsM11
import Derived.Test.YtkmhmehofipehaaDoorFileBuildsM16
namespace Go.Proofs.YtkmhmehofipehaaDoor
set_option linter.unusedVariables false
open Go.RowKit
def placesB (l : List Int) : List UInt8 := l.flatMap fun p => bytesLE p.toNat 5
def threeB (count sum n : Nat) (i : Nat) : List UInt8 := [69, 78] ++ (([count, sum, n] : List Nat).take i).flatMap fun x => bytesLE x 4
def tailHead (count sum : Nat) (l : List Int) : List UInt8 := threeB count sum l.length 3 ++ placesB l
theorem placesB_step (l : List Int) (k : Nat) (h : k < l.length) : placesB (l.take (k + 1)) = placesB (l.take k) ++ bytesLE l[k].toNat 5 := by
  unfold placesB; rw [List.take_succ_eq_append_getElem h, List.flatMap_append]; simp
theorem placesB_len (l : List Int) : (placesB l).length = 5 * l.length := by
  induction l with
  | nil => rfl
  | cons x l ih => rw [show placesB (x :: l) = bytesLE x.toNat 5 ++ placesB l from rfl, List.length_append, ih, bytesLE_length, List.length_cons]; omega
theorem threeB_len (count sum n : Nat) : (threeB count sum n 3).length = 14 := by simp [threeB, bytesLE_length]
theorem tailHead_len (count sum : Nat) (l : List Int) : (tailHead count sum l).length = 14 + 5 * l.length := by unfold tailHead; rw [List.length_append, threeB_len, placesB_len]
theorem rises_mem (en : Int) : ∀ (l : List Int) (last : Int), -1 ≤ last → risesB last en l = true → ∀ x ∈ l, 0 ≤ x ∧ x < en
  | [], _, _, _, x, hx => by simp at hx
  | y :: l, last, h0, h, x, hx => by
    unfold risesB fallB at h
    simp only [Bool.and_eq_true, Bool.not_eq_true', Bool.or_eq_false_iff, decide_eq_false_iff_not] at h
    rcases List.mem_cons.1 hx with rfl | hx
    · omega
    · exact rises_mem en l y (by omega) h.2 x hx
theorem right_range {count : Int} {l : List Int} (h : rightB count l = true) : 0 ≤ count ∧ count ≤ 4294967295 ∧ l.length ≤ 16777216 ∧ ∀ (i : Nat) (h : i < l.length), 0 ≤ l[i] ∧ l[i] < 1099511627776 := by
  unfold rightB at h
  simp only [Bool.and_eq_true, decide_eq_true_eq] at h
  exact ⟨h.1, h.2.1, h.2.2.1, fun i hi => rises_mem _ l (-1) (by omega) h.2.2.2 _ (List.getElem_mem hi)⟩
set_option maxHeartbeats 1000000 in
theorem tput_nil (count sum : Int) (A : Option Addr) (n c : Nat) (w : World) :
    Calls Tryd.prog 20 #[.pointer none, .agg #[.int .i64 count, .int .u32 sum, .slice A n c]] w fun e w' => e = .returned (.tuple #[.slice none 0 0, .int .i64 2]) ∧ Below w.heap.size w w' := by
  have hb : Below w.heap.size w (w.alloc (.cells #[.int .i64 count, .int .u32 sum, .slice A n c] 43)) := (Below.refl _ w).alloc (Nat.le_refl _) _
  go_enter Tryd.func20, Tryd.ntmps20
  go_wp2_with fail
  go_ret2
  exact ⟨rfl, hb⟩
set_option maxHeartbeats 1000000 in
theorem tput_bad (g : Nat) (count sum : Int) (A : Option Addr) (c : Nat) (l : List Int) (w : World) (hl : SeesI w A l) (hlen : l.length ≤ 9223372036854775807) (hr : rightB count l = false) :
    Calls Tryd.prog 20 #[.pointer (some ⟨g, 0, none⟩), .agg #[.int .i64 count, .int .u32 sum, .slice A l.length c]] w fun e w' => e = .returned (.tuple #[.slice none 0 0, .int .i64 60]) ∧ Below w.heap.size w w' := by
  have hb : Below w.heap.size w (w.alloc (.cells #[.int .i64 count, .int .u32 sum, .slice A l.length c] 43)) := (Below.refl _ w).alloc (Nat.le_refl _) _
  go_enter Tryd.func20, Tryd.ntmps20
  go_wp2_with fail
  refine (right_is count sum A c l _ (hl.below hb) hlen false hr).mono ?_
  rintro e w1 ⟨rfl, hb1⟩
  go_wp2_with fail
  go_ret2
  exact ⟨rfl, hb.trans (hb1.mono hb.size)⟩
set_option maxHeartbeats 4000000 in
theorem tput_ok (g : Nat) (count sum : Nat) (A : Option Addr) (c : Nat) (l : List Int) (w : World) (ht : Tab w g) (hl : SeesI w A l) (hlen : l.length ≤ 16777216) (hr : rightB count l = true) (hc : count < 4294967296) (hs : sum < 4294967296) (hpl : ∀ (i : Nat) (h : i < l.length), 0 ≤ l[i] ∧ l[i] < 1099511627776) :
    Calls Tryd.prog 20 #[.pointer (some ⟨g, 0, none⟩), .agg #[.int .i64 (count : Int), .int .u32 (sum : Int), .slice A l.length c]] w (PutPost w (sealed (tailHead count sum l))) := by
  have hb : Below w.heap.size w (w.alloc (.cells #[.int .i64 (count : Int), .int .u32 (sum : Int), .slice A l.length c] 43)) := (Below.refl _ w).alloc (Nat.le_refl _) _
  have hrow := heap_alloc_new w (.cells #[.int .i64 (count : Int), .int .u32 (sum : Int), .slice A l.length c] 43)
  have hsz0 : (w.alloc (.cells #[.int .i64 (count : Int), .int .u32 (sum : Int), .slice A l.length c] 43)).heap.size = w.heap.size + 1 := by simp
  have htg := ht.lt
  go_enter Tryd.func20, Tryd.ntmps20
  go_wp2_with fail
  generalize w.alloc (.cells #[.int .i64 (count : Int), .int .u32 (sum : Int), .slice A l.length c] 43) = w0 at *
  have hlt0 : w.heap.size < w0.heap.size := by omega
  refine (right_is count sum A c l w0 (hl.below hb) (by omega) true hr).mono ?_
  rintro e w1 ⟨rfl, hb1⟩
  have hrow1 := (hb1.block w.heap.size hlt0).trans hrow
  have hlt1 : w.heap.size < w1.heap.size := Nat.lt_of_lt_of_le hlt0 hb1.size
  have hbw1 := hb.trans (hb1.mono hb.size)
  clear hb hb1 hrow hr hsz0
  have hm := mk_new w1
  have hb2 : Below w1.heap.size w1 (w1.alloc (.cells #[.int .i64 0, .slice none 0 0] 106)) := (Below.refl _ w1).alloc (Nat.le_refl _) _
  have hrow2 := (hb2.block w.heap.size hlt1).trans hrow1
  have hlt2 : w.heap.size < (w1.alloc (.cells #[.int .i64 0, .slice none 0 0] 106)).heap.size := Nat.lt_of_lt_of_le hlt1 hb2.size
  have hbw2 := hbw1.trans (hb2.mono hbw1.size)
  have hsz2 : (w1.alloc (.cells #[.int .i64 0, .slice none 0 0] 106)).heap.size = w1.heap.size + 1 := by simp
  go_wp2_with fail
  generalize w1.alloc (.cells #[.int .i64 0, .slice none 0 0] 106) = w2 at *
  have hb3 : Below w2.heap.size w2 (w2.alloc (.cells #[.int .u8 69, .int .u8 78] 5)) := (Below.refl _ w2).alloc (Nat.le_refl _) _
  have hs3 : SeesB (w2.alloc (.cells #[.int .u8 69, .int .u8 78] 5)) (some ⟨w1.heap.size + 1, 0, none⟩) [69, 78] := by
    rw [← hsz2]
    exact Sees.of_block (heap_alloc_new w2 _) rfl
  have hm3 := hm.below hb3
  have hrow3 := (hb3.block w.heap.size hlt2).trans hrow2
  have hlt3 := Nat.lt_of_lt_of_le hlt2 hb3.size
  have hbw3 := hbw2.trans (hb3.mono hbw2.size)
  clear hm hrow2 hrow1 hb2 hb3 hbw2
  generalize w2.alloc (.cells #[.int .u8 69, .int .u8 78] 5) = w3 at *
  refine (raw_any w1.heap.size _ 0 [] _ 2 [69, 78] w3 hm3 hs3 (by decide)).mono ?_
  rintro e w4 ⟨rfl, R4, hm4, hB4, hR4⟩
  rw [show putRaw (0, []) [69, 78] = (0, [69, 78]) from rfl] at hm4
  have hR4' : ∀ b, R4 b → w1.heap.size ≤ b := fun b h => by
    rcases hR4 b h with h | h
    · exact Nat.le_of_eq h.symm
    · have := hm3.lt; omega
  have hbw4 := But.below hbw3 hB4 (fun n h => by have := hbw1.size; omega) hbw3.size
  have hrow4 := (hB4.block w.heap.size hlt3 (fun h => by omega)).trans hrow3
  have hlt4 := Nat.lt_of_lt_of_le hlt3 hB4.size
  clear hm3 hs3 hB4 hR4 hrow3 hbw3
  have c0 : w4.cell? ⟨w.heap.size, 0, none⟩ = some (.int .i64 (count : Int)) := by rw [cell_of_row _ _ _ _ _ _ hrow4]; rfl
  have c1 : w4.cell? ⟨w.heap.size, 1, none⟩ = some (.int .u32 (sum : Int)) := by rw [cell_of_row _ _ _ _ _ _ hrow4]; rfl
  have c2 : w4.cell? ⟨w.heap.size, 2, none⟩ = some (.slice A l.length c) := by rw [cell_of_row _ _ _ _ _ _ hrow4]; rfl
  go_wp2_with fail
  go_loopw [8, 34] (fun x i wr => ∃ n : Nat, n ≤ 3 ∧ i = .int .i64 n ∧ ∃ R, Mk wr w1.heap.size R 0 (threeB count sum l.length n) ∧ (∀ b, R b → w1.heap.size ≤ b) ∧ Below w.heap.size w wr ∧ wr.heap[w.heap.size]? = some (.cells #[.int .i64 (count : Int), .int .u32 (sum : Int), .slice A l.length c] 43 (0, 0))) (fun _ i _ => 3 - (intOf i).toNat)
  case atStart => exact ⟨0, by omega, rfl, R4, hm4, hR4', hbw4, hrow4⟩
  case round =>
    obtain ⟨n, hn, rfl, R, hm5, hR5, hbw5, hrow5⟩ := hrel
    have i0 : ∀ w, (Instr.index 108 (.agg #[.int .i64 (count : Int), .int .i64 (sum : Int), .int .i64 (l.length : Int)]) (.int .i64 0)).run Tryd.prog w = .ok (.int .i64 (count : Int)) w := fun _ => by kernel_rfl
    have i1 : ∀ w, (Instr.index 108 (.agg #[.int .i64 (count : Int), .int .i64 (sum : Int), .int .i64 (l.length : Int)]) (.int .i64 1)).run Tryd.prog w = .ok (.int .i64 (sum : Int)) w := fun _ => by kernel_rfl
    have i2 : ∀ w, (Instr.index 108 (.agg #[.int .i64 (count : Int), .int .i64 (sum : Int), .int .i64 (l.length : Int)]) (.int .i64 2)).run Tryd.prog w = .ok (.int .i64 (l.length : Int)) w := fun _ => by kernel_rfl
    have hlt5 : w.heap.size < wr.heap.size := (Array.getElem?_eq_some_iff.1 hrow5).1
    have hlw5 : w1.heap.size < wr.heap.size := hm5.lt
    clear c0 c1 c2
    by_cases hlt : n < 3
    · have hcase : n = 0 ∨ n = 1 ∨ n = 2 := by omega
      rcases hcase with hh | hh | hh
      · subst hh
        have hp : putU (0, threeB count sum l.length 0) count 4 = (0, threeB count sum l.length 1) := putU_ok _ count 4 (by omega) (by omega)
        have hst := hid (makerU_any w1.heap.size R 0 (threeB count sum l.length 0) count 4 wr hm5 (by omega) (by simp [threeB]))
        rw [hp] at hst
        clear hp
        go_wp2_with fail
        refine hst.out.mono ?_
        rintro e w6 ⟨rfl, R6, hm6, hB6, hR6⟩
        have hbw6 := But.below hbw5 hB6 (fun b h => by have := hR5 b h; have := hbw1.size; omega) hbw5.size
        have hrow6 := (hB6.block w.heap.size hlt5 (fun h => by have := hR5 _ h; omega)).trans hrow5
        have hR6' : ∀ b, R6 b → w1.heap.size ≤ b := fun b h => by
          rcases hR6 b h with h | h
          · exact hR5 b h
          · omega
        go_wp2_with fail
        exact ⟨⟨1, by omega, by go_num, R6, hm6, hR6', hbw6, hrow6⟩, by simp [intOf]⟩
      · subst hh
        have hp : putU (0, threeB count sum l.length 1) sum 4 = (0, threeB count sum l.length 2) := putU_ok _ sum 4 (by omega) (by omega)
        have hst := hid (makerU_any w1.heap.size R 0 (threeB count sum l.length 1) sum 4 wr hm5 (by omega) (by simp [threeB, bytesLE_length]))
        rw [hp] at hst
        clear hp
        go_wp2_with fail
        refine hst.out.mono ?_
        rintro e w6 ⟨rfl, R6, hm6, hB6, hR6⟩
        have hbw6 := But.below hbw5 hB6 (fun b h => by have := hR5 b h; have := hbw1.size; omega) hbw5.size
        have hrow6 := (hB6.block w.heap.size hlt5 (fun h => by have := hR5 _ h; omega)).trans hrow5
        have hR6' : ∀ b, R6 b → w1.heap.size ≤ b := fun b h => by
          rcases hR6 b h with h | h
          · exact hR5 b h
          · omega
        go_wp2_with fail
        exact ⟨⟨2, by omega, by go_num, R6, hm6, hR6', hbw6, hrow6⟩, by simp [intOf]⟩
      · subst hh
        have hp : putU (0, threeB count sum l.length 2) l.length 4 = (0, threeB count sum l.length 3) := putU_ok _ l.length 4 (by omega) (by omega)
        have hst := hid (makerU_any w1.heap.size R 0 (threeB count sum l.length 2) l.length 4 wr hm5 (by omega) (by simp [threeB, bytesLE_length]))
        rw [hp] at hst
        clear hp
        go_wp2_with fail
        refine hst.out.mono ?_
        rintro e w6 ⟨rfl, R6, hm6, hB6, hR6⟩
        have hbw6 := But.below hbw5 hB6 (fun b h => by have := hR5 b h; have := hbw1.size; omega) hbw5.size
        have hrow6 := (hB6.block w.heap.size hlt5 (fun h => by have := hR5 _ h; omega)).trans hrow5
        have hR6' : ∀ b, R6 b → w1.heap.size ≤ b := fun b h => by
          rcases hR6 b h with h | h
          · exact hR5 b h
          · omega
        go_wp2_with fail
        exact ⟨⟨3, by omega, by go_num, R6, hm6, hR6', hbw6, hrow6⟩, by simp [intOf]⟩
    · have hn3 : n = 3 := by omega
      have hd3 : decide ((n : Int) < 3) = false := by simp; omega
      rw [hn3] at hm5
      have HN3 := hid hn3
      clear hn3
      have c2 : wr.cell? ⟨w.heap.size, 2, none⟩ = some (.slice A l.length c) := by rw [cell_of_row _ _ _ _ _ _ hrow5]; rfl
      have hli := hl.below hbw5
      clear i0 i1 i2
      go_wp2_with fail
      clear c2
      go_loopw [10, 45] (fun x i wq => ∃ n : Nat, n ≤ l.length ∧ i = .int .i64 n ∧ ∃ R, Mk wq w1.heap.size R 0 (threeB count sum l.length 3 ++ placesB (l.take n)) ∧ (∀ b, R b → w1.heap.size ≤ b) ∧ Below w.heap.size w wq) (fun _ i _ => l.length - (intOf i).toNat)
      case atStart => exact ⟨0, by omega, rfl, R, by simpa [placesB] using hm5, hR5, hbw5⟩
      case round =>
        clear hm5 hR5 hbw5 hrow5 hlt5 hlw5 hli
        clear HN3 hd3 hn hlt
        obtain ⟨n, hn, rfl, R, hm5, hR5, hbw5⟩ := hrel
        have hlw5 : w1.heap.size < wr.heap.size := hm5.lt
        have hpt : (placesB (l.take n)).length = 5 * n := by rw [placesB_len, List.length_take]; omega
        by_cases hlt : n < l.length
        · have hd : decide (n < l.length) = true := by simpa using hlt
          obtain ⟨a, rfl, ca⟩ := (hl.below hbw5).at hlt
          have hpp := hpl n hlt
          obtain ⟨p, hp⟩ := Int.eq_ofNat_of_zero_le hpp.1
          have hps := placesB_step l n hlt
          rw [hp] at ca hpp hps
          rw [Int.toNat_natCast] at hps
          have hput : putU (0, threeB count sum l.length 3 ++ placesB (l.take n)) p 5 = (0, threeB count sum l.length 3 ++ placesB (l.take (n + 1))) := (putU_ok _ p 5 (by omega) (by omega)).trans (by rw [hps, List.append_assoc])
          have hst := hid (makerU_any w1.heap.size R 0 (threeB count sum l.length 3 ++ placesB (l.take n)) p 5 wr hm5 (by omega) (by rw [List.length_append, threeB_len, hpt]; omega))
          rw [hput] at hst
          clear hput hps hp
          go_wp2_with fail
          refine hst.out.mono ?_
          rintro e w6 ⟨rfl, R6, hm6, hB6, hR6⟩
          have hbw6 := But.below hbw5 hB6 (fun b h => by have := hR5 b h; have := hbw1.size; omega) hbw5.size
          have hR6' : ∀ b, R6 b → w1.heap.size ≤ b := fun b h => by
            rcases hR6 b h with h | h
            · exact hR5 b h
            · omega
          go_wp2_with fail
          exact ⟨⟨n + 1, hlt, by go_num, R6, hm6, hR6', hbw6⟩, by simp [intOf]; omega⟩
        · obtain rfl : n = l.length := by omega
          have hd : decide (l.length < l.length) = false := by simp
          rw [List.take_length] at hm5
          have HL : Hid ((tailHead count sum l).length = 14 + 5 * l.length) := hid (tailHead_len count sum l)
          rw [show threeB count sum l.length 3 ++ placesB l = tailHead count sum l from rfl] at hm5
          clear hpt
          generalize tailHead count sum l = L at *
          go_wp2_with fail
          refine (bytes_ok w1.heap.size R L wr hm5 (by rw [HL.out]; omega)).mono ?_
          rintro e w8 ⟨v, rfl, hv⟩
          obtain ⟨A8, c8, rfl, hs8, hA8, ho8, hb8⟩ := hv.parts
          have hbw8 := hbw5.trans (hb8.mono hbw5.size)
          have hm8 := hm5.below hb8
          have hsr := sumI_range L
          obtain ⟨S, hS⟩ := Int.eq_ofNat_of_zero_le hsr.1
          go_wp2_with fail
          refine (sum_any g A8 c8 L w8 (ht.keep hbw8 htg) hs8 (by rw [HL.out]; omega)).mono ?_
          rintro e w9 ⟨rfl, rfl⟩
          have HSE : Hid (sealed L = L ++ bytesLE S 4) := hid (by unfold sealed; rw [hS]; rfl)
          rw [hS] at hsr ⊢
          have hS4 : S < 4294967296 := by omega
          clear hS
          have hp : putU (0, L) S 4 = (0, L ++ bytesLE S 4) := putU_ok _ S 4 (by omega) (by omega)
          have hst := hid (makerU_any w1.heap.size R 0 L S 4 w8 hm8 (by omega) (by rw [HL.out]; omega))
          rw [hp] at hst
          clear hp hm5 hv ho8 hs8 hA8
          go_wp2_with fail
          refine hst.out.mono ?_
          rintro e wa ⟨rfl, Ra, hma, hBa, hRa⟩
          have hbwa := But.below hbw8 hBa (fun b h => by have := hR5 b h; have := hbw1.size; omega) hbw8.size
          go_wp2_with fail
          refine (bytes_ok w1.heap.size Ra _ wa hma (by rw [List.length_append, bytesLE_length, HL.out]; omega)).mono ?_
          rintro e wb ⟨v, rfl, hv⟩
          have hf : PutPost w (sealed L) (.returned (.tuple #[v, .int .i64 0])) wb := ⟨v, rfl, by rw [HSE.out]; exact hv.lower hbwa⟩
          go_wp2_with fail
          go_ret2
          exact hf
end Go.Proofs.YtkmhmehofipehaaDoor
/- Files, plainly: what their parts make; blocks in memory. -/
namespace Go.Proofs.YtkmhmehofipehaaDoor
set_option linter.unusedVariables false
open Go.RowKit
/-- a slice of bytes -/
structure BlkV where
  A : Option Addr
  c : Nat
  l : List UInt8
def BlkV.v (x : BlkV) : Value := .slice x.A x.l.length x.c
/-- a slice that begins at A reads as these slices of bytes -/
def SeesK (w : World) (A : Option Addr) (L : List BlkV) : Prop := Sees w A (L.map BlkV.v) ∧ ∀ x ∈ L, SeesB w x.A x.l ∧ x.l.length ≤ x.c ∧ x.c ≤ maxLen
theorem SeesK.below {w w' : World} {A : Option Addr} {L : List BlkV} (h : SeesK w A L) (hb : Below w.heap.size w w') : SeesK w' A L :=
  ⟨Sees.below h.1 hb, fun x hx => ⟨(h.2 x hx).1.below hb, (h.2 x hx).2⟩⟩
theorem SeesK.at {w : World} {A : Option Addr} {L : List BlkV} (h : SeesK w A L) {i : Nat} (hi : i < L.length) : ∃ a, A = some a ∧ w.cell? (a.add i) = some (.slice L[i].A L[i].l.length L[i].c) :=
  h.1 i L[i].v (by rw [List.getElem?_map, List.getElem?_eq_getElem hi]; rfl)
theorem SeesK.one {w : World} {A : Option Addr} {L : List BlkV} (h : SeesK w A L) {i : Nat} (hi : i < L.length) : SeesB w L[i].A L[i].l ∧ L[i].l.length ≤ L[i].c ∧ L[i].c ≤ maxLen := h.2 _ (List.getElem_mem hi)
/-- a file on its way -/
structure FileS where
  out : List UInt8
  pl : List Int
  cnt : Int
  short : Bool
def addE (i : InfoV) (s : FileS) (b : List UInt8) : Int × FileS :=
  if (openH b).1 ≠ 0 then ((openH b).1, s) else if (36 + (openH b).2.1.siz : Int) < b.length then (62, s)
  else if nextE i (openH b).2.1 s.pl.length s.short ≠ 0 then (nextE i (openH b).2.1 s.pl.length s.short, s)
  else (0, ⟨s.out ++ b, s.pl ++ [(s.out.length : Int)], s.cnt + (openH b).2.1.len, decide ((openH b).2.1.len < i.bl)⟩)
def addAll (i : InfoV) : List (List UInt8) → FileS → Int × FileS
  | [], s => (0, s)
  | b :: bs, s => if (addE i s b).1 ≠ 0 then ((addE i s b).1, s) else addAll i bs (addE i s b).2
def InfoV.right (i : InfoV) : Bool := rightI i.k i.ch i.bi i.ra i.bl i.sh
def infoB (i : InfoV) : List UInt8 := sealed (infoHead i.k.toNat i.ch.toNat i.bi.toNat i.sh.toNat i.ra.toNat i.bl.toNat)
def startF (i : InfoV) (l : List TagV) : FileS := ⟨infoB i ++ sealed (tagsB l), [], 0, false⟩
def tailB (s : FileS) (sum : Nat) : List UInt8 := sealed (tailHead s.cnt.toNat sum s.pl)
def endF (r : Int × FileS) (sum : Nat) : Int × List UInt8 := if r.1 ≠ 0 then (r.1, []) else (0, r.2.out ++ tailB r.2 sum)
def buildF (i : InfoV) (l : List TagV) (bs : List (List UInt8)) (sum : Nat) : Int × List UInt8 :=
  if i.right = false then (32, []) else if (checkT l).2 ≠ 0 then ((checkT l).2, []) else endF (addAll i bs (startF i l)) sum
theorem InfoV.range {i : InfoV} (h : i.right = true) : (1 ≤ i.k ∧ i.k ≤ 3) ∧ (1 ≤ i.ch ∧ i.ch ≤ 8) ∧ (8 ≤ i.bi ∧ i.bi ≤ 24) ∧ (1 ≤ i.ra ∧ i.ra ≤ 1048575) ∧ (256 ≤ i.bl ∧ i.bl ≤ 65536) ∧ (0 ≤ i.sh ∧ i.sh ≤ 3) := by
  have h1 := of_decide_eq_true h
  have h2 := of_decide_eq_true h1.2.1
  exact ⟨h1.1, h2.1, h2.2.1, h2.2.2, h1.2.2.1, h1.2.2.2.1⟩
theorem infoB_len (i : InfoV) : (infoB i).length = 19 := by simp [infoB, sealed, infoHead, bytesLE_length]
theorem openH_fine {b : List UInt8} (h : (openH b).1 = 0) : 36 + (openH b).2.1.siz ≤ b.length ∧ rightH (openH b).2.1.k (openH b).2.1.idx (openH b).2.1.len (openH b).2.1.stp (openH b).2.1.bnd (openH b).2.1.lst (openH b).2.1.lnk (openH b).2.1.siz = true ∧ 0 ≤ (openH b).2.1.siz := by
  unfold openH at h ⊢
  by_cases h1 : (getH b).1 ≠ 0
  · rw [if_pos h1] at h; exact absurd h h1
  · rw [if_neg h1] at h ⊢
    obtain ⟨_, _, _, hok, hsd⟩ := getH_ok (by simpa using h1)
    split at h
    · exact absurd h (by decide)
    · split at h
      · exact absurd h (by decide)
      · rename_i h2 h3
        rw [if_neg h2, if_neg h3]
        simp only
        rw [hsd]
        unfold okH at hok
        rw [Bool.and_eq_true] at hok
        unfold saidH
        simp only
        exact ⟨by omega, hok.2, by omega⟩
theorem openH_len {b : List UInt8} (h : (openH b).1 = 0) : 1 ≤ (openH b).2.1.len ∧ (openH b).2.1.len ≤ 65536 := by
  have h1 := of_decide_eq_true (openH_fine h).2.1
  exact h1.2.2.1
theorem addE_ok {i : InfoV} {s : FileS} {b : List UInt8} (h : (addE i s b).1 = 0) : (openH b).1 = 0 ∧ b.length = 36 + (openH b).2.1.siz ∧ nextE i (openH b).2.1 s.pl.length s.short = 0 ∧ (addE i s b).2 = ⟨s.out ++ b, s.pl ++ [(s.out.length : Int)], s.cnt + (openH b).2.1.len, decide ((openH b).2.1.len < i.bl)⟩ := by
  unfold addE at h ⊢
  by_cases h1 : (openH b).1 = 0
  case neg => rw [if_pos h1] at h; exact absurd h h1
  rw [if_neg (by rw [h1]; simp)] at h ⊢
  by_cases h2 : (36 + (openH b).2.1.siz : Int) < b.length
  case pos => rw [if_pos h2] at h; exact absurd h (by simp)
  rw [if_neg h2] at h ⊢
  by_cases h3 : nextE i (openH b).2.1 s.pl.length s.short = 0
  case neg => rw [if_pos h3] at h; exact absurd h h3
  rw [if_neg (by rw [h3]; simp)]
  have h4 := (openH_fine h1).1
  exact ⟨h1, by omega, h3, rfl⟩
/-- what n blocks of bytes make of a file's measures -/
structure FileS.ok (s : FileS) (n : Nat) : Prop where
  pl : s.pl.length = n
  cnt : 0 ≤ s.cnt ∧ s.cnt ≤ 65536 * n
  out : s.out.length ≤ 71000 + 300 * n
theorem FileS.ok.next {i : InfoV} {s : FileS} {n : Nat} {b : List UInt8} (h : s.ok n) (hb : b.length ≤ 300) (he : (addE i s b).1 = 0) : (addE i s b).2.ok (n + 1) := by
  obtain ⟨h1, _, _, h4⟩ := addE_ok he
  have h5 := openH_len h1
  have h6 := h.cnt
  have h7 := h.out
  rw [h4]
  exact ⟨by simp [h.pl], ⟨by simp only; omega, by simp only; omega⟩, by simp only [List.length_append]; omega⟩
theorem startF_ok (i : InfoV) {l : List TagV} (h : Short l) : (startF i l).ok 0 := by
  have h1 := tagsB_len h
  refine ⟨rfl, ⟨by simp [startF], by simp [startF]⟩, ?_⟩
  unfold startF sealed
  simp only [List.length_append, infoB_len, bytesLE_length]
  omega
theorem addAll_ok {i : InfoV} : ∀ (bs : List (List UInt8)) (s : FileS) (n : Nat), s.ok n → (∀ b ∈ bs, b.length ≤ 300) → (addAll i bs s).1 = 0 → (addAll i bs s).2.ok (n + bs.length)
  | [], s, n, h, _, _ => h
  | b :: bs, s, n, h, hb, he => by
    unfold addAll at he ⊢
    by_cases h1 : (addE i s b).1 = 0
    · rw [if_neg (by rw [h1]; simp)] at he ⊢
      have := addAll_ok bs _ (n + 1) (h.next (hb b (by simp)) h1) (fun x hx => hb x (by simp [hx])) he
      rw [List.length_cons]
      rwa [show n + (bs.length + 1) = n + 1 + bs.length by omega]
    · rw [if_pos h1] at he
      exact absurd he h1
/-- places rise -/
theorem rises_snoc (en : Int) : ∀ (l : List Int) (last x : Int), risesB last en l = true → (∀ y ∈ l, y < x) → last < x → x < en → risesB last en (l ++ [x]) = true
  | [], last, x, _, _, h1, h2 => by
    simp only [List.nil_append, risesB, fallB]
    simp
    omega
  | y :: l, last, x, h, hm, h1, h2 => by
    unfold risesB at h
    rw [Bool.and_eq_true] at h
    rw [List.cons_append, risesB, Bool.and_eq_true]
    exact ⟨h.1, rises_snoc en l y x h.2 (fun z hz => hm z (by simp [hz])) (hm y (by simp)) h2⟩
def FileS.rise (s : FileS) : Prop := risesB (-1) 1099511627776 s.pl = true ∧ ∀ y ∈ s.pl, y < s.out.length
theorem addE_rise {i : InfoV} {s : FileS} {b : List UInt8} {n : Nat} (h : s.rise) (hn : s.ok n) (hn2 : n ≤ 1000000) (he : (addE i s b).1 = 0) : (addE i s b).2.rise := by
  obtain ⟨h1, h2, _, h4⟩ := addE_ok he
  have h5 := (openH_fine h1).2.2
  have h7 := hn.out
  rw [h4]
  refine ⟨rises_snoc _ _ _ _ h.1 h.2 (by omega) (by omega), ?_⟩
  intro y hy
  simp only [List.length_append] at hy ⊢
  rcases List.mem_append.1 hy with hy | hy
  · have := h.2 y hy; omega
  · rw [List.mem_singleton.1 hy]; omega
theorem addAll_rise {i : InfoV} : ∀ (bs : List (List UInt8)) (s : FileS) (n : Nat), s.rise → s.ok n → n + bs.length ≤ 1000000 → (∀ b ∈ bs, b.length ≤ 300) → (addAll i bs s).1 = 0 → (addAll i bs s).2.rise
  | [], s, n, h, _, _, _, _ => h
  | b :: bs, s, n, h, ho, hn, hb, he => by
    rw [List.length_cons] at hn
    unfold addAll at he ⊢
    by_cases h1 : (addE i s b).1 = 0
    · rw [if_neg (by rw [h1]; simp)] at he ⊢
      exact addAll_rise bs _ (n + 1) (addE_rise h ho (by omega) h1) (ho.next (hb b (by simp)) h1) (by omega) (fun x hx => hb x (by simp [hx])) he
    · rw [if_pos h1] at he
      exact absurd he h1
theorem start_rise (i : InfoV) (l : List TagV) : (startF i l).rise := ⟨rfl, by simp [startF]⟩
theorem rise_right {s : FileS} {n : Nat} (h : s.rise) (ho : s.ok n) (hn : n ≤ 12) : rightB (s.cnt.toNat : Int) s.pl = true := by
  have h1 := ho.cnt
  have h2 := ho.pl
  unfold rightB
  rw [h.1, decide_eq_true (show 0 ≤ (s.cnt.toNat : Int) by omega), decide_eq_true (show (s.cnt.toNat : Int) ≤ 4294967295 by omega), decide_eq_true (show s.pl.length ≤ 16777216 by omega)]
  rfl
end Go.Proofs.YtkmhmehofipehaaDoor
