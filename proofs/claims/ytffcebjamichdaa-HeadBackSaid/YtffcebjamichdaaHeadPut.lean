/- A head as bytes. -/
import Derived.Test.YtffcebjamichdaaHeadRight
import Derived.Test.YtffcebjamichdaaMakerU
import Derived.Test.YtffcebjamichdaaCrcWalks2
import Derived.Test.YtffcebjamichdaaRes
import Derived.Lib.SmallJoins
import Derived.Deep.DeepCutAuto
namespace Go.Proofs.Ytffcebjamichdaa
set_option linter.unusedVariables false
open Go.RowKit
def sealed (l : List UInt8) : List UInt8 := l ++ bytesLE (sumI l).toNat 4
def headFour (k : Nat) (lst : Bool) : List UInt8 := [222, 92, UInt8.ofNat k, if lst then 1 else 0]
def sixB (k : Nat) (lst : Bool) (idx len stp bnd lnk siz : Nat) (i : Nat) : List UInt8 := headFour k lst ++ (([idx, len, stp, bnd, lnk, siz] : List Nat).take i).flatMap fun x => bytesLE x 4
def headHead (k : Nat) (lst : Bool) (idx len stp bnd lnk siz : Nat) : List UInt8 := sixB k lst idx len stp bnd lnk siz 6
theorem headHead_len (k : Nat) (lst : Bool) (idx len stp bnd lnk siz : Nat) : (headHead k lst idx len stp bnd lnk siz).length = 28 := by simp [headHead, sixB, headFour, bytesLE_length]
theorem sealed_len (l : List UInt8) : (sealed l).length = l.length + 4 := by unfold sealed; rw [List.length_append, bytesLE_length]
theorem byteV_nat (k : Nat) (h : k < 256) : byteV (UInt8.ofNat k) = .int .u8 (k : Int) := by
  rw [byteV, UInt8.toNat_ofNat', Nat.mod_eq_of_lt h]
theorem putU_ok (l : List UInt8) (v n : Nat) (h : 1 ≤ n ∧ n ≤ 8) (hv : v < 256 ^ n) : putU (0, l) v (n : Int) = (0, l ++ bytesLE v n) := by
  rw [putU, if_neg (by simp), if_neg (by omega), if_neg]
  · rfl
  · rintro ⟨_, h3⟩
    rw [Int.toNat_natCast] at h3
    omega
theorem NewB.lower {w w1 w2 : World} {l : List UInt8} {v : Value} (h : NewB w1 l v w2) (hb : Below w.heap.size w w1) : NewB w l v w2 := by
  obtain ⟨A, c, hv, ho, h2⟩ := h
  exact ⟨A, c, hv, Joins.ownsRow_le ho hb.size, hb.trans (h2.mono hb.size)⟩
set_option maxHeartbeats 1000000 in
theorem numbers_any (k idx len stp bnd lnk siz : Nat) (lst : Bool) (w : World) (hlk : lnk < 4294967296) :
    Calls Try.prog 39 #[.agg #[.int .i64 (k : Int), .int .i64 (idx : Int), .int .i64 (len : Int), .int .i64 (stp : Int), .int .i64 (bnd : Int), .bool lst, .int .u32 (lnk : Int), .int .i64 (siz : Int)]] w fun e w' => e = .returned (.agg #[.int .i64 (idx : Int), .int .i64 (len : Int), .int .i64 (stp : Int), .int .i64 (bnd : Int), .int .i64 (lnk : Int), .int .i64 (siz : Int)]) ∧ Below w.heap.size w w' := by
  have hz0 : (w.alloc (.cells #[.int .i64 (k : Int), .int .i64 (idx : Int), .int .i64 (len : Int), .int .i64 (stp : Int), .int .i64 (bnd : Int), .bool lst, .int .u32 (lnk : Int), .int .i64 (siz : Int)] 24)).heap.size = w.heap.size + 1 := by simp
  have hb : ∀ cs, Below w.heap.size w ((w.alloc (.cells #[.int .i64 (k : Int), .int .i64 (idx : Int), .int .i64 (len : Int), .int .i64 (stp : Int), .int .i64 (bnd : Int), .bool lst, .int .u32 (lnk : Int), .int .i64 (siz : Int)] 24)).alloc (.cells cs 72)) := fun cs => ((Below.refl _ w).alloc (Nat.le_refl _) _).alloc (by simp) _
  go_enter Try.func39, Try.ntmps39
  go_wp2_with fail
  exact bodyPost_ret (results_cell_row rfl _ _ (w.heap.size + 1) _ _ _ _ rfl (by rw [← hz0]; exact heap_alloc_new _ _) Try.underlying72 rfl (by kernel_rfl)) rfl ⟨rfl, hb _⟩
/-- behind lay: the sum is laid -/
def LayPost (w : World) (g : Nat) (R : Nat → Prop) (l : List UInt8) (e : Ending) (w' : World) : Prop :=
  e = .returned (.int .u32 (sumI l)) ∧ ∃ R', Mk w' g R' 0 (sealed l) ∧ But R w w' ∧ ∀ b, R' b → R b ∨ w.heap.size ≤ b
set_option maxHeartbeats 2000000 in
theorem lay_any (t g : Nat) (R : Nat → Prop) (l : List UInt8) (w : World) (ht : Tab w t) (hm : Mk w g R 0 l) (hlen : l.length ≤ 140737488355000) :
    Calls Try.prog 31 #[.pointer (some ⟨t, 0, none⟩), .pointer (some ⟨g, 0, none⟩)] w (LayPost w g R l) := by
  have htl := ht.lt
  go_enter Try.func31, Try.ntmps31
  go_wp2_with fail
  refine (bytes_ok g R l w hm (by omega)).mono ?_
  rintro e w8 ⟨v, rfl, hv⟩
  obtain ⟨A8, c8, rfl, hs8, hA8, ho8, hb8⟩ := hv.parts
  have hm8 := hm.below hb8
  have hsr := sumI_range l
  obtain ⟨S, hS⟩ := Int.eq_ofNat_of_zero_le hsr.1
  go_wp2_with fail
  refine (sum_any t A8 c8 l w8 (ht.keep hb8 htl) hs8 (by omega)).mono ?_
  rintro e w9 ⟨rfl, rfl⟩
  have HSE : Hid (sealed l = l ++ bytesLE S 4) := hid (by unfold sealed; rw [hS]; rfl)
  have HS := hid hS
  rw [hS] at hsr ⊢
  have hS4 : S < 4294967296 := by omega
  clear hS
  have hp : putU (0, l) S 4 = (0, l ++ bytesLE S 4) := putU_ok _ S 4 (by omega) (by omega)
  have hst := hid (makerU_any g R 0 l S 4 w8 hm8 (by omega) (by omega))
  rw [hp, ← HSE.out] at hst
  clear hp hm hv ho8 hs8 hA8
  go_wp2_with fail
  refine hst.out.mono ?_
  rintro e wa ⟨rfl, Ra, hma, hBa, hRa⟩
  have hf : LayPost w g R l (.returned (.int .u32 (S : Int))) wa := ⟨by rw [HS.out], Ra, hma, (But.of_below (R := R) hb8).trans hBa (fun n h => .inl h), fun b h => (hRa b h).imp id (fun h => Nat.le_trans hb8.size h)⟩
  go_wp2_with fail
  go_ret
  exact hf
/-- behind put: a new maker that has these bytes -/
def NewMk (w : World) (l : List UInt8) (e : Ending) (w' : World) : Prop :=
  ∃ (g : Nat) (R : Nat → Prop), e = .returned (.pointer (some ⟨g, 0, none⟩)) ∧ Mk w' g R 0 l ∧ (∀ b, R b → w.heap.size ≤ b) ∧ Below w.heap.size w w'
set_option maxHeartbeats 1600000 in
theorem hput_false (t : Nat) (k idx len stp bnd lnk siz : Nat) (w : World) (ht : Tab w t) (hk : k < 256 ∧ idx < 4294967296 ∧ len < 4294967296 ∧ stp < 4294967296 ∧ bnd < 4294967296 ∧ lnk < 4294967296 ∧ siz < 4294967296) :
    Calls Try.prog 24 #[.pointer (some ⟨t, 0, none⟩), .agg #[.int .i64 (k : Int), .int .i64 (idx : Int), .int .i64 (len : Int), .int .i64 (stp : Int), .int .i64 (bnd : Int), .bool false, .int .u32 (lnk : Int), .int .i64 (siz : Int)]] w (NewMk w (sealed (headHead k false idx len stp bnd lnk siz))) := by
  obtain ⟨hk0, hk1, hk2, hk3, hk4, hk5, hk6⟩ := hk
  have hb : Below w.heap.size w (w.alloc (.cells #[.int .i64 (k : Int), .int .i64 (idx : Int), .int .i64 (len : Int), .int .i64 (stp : Int), .int .i64 (bnd : Int), .bool false, .int .u32 (lnk : Int), .int .i64 (siz : Int)] 24)) := (Below.refl _ w).alloc (Nat.le_refl _) _
  have hrow := heap_alloc_new w (.cells #[.int .i64 (k : Int), .int .i64 (idx : Int), .int .i64 (len : Int), .int .i64 (stp : Int), .int .i64 (bnd : Int), .bool false, .int .u32 (lnk : Int), .int .i64 (siz : Int)] 24)
  have htl := ht.lt
  have hsz0 : (w.alloc (.cells #[.int .i64 (k : Int), .int .i64 (idx : Int), .int .i64 (len : Int), .int .i64 (stp : Int), .int .i64 (bnd : Int), .bool false, .int .u32 (lnk : Int), .int .i64 (siz : Int)] 24)).heap.size = w.heap.size + 1 := by simp
  go_enter Try.func24, Try.ntmps24
  go_upto_region 1 with (fail)
  generalize w.alloc (.cells #[.int .i64 (k : Int), .int .i64 (idx : Int), .int .i64 (len : Int), .int .i64 (stp : Int), .int .i64 (bnd : Int), .bool false, .int .u32 (lnk : Int), .int .i64 (siz : Int)] 24) = w1 at *
  have hlt1 : w.heap.size < w1.heap.size := by omega
  clear hsz0
  have hm := mk_new w1
  have hb2 : Below w1.heap.size w1 (w1.alloc (.cells #[.int .i64 0, .slice none 0 0] 71)) := (Below.refl _ w1).alloc (Nat.le_refl _) _
  have hrow2 := (hb2.block w.heap.size hlt1).trans hrow
  have hlt2 : w.heap.size < (w1.alloc (.cells #[.int .i64 0, .slice none 0 0] 71)).heap.size := Nat.lt_of_lt_of_le hlt1 hb2.size
  have hbw2 := hb.trans (hb2.mono hb.size)
  go_upto_region 2 with (fail)
  generalize w1.alloc (.cells #[.int .i64 0, .slice none 0 0] 71) = w2 at *
  have c5 : w2.cell? ⟨w.heap.size, 5, none⟩ = some (.bool false) := by rw [cell_of_row _ _ _ _ _ _ hrow2]; rfl
  have c0 : w2.cell? ⟨w.heap.size, 0, none⟩ = some (.int .i64 (k : Int)) := by rw [cell_of_row _ _ _ _ _ _ hrow2]; rfl
  have hb3 : Below w2.heap.size w2 (w2.alloc (.cells #[.int .u8 222, .int .u8 92, .int .u8 (k : Int), .int .u8 (0)] 5)) := (Below.refl _ w2).alloc (Nat.le_refl _) _
  have hs3 : SeesB (w2.alloc (.cells #[.int .u8 222, .int .u8 92, .int .u8 (k : Int), .int .u8 (0)] 5)) (some ⟨w2.heap.size, 0, none⟩) (headFour k false) :=
    Sees.of_block (heap_alloc_new w2 _) (by simp only [headFour, List.map_cons, List.map_nil, byteV_nat _ hk0]; rfl)
  have hm3 := hm.below hb3
  have hrow3 := (hb3.block w.heap.size hlt2).trans hrow2
  have hlt3 := Nat.lt_of_lt_of_le hlt2 hb3.size
  have hbw3 := hbw2.trans (hb3.mono hbw2.size)
  go_wp2_with fail
  clear hm hrow2 hrow hb2 hb3 hbw2 c0 c5
  generalize w2.alloc (.cells #[.int .u8 222, .int .u8 92, .int .u8 (k : Int), .int .u8 (0)] 5) = w3 at *
  have hraw0 := raw_any w1.heap.size _ 0 [] _ 4 (headFour k false) w3 hm3 hs3 (by simp [headFour])
  rw [show (headFour k false).length = 4 from rfl, show putRaw (0, []) (headFour k false) = (0, sixB k false idx len stp bnd lnk siz 0) by simp [putRaw, sixB]] at hraw0
  have hraw := hid hraw0
  clear hraw0
  refine hraw.out.mono ?_
  rintro e w4 ⟨rfl, R4, hm4, hB4, hR4⟩
  have hR4' : ∀ b, R4 b → w1.heap.size ≤ b := fun b h => by
    rcases hR4 b h with h | h
    · exact Nat.le_of_eq h.symm
    · have := hm3.lt; omega
  have hbw4 := But.below hbw3 hB4 (fun n h => by have := hb.size; omega) hbw3.size
  have hrow4 := (hB4.block w.heap.size hlt3 (fun h => by omega)).trans hrow3
  have hlt4 := Nat.lt_of_lt_of_le hlt3 hB4.size
  clear hm3 hs3 hB4 hR4 hrow3 hbw3 hraw
  have c0 : w4.cell? ⟨w.heap.size, 0, none⟩ = some (.int .i64 (k : Int)) := by rw [cell_of_row _ _ _ _ _ _ hrow4]; rfl
  have c1 : w4.cell? ⟨w.heap.size, 1, none⟩ = some (.int .i64 (idx : Int)) := by rw [cell_of_row _ _ _ _ _ _ hrow4]; rfl
  have c2 : w4.cell? ⟨w.heap.size, 2, none⟩ = some (.int .i64 (len : Int)) := by rw [cell_of_row _ _ _ _ _ _ hrow4]; rfl
  have c3 : w4.cell? ⟨w.heap.size, 3, none⟩ = some (.int .i64 (stp : Int)) := by rw [cell_of_row _ _ _ _ _ _ hrow4]; rfl
  have c4 : w4.cell? ⟨w.heap.size, 4, none⟩ = some (.int .i64 (bnd : Int)) := by rw [cell_of_row _ _ _ _ _ _ hrow4]; rfl
  have c5 : w4.cell? ⟨w.heap.size, 5, none⟩ = some (.bool false) := by rw [cell_of_row _ _ _ _ _ _ hrow4]; rfl
  have c6 : w4.cell? ⟨w.heap.size, 6, none⟩ = some (.int .u32 (lnk : Int)) := by rw [cell_of_row _ _ _ _ _ _ hrow4]; rfl
  have c7 : w4.cell? ⟨w.heap.size, 7, none⟩ = some (.int .i64 (siz : Int)) := by rw [cell_of_row _ _ _ _ _ _ hrow4]; rfl
  go_wp2_with fail
  refine (numbers_any k idx len stp bnd lnk siz false w4 hk5).mono ?_
  rintro e w5 ⟨rfl, hb5⟩
  have hm5' := hm4.below hb5
  have hbw5' := hbw4.trans (hb5.mono hbw4.size)
  have hlw5' : w1.heap.size < w4.heap.size := hm4.lt
  clear c0 c1 c2 c3 c4 c5 c6 c7 hm4 hrow4
  go_wp2_with fail
  go_loopw [8, 22] (fun x i wr => ∃ n : Nat, n ≤ 6 ∧ i = .int .i64 n ∧ ∃ R, Mk wr w1.heap.size R 0 (sixB k false idx len stp bnd lnk siz n) ∧ (∀ b, R b → w1.heap.size ≤ b) ∧ Below w.heap.size w wr) (fun _ i _ => 6 - (intOf i).toNat)
  case atStart => exact ⟨0, by omega, rfl, R4, hm5', hR4', hbw5'⟩
  case round =>
    clear hm5' hbw5' hb5 hlw5' hbw4
    obtain ⟨n, hn, rfl, R, hm5, hR5, hbw5⟩ := hrel
    have hlw5 : w1.heap.size < wr.heap.size := hm5.lt
    have i0 : ∀ w, (Instr.index 72 (.agg #[.int .i64 (idx : Int), .int .i64 (len : Int), .int .i64 (stp : Int), .int .i64 (bnd : Int), .int .i64 (lnk : Int), .int .i64 (siz : Int)]) (.int .i64 0)).run Try.prog w = .ok (.int .i64 (idx : Int)) w := fun _ => by kernel_rfl
    have i1 : ∀ w, (Instr.index 72 (.agg #[.int .i64 (idx : Int), .int .i64 (len : Int), .int .i64 (stp : Int), .int .i64 (bnd : Int), .int .i64 (lnk : Int), .int .i64 (siz : Int)]) (.int .i64 1)).run Try.prog w = .ok (.int .i64 (len : Int)) w := fun _ => by kernel_rfl
    have i2 : ∀ w, (Instr.index 72 (.agg #[.int .i64 (idx : Int), .int .i64 (len : Int), .int .i64 (stp : Int), .int .i64 (bnd : Int), .int .i64 (lnk : Int), .int .i64 (siz : Int)]) (.int .i64 2)).run Try.prog w = .ok (.int .i64 (stp : Int)) w := fun _ => by kernel_rfl
    have i3 : ∀ w, (Instr.index 72 (.agg #[.int .i64 (idx : Int), .int .i64 (len : Int), .int .i64 (stp : Int), .int .i64 (bnd : Int), .int .i64 (lnk : Int), .int .i64 (siz : Int)]) (.int .i64 3)).run Try.prog w = .ok (.int .i64 (bnd : Int)) w := fun _ => by kernel_rfl
    have i4 : ∀ w, (Instr.index 72 (.agg #[.int .i64 (idx : Int), .int .i64 (len : Int), .int .i64 (stp : Int), .int .i64 (bnd : Int), .int .i64 (lnk : Int), .int .i64 (siz : Int)]) (.int .i64 4)).run Try.prog w = .ok (.int .i64 (lnk : Int)) w := fun _ => by kernel_rfl
    have i5 : ∀ w, (Instr.index 72 (.agg #[.int .i64 (idx : Int), .int .i64 (len : Int), .int .i64 (stp : Int), .int .i64 (bnd : Int), .int .i64 (lnk : Int), .int .i64 (siz : Int)]) (.int .i64 5)).run Try.prog w = .ok (.int .i64 (siz : Int)) w := fun _ => by kernel_rfl
    by_cases hlt : n < 6
    · have hcase : n = 0 ∨ n = 1 ∨ n = 2 ∨ n = 3 ∨ n = 4 ∨ n = 5 := by omega
      rcases hcase with hh | hh | hh | hh | hh | hh
      · subst hh
        have hp : putU (0, sixB k false idx len stp bnd lnk siz 0) idx 4 = (0, sixB k false idx len stp bnd lnk siz 1) := (putU_ok _ idx 4 (by omega) (by omega)).trans (by rw [show sixB k false idx len stp bnd lnk siz 1 = sixB k false idx len stp bnd lnk siz 0 ++ bytesLE idx 4 by simp [sixB]])
        have hst := hid (makerU_any w1.heap.size R 0 (sixB k false idx len stp bnd lnk siz 0) idx 4 wr hm5 (by omega) (by simp [sixB, headFour]))
        rw [hp] at hst
        clear hp
        go_wp2_with fail
        refine hst.out.mono ?_
        rintro e w6 ⟨rfl, R6, hm6, hB6, hR6⟩
        have hbw6 := But.below hbw5 hB6 (fun b h => by have := hR5 b h; have := hb.size; omega) hbw5.size
        have hR6' : ∀ b, R6 b → w1.heap.size ≤ b := fun b h => by
          rcases hR6 b h with h | h
          · exact hR5 b h
          · omega
        go_wp2_with fail
        exact ⟨⟨1, by omega, by go_num, R6, hm6, hR6', hbw6⟩, by simp [intOf]⟩
      · subst hh
        have hp : putU (0, sixB k false idx len stp bnd lnk siz 1) len 4 = (0, sixB k false idx len stp bnd lnk siz 2) := (putU_ok _ len 4 (by omega) (by omega)).trans (by rw [show sixB k false idx len stp bnd lnk siz 2 = sixB k false idx len stp bnd lnk siz 1 ++ bytesLE len 4 by simp [sixB]])
        have hst := hid (makerU_any w1.heap.size R 0 (sixB k false idx len stp bnd lnk siz 1) len 4 wr hm5 (by omega) (by simp [sixB, headFour, bytesLE_length]))
        rw [hp] at hst
        clear hp
        go_wp2_with fail
        refine hst.out.mono ?_
        rintro e w6 ⟨rfl, R6, hm6, hB6, hR6⟩
        have hbw6 := But.below hbw5 hB6 (fun b h => by have := hR5 b h; have := hb.size; omega) hbw5.size
        have hR6' : ∀ b, R6 b → w1.heap.size ≤ b := fun b h => by
          rcases hR6 b h with h | h
          · exact hR5 b h
          · omega
        go_wp2_with fail
        exact ⟨⟨2, by omega, by go_num, R6, hm6, hR6', hbw6⟩, by simp [intOf]⟩
      · subst hh
        have hp : putU (0, sixB k false idx len stp bnd lnk siz 2) stp 4 = (0, sixB k false idx len stp bnd lnk siz 3) := (putU_ok _ stp 4 (by omega) (by omega)).trans (by rw [show sixB k false idx len stp bnd lnk siz 3 = sixB k false idx len stp bnd lnk siz 2 ++ bytesLE stp 4 by simp [sixB]])
        have hst := hid (makerU_any w1.heap.size R 0 (sixB k false idx len stp bnd lnk siz 2) stp 4 wr hm5 (by omega) (by simp [sixB, headFour, bytesLE_length]))
        rw [hp] at hst
        clear hp
        go_wp2_with fail
        refine hst.out.mono ?_
        rintro e w6 ⟨rfl, R6, hm6, hB6, hR6⟩
        have hbw6 := But.below hbw5 hB6 (fun b h => by have := hR5 b h; have := hb.size; omega) hbw5.size
        have hR6' : ∀ b, R6 b → w1.heap.size ≤ b := fun b h => by
          rcases hR6 b h with h | h
          · exact hR5 b h
          · omega
        go_wp2_with fail
        exact ⟨⟨3, by omega, by go_num, R6, hm6, hR6', hbw6⟩, by simp [intOf]⟩
      · subst hh
        have hp : putU (0, sixB k false idx len stp bnd lnk siz 3) bnd 4 = (0, sixB k false idx len stp bnd lnk siz 4) := (putU_ok _ bnd 4 (by omega) (by omega)).trans (by rw [show sixB k false idx len stp bnd lnk siz 4 = sixB k false idx len stp bnd lnk siz 3 ++ bytesLE bnd 4 by simp [sixB]])
        have hst := hid (makerU_any w1.heap.size R 0 (sixB k false idx len stp bnd lnk siz 3) bnd 4 wr hm5 (by omega) (by simp [sixB, headFour, bytesLE_length]))
        rw [hp] at hst
        clear hp
        go_wp2_with fail
        refine hst.out.mono ?_
        rintro e w6 ⟨rfl, R6, hm6, hB6, hR6⟩
        have hbw6 := But.below hbw5 hB6 (fun b h => by have := hR5 b h; have := hb.size; omega) hbw5.size
        have hR6' : ∀ b, R6 b → w1.heap.size ≤ b := fun b h => by
          rcases hR6 b h with h | h
          · exact hR5 b h
          · omega
        go_wp2_with fail
        exact ⟨⟨4, by omega, by go_num, R6, hm6, hR6', hbw6⟩, by simp [intOf]⟩
      · subst hh
        have hp : putU (0, sixB k false idx len stp bnd lnk siz 4) lnk 4 = (0, sixB k false idx len stp bnd lnk siz 5) := (putU_ok _ lnk 4 (by omega) (by omega)).trans (by rw [show sixB k false idx len stp bnd lnk siz 5 = sixB k false idx len stp bnd lnk siz 4 ++ bytesLE lnk 4 by simp [sixB]])
        have hst := hid (makerU_any w1.heap.size R 0 (sixB k false idx len stp bnd lnk siz 4) lnk 4 wr hm5 (by omega) (by simp [sixB, headFour, bytesLE_length]))
        rw [hp] at hst
        clear hp
        go_wp2_with fail
        refine hst.out.mono ?_
        rintro e w6 ⟨rfl, R6, hm6, hB6, hR6⟩
        have hbw6 := But.below hbw5 hB6 (fun b h => by have := hR5 b h; have := hb.size; omega) hbw5.size
        have hR6' : ∀ b, R6 b → w1.heap.size ≤ b := fun b h => by
          rcases hR6 b h with h | h
          · exact hR5 b h
          · omega
        go_wp2_with fail
        exact ⟨⟨5, by omega, by go_num, R6, hm6, hR6', hbw6⟩, by simp [intOf]⟩
      · subst hh
        have hp : putU (0, sixB k false idx len stp bnd lnk siz 5) siz 4 = (0, sixB k false idx len stp bnd lnk siz 6) := (putU_ok _ siz 4 (by omega) (by omega)).trans (by rw [show sixB k false idx len stp bnd lnk siz 6 = sixB k false idx len stp bnd lnk siz 5 ++ bytesLE siz 4 by simp [sixB]])
        have hst := hid (makerU_any w1.heap.size R 0 (sixB k false idx len stp bnd lnk siz 5) siz 4 wr hm5 (by omega) (by simp [sixB, headFour, bytesLE_length]))
        rw [hp] at hst
        clear hp
        go_wp2_with fail
        refine hst.out.mono ?_
        rintro e w6 ⟨rfl, R6, hm6, hB6, hR6⟩
        have hbw6 := But.below hbw5 hB6 (fun b h => by have := hR5 b h; have := hb.size; omega) hbw5.size
        have hR6' : ∀ b, R6 b → w1.heap.size ≤ b := fun b h => by
          rcases hR6 b h with h | h
          · exact hR5 b h
          · omega
        go_wp2_with fail
        exact ⟨⟨6, by omega, by go_num, R6, hm6, hR6', hbw6⟩, by simp [intOf]⟩
    · have hn6 : n = 6 := by omega
      have hd6 : decide ((n : Int) < 6) = false := by simp; omega
      rw [hn6, show sixB k false idx len stp bnd lnk siz 6 = headHead k false idx len stp bnd lnk siz from rfl] at hm5
      have HN6 := hid hn6
      clear hn6 i0 i1 i2 i3 i4 i5
      have hll := headHead_len k false idx len stp bnd lnk siz
      have hlay := hid (lay_any t w1.heap.size R (headHead k false idx len stp bnd lnk siz) wr (ht.keep hbw5 htl) hm5 (by omega))
      clear hll
      go_wp2_with fail
      refine hlay.out.mono ?_
      rintro e w7 ⟨rfl, R7, hm7, hB7, hR7⟩
      have hf : NewMk w (sealed (headHead k false idx len stp bnd lnk siz)) (.returned (.pointer (some ⟨w1.heap.size, 0, none⟩))) w7 := ⟨_, R7, rfl, hm7, fun b h => by
        have := hb.size
        rcases hR7 b h with h | h
        · have := hR5 b h; omega
        · omega, But.below hbw5 hB7 (fun b h => by have := hR5 b h; have := hb.size; omega) hbw5.size⟩
      go_wp2_with fail
      go_ret
      exact hf
set_option maxHeartbeats 1600000 in
theorem hput_true (t : Nat) (k idx len stp bnd lnk siz : Nat) (w : World) (ht : Tab w t) (hk : k < 256 ∧ idx < 4294967296 ∧ len < 4294967296 ∧ stp < 4294967296 ∧ bnd < 4294967296 ∧ lnk < 4294967296 ∧ siz < 4294967296) :
    Calls Try.prog 24 #[.pointer (some ⟨t, 0, none⟩), .agg #[.int .i64 (k : Int), .int .i64 (idx : Int), .int .i64 (len : Int), .int .i64 (stp : Int), .int .i64 (bnd : Int), .bool true, .int .u32 (lnk : Int), .int .i64 (siz : Int)]] w (NewMk w (sealed (headHead k true idx len stp bnd lnk siz))) := by
  obtain ⟨hk0, hk1, hk2, hk3, hk4, hk5, hk6⟩ := hk
  have hb : Below w.heap.size w (w.alloc (.cells #[.int .i64 (k : Int), .int .i64 (idx : Int), .int .i64 (len : Int), .int .i64 (stp : Int), .int .i64 (bnd : Int), .bool true, .int .u32 (lnk : Int), .int .i64 (siz : Int)] 24)) := (Below.refl _ w).alloc (Nat.le_refl _) _
  have hrow := heap_alloc_new w (.cells #[.int .i64 (k : Int), .int .i64 (idx : Int), .int .i64 (len : Int), .int .i64 (stp : Int), .int .i64 (bnd : Int), .bool true, .int .u32 (lnk : Int), .int .i64 (siz : Int)] 24)
  have htl := ht.lt
  have hsz0 : (w.alloc (.cells #[.int .i64 (k : Int), .int .i64 (idx : Int), .int .i64 (len : Int), .int .i64 (stp : Int), .int .i64 (bnd : Int), .bool true, .int .u32 (lnk : Int), .int .i64 (siz : Int)] 24)).heap.size = w.heap.size + 1 := by simp
  go_enter Try.func24, Try.ntmps24
  go_upto_region 1 with (fail)
  generalize w.alloc (.cells #[.int .i64 (k : Int), .int .i64 (idx : Int), .int .i64 (len : Int), .int .i64 (stp : Int), .int .i64 (bnd : Int), .bool true, .int .u32 (lnk : Int), .int .i64 (siz : Int)] 24) = w1 at *
  have hlt1 : w.heap.size < w1.heap.size := by omega
  clear hsz0
  have hm := mk_new w1
  have hb2 : Below w1.heap.size w1 (w1.alloc (.cells #[.int .i64 0, .slice none 0 0] 71)) := (Below.refl _ w1).alloc (Nat.le_refl _) _
  have hrow2 := (hb2.block w.heap.size hlt1).trans hrow
  have hlt2 : w.heap.size < (w1.alloc (.cells #[.int .i64 0, .slice none 0 0] 71)).heap.size := Nat.lt_of_lt_of_le hlt1 hb2.size
  have hbw2 := hb.trans (hb2.mono hb.size)
  go_upto_region 2 with (fail)
  generalize w1.alloc (.cells #[.int .i64 0, .slice none 0 0] 71) = w2 at *
  have c5 : w2.cell? ⟨w.heap.size, 5, none⟩ = some (.bool true) := by rw [cell_of_row _ _ _ _ _ _ hrow2]; rfl
  have c0 : w2.cell? ⟨w.heap.size, 0, none⟩ = some (.int .i64 (k : Int)) := by rw [cell_of_row _ _ _ _ _ _ hrow2]; rfl
  have hb3 : Below w2.heap.size w2 (w2.alloc (.cells #[.int .u8 222, .int .u8 92, .int .u8 (k : Int), .int .u8 (1)] 5)) := (Below.refl _ w2).alloc (Nat.le_refl _) _
  have hs3 : SeesB (w2.alloc (.cells #[.int .u8 222, .int .u8 92, .int .u8 (k : Int), .int .u8 (1)] 5)) (some ⟨w2.heap.size, 0, none⟩) (headFour k true) :=
    Sees.of_block (heap_alloc_new w2 _) (by simp only [headFour, List.map_cons, List.map_nil, byteV_nat _ hk0]; rfl)
  have hm3 := hm.below hb3
  have hrow3 := (hb3.block w.heap.size hlt2).trans hrow2
  have hlt3 := Nat.lt_of_lt_of_le hlt2 hb3.size
  have hbw3 := hbw2.trans (hb3.mono hbw2.size)
  go_wp2_with fail
  clear hm hrow2 hrow hb2 hb3 hbw2 c0 c5
  generalize w2.alloc (.cells #[.int .u8 222, .int .u8 92, .int .u8 (k : Int), .int .u8 (1)] 5) = w3 at *
  have hraw0 := raw_any w1.heap.size _ 0 [] _ 4 (headFour k true) w3 hm3 hs3 (by simp [headFour])
  rw [show (headFour k true).length = 4 from rfl, show putRaw (0, []) (headFour k true) = (0, sixB k true idx len stp bnd lnk siz 0) by simp [putRaw, sixB]] at hraw0
  have hraw := hid hraw0
  clear hraw0
  refine hraw.out.mono ?_
  rintro e w4 ⟨rfl, R4, hm4, hB4, hR4⟩
  have hR4' : ∀ b, R4 b → w1.heap.size ≤ b := fun b h => by
    rcases hR4 b h with h | h
    · exact Nat.le_of_eq h.symm
    · have := hm3.lt; omega
  have hbw4 := But.below hbw3 hB4 (fun n h => by have := hb.size; omega) hbw3.size
  have hrow4 := (hB4.block w.heap.size hlt3 (fun h => by omega)).trans hrow3
  have hlt4 := Nat.lt_of_lt_of_le hlt3 hB4.size
  clear hm3 hs3 hB4 hR4 hrow3 hbw3 hraw
  have c0 : w4.cell? ⟨w.heap.size, 0, none⟩ = some (.int .i64 (k : Int)) := by rw [cell_of_row _ _ _ _ _ _ hrow4]; rfl
  have c1 : w4.cell? ⟨w.heap.size, 1, none⟩ = some (.int .i64 (idx : Int)) := by rw [cell_of_row _ _ _ _ _ _ hrow4]; rfl
  have c2 : w4.cell? ⟨w.heap.size, 2, none⟩ = some (.int .i64 (len : Int)) := by rw [cell_of_row _ _ _ _ _ _ hrow4]; rfl
  have c3 : w4.cell? ⟨w.heap.size, 3, none⟩ = some (.int .i64 (stp : Int)) := by rw [cell_of_row _ _ _ _ _ _ hrow4]; rfl
  have c4 : w4.cell? ⟨w.heap.size, 4, none⟩ = some (.int .i64 (bnd : Int)) := by rw [cell_of_row _ _ _ _ _ _ hrow4]; rfl
  have c5 : w4.cell? ⟨w.heap.size, 5, none⟩ = some (.bool true) := by rw [cell_of_row _ _ _ _ _ _ hrow4]; rfl
  have c6 : w4.cell? ⟨w.heap.size, 6, none⟩ = some (.int .u32 (lnk : Int)) := by rw [cell_of_row _ _ _ _ _ _ hrow4]; rfl
  have c7 : w4.cell? ⟨w.heap.size, 7, none⟩ = some (.int .i64 (siz : Int)) := by rw [cell_of_row _ _ _ _ _ _ hrow4]; rfl
  go_wp2_with fail
  refine (numbers_any k idx len stp bnd lnk siz true w4 hk5).mono ?_
  rintro e w5 ⟨rfl, hb5⟩
  have hm5' := hm4.below hb5
  have hbw5' := hbw4.trans (hb5.mono hbw4.size)
  have hlw5' : w1.heap.size < w4.heap.size := hm4.lt
  clear c0 c1 c2 c3 c4 c5 c6 c7 hm4 hrow4
  go_wp2_with fail
  go_loopw [8, 22] (fun x i wr => ∃ n : Nat, n ≤ 6 ∧ i = .int .i64 n ∧ ∃ R, Mk wr w1.heap.size R 0 (sixB k true idx len stp bnd lnk siz n) ∧ (∀ b, R b → w1.heap.size ≤ b) ∧ Below w.heap.size w wr) (fun _ i _ => 6 - (intOf i).toNat)
  case atStart => exact ⟨0, by omega, rfl, R4, hm5', hR4', hbw5'⟩
  case round =>
    clear hm5' hbw5' hb5 hlw5' hbw4
    obtain ⟨n, hn, rfl, R, hm5, hR5, hbw5⟩ := hrel
    have hlw5 : w1.heap.size < wr.heap.size := hm5.lt
    have i0 : ∀ w, (Instr.index 72 (.agg #[.int .i64 (idx : Int), .int .i64 (len : Int), .int .i64 (stp : Int), .int .i64 (bnd : Int), .int .i64 (lnk : Int), .int .i64 (siz : Int)]) (.int .i64 0)).run Try.prog w = .ok (.int .i64 (idx : Int)) w := fun _ => by kernel_rfl
    have i1 : ∀ w, (Instr.index 72 (.agg #[.int .i64 (idx : Int), .int .i64 (len : Int), .int .i64 (stp : Int), .int .i64 (bnd : Int), .int .i64 (lnk : Int), .int .i64 (siz : Int)]) (.int .i64 1)).run Try.prog w = .ok (.int .i64 (len : Int)) w := fun _ => by kernel_rfl
    have i2 : ∀ w, (Instr.index 72 (.agg #[.int .i64 (idx : Int), .int .i64 (len : Int), .int .i64 (stp : Int), .int .i64 (bnd : Int), .int .i64 (lnk : Int), .int .i64 (siz : Int)]) (.int .i64 2)).run Try.prog w = .ok (.int .i64 (stp : Int)) w := fun _ => by kernel_rfl
    have i3 : ∀ w, (Instr.index 72 (.agg #[.int .i64 (idx : Int), .int .i64 (len : Int), .int .i64 (stp : Int), .int .i64 (bnd : Int), .int .i64 (lnk : Int), .int .i64 (siz : Int)]) (.int .i64 3)).run Try.prog w = .ok (.int .i64 (bnd : Int)) w := fun _ => by kernel_rfl
    have i4 : ∀ w, (Instr.index 72 (.agg #[.int .i64 (idx : Int), .int .i64 (len : Int), .int .i64 (stp : Int), .int .i64 (bnd : Int), .int .i64 (lnk : Int), .int .i64 (siz : Int)]) (.int .i64 4)).run Try.prog w = .ok (.int .i64 (lnk : Int)) w := fun _ => by kernel_rfl
    have i5 : ∀ w, (Instr.index 72 (.agg #[.int .i64 (idx : Int), .int .i64 (len : Int), .int .i64 (stp : Int), .int .i64 (bnd : Int), .int .i64 (lnk : Int), .int .i64 (siz : Int)]) (.int .i64 5)).run Try.prog w = .ok (.int .i64 (siz : Int)) w := fun _ => by kernel_rfl
    by_cases hlt : n < 6
    · have hcase : n = 0 ∨ n = 1 ∨ n = 2 ∨ n = 3 ∨ n = 4 ∨ n = 5 := by omega
      rcases hcase with hh | hh | hh | hh | hh | hh
      · subst hh
        have hp : putU (0, sixB k true idx len stp bnd lnk siz 0) idx 4 = (0, sixB k true idx len stp bnd lnk siz 1) := (putU_ok _ idx 4 (by omega) (by omega)).trans (by rw [show sixB k true idx len stp bnd lnk siz 1 = sixB k true idx len stp bnd lnk siz 0 ++ bytesLE idx 4 by simp [sixB]])
        have hst := hid (makerU_any w1.heap.size R 0 (sixB k true idx len stp bnd lnk siz 0) idx 4 wr hm5 (by omega) (by simp [sixB, headFour]))
        rw [hp] at hst
        clear hp
        go_wp2_with fail
        refine hst.out.mono ?_
        rintro e w6 ⟨rfl, R6, hm6, hB6, hR6⟩
        have hbw6 := But.below hbw5 hB6 (fun b h => by have := hR5 b h; have := hb.size; omega) hbw5.size
        have hR6' : ∀ b, R6 b → w1.heap.size ≤ b := fun b h => by
          rcases hR6 b h with h | h
          · exact hR5 b h
          · omega
        go_wp2_with fail
        exact ⟨⟨1, by omega, by go_num, R6, hm6, hR6', hbw6⟩, by simp [intOf]⟩
      · subst hh
        have hp : putU (0, sixB k true idx len stp bnd lnk siz 1) len 4 = (0, sixB k true idx len stp bnd lnk siz 2) := (putU_ok _ len 4 (by omega) (by omega)).trans (by rw [show sixB k true idx len stp bnd lnk siz 2 = sixB k true idx len stp bnd lnk siz 1 ++ bytesLE len 4 by simp [sixB]])
        have hst := hid (makerU_any w1.heap.size R 0 (sixB k true idx len stp bnd lnk siz 1) len 4 wr hm5 (by omega) (by simp [sixB, headFour, bytesLE_length]))
        rw [hp] at hst
        clear hp
        go_wp2_with fail
        refine hst.out.mono ?_
        rintro e w6 ⟨rfl, R6, hm6, hB6, hR6⟩
        have hbw6 := But.below hbw5 hB6 (fun b h => by have := hR5 b h; have := hb.size; omega) hbw5.size
        have hR6' : ∀ b, R6 b → w1.heap.size ≤ b := fun b h => by
          rcases hR6 b h with h | h
          · exact hR5 b h
          · omega
        go_wp2_with fail
        exact ⟨⟨2, by omega, by go_num, R6, hm6, hR6', hbw6⟩, by simp [intOf]⟩
      · subst hh
        have hp : putU (0, sixB k true idx len stp bnd lnk siz 2) stp 4 = (0, sixB k true idx len stp bnd lnk siz 3) := (putU_ok _ stp 4 (by omega) (by omega)).trans (by rw [show sixB k true idx len stp bnd lnk siz 3 = sixB k true idx len stp bnd lnk siz 2 ++ bytesLE stp 4 by simp [sixB]])
        have hst := hid (makerU_any w1.heap.size R 0 (sixB k true idx len stp bnd lnk siz 2) stp 4 wr hm5 (by omega) (by simp [sixB, headFour, bytesLE_length]))
        rw [hp] at hst
        clear hp
        go_wp2_with fail
        refine hst.out.mono ?_
        rintro e w6 ⟨rfl, R6, hm6, hB6, hR6⟩
        have hbw6 := But.below hbw5 hB6 (fun b h => by have := hR5 b h; have := hb.size; omega) hbw5.size
        have hR6' : ∀ b, R6 b → w1.heap.size ≤ b := fun b h => by
          rcases hR6 b h with h | h
          · exact hR5 b h
          · omega
        go_wp2_with fail
        exact ⟨⟨3, by omega, by go_num, R6, hm6, hR6', hbw6⟩, by simp [intOf]⟩
      · subst hh
        have hp : putU (0, sixB k true idx len stp bnd lnk siz 3) bnd 4 = (0, sixB k true idx len stp bnd lnk siz 4) := (putU_ok _ bnd 4 (by omega) (by omega)).trans (by rw [show sixB k true idx len stp bnd lnk siz 4 = sixB k true idx len stp bnd lnk siz 3 ++ bytesLE bnd 4 by simp [sixB]])
        have hst := hid (makerU_any w1.heap.size R 0 (sixB k true idx len stp bnd lnk siz 3) bnd 4 wr hm5 (by omega) (by simp [sixB, headFour, bytesLE_length]))
        rw [hp] at hst
        clear hp
        go_wp2_with fail
        refine hst.out.mono ?_
        rintro e w6 ⟨rfl, R6, hm6, hB6, hR6⟩
        have hbw6 := But.below hbw5 hB6 (fun b h => by have := hR5 b h; have := hb.size; omega) hbw5.size
        have hR6' : ∀ b, R6 b → w1.heap.size ≤ b := fun b h => by
          rcases hR6 b h with h | h
          · exact hR5 b h
          · omega
        go_wp2_with fail
        exact ⟨⟨4, by omega, by go_num, R6, hm6, hR6', hbw6⟩, by simp [intOf]⟩
      · subst hh
        have hp : putU (0, sixB k true idx len stp bnd lnk siz 4) lnk 4 = (0, sixB k true idx len stp bnd lnk siz 5) := (putU_ok _ lnk 4 (by omega) (by omega)).trans (by rw [show sixB k true idx len stp bnd lnk siz 5 = sixB k true idx len stp bnd lnk siz 4 ++ bytesLE lnk 4 by simp [sixB]])
        have hst := hid (makerU_any w1.heap.size R 0 (sixB k true idx len stp bnd lnk siz 4) lnk 4 wr hm5 (by omega) (by simp [sixB, headFour, bytesLE_length]))
        rw [hp] at hst
        clear hp
        go_wp2_with fail
        refine hst.out.mono ?_
        rintro e w6 ⟨rfl, R6, hm6, hB6, hR6⟩
        have hbw6 := But.below hbw5 hB6 (fun b h => by have := hR5 b h; have := hb.size; omega) hbw5.size
        have hR6' : ∀ b, R6 b → w1.heap.size ≤ b := fun b h => by
          rcases hR6 b h with h | h
          · exact hR5 b h
          · omega
        go_wp2_with fail
        exact ⟨⟨5, by omega, by go_num, R6, hm6, hR6', hbw6⟩, by simp [intOf]⟩
      · subst hh
        have hp : putU (0, sixB k true idx len stp bnd lnk siz 5) siz 4 = (0, sixB k true idx len stp bnd lnk siz 6) := (putU_ok _ siz 4 (by omega) (by omega)).trans (by rw [show sixB k true idx len stp bnd lnk siz 6 = sixB k true idx len stp bnd lnk siz 5 ++ bytesLE siz 4 by simp [sixB]])
        have hst := hid (makerU_any w1.heap.size R 0 (sixB k true idx len stp bnd lnk siz 5) siz 4 wr hm5 (by omega) (by simp [sixB, headFour, bytesLE_length]))
        rw [hp] at hst
        clear hp
        go_wp2_with fail
        refine hst.out.mono ?_
        rintro e w6 ⟨rfl, R6, hm6, hB6, hR6⟩
        have hbw6 := But.below hbw5 hB6 (fun b h => by have := hR5 b h; have := hb.size; omega) hbw5.size
        have hR6' : ∀ b, R6 b → w1.heap.size ≤ b := fun b h => by
          rcases hR6 b h with h | h
          · exact hR5 b h
          · omega
        go_wp2_with fail
        exact ⟨⟨6, by omega, by go_num, R6, hm6, hR6', hbw6⟩, by simp [intOf]⟩
    · have hn6 : n = 6 := by omega
      have hd6 : decide ((n : Int) < 6) = false := by simp; omega
      rw [hn6, show sixB k true idx len stp bnd lnk siz 6 = headHead k true idx len stp bnd lnk siz from rfl] at hm5
      have HN6 := hid hn6
      clear hn6 i0 i1 i2 i3 i4 i5
      have hll := headHead_len k true idx len stp bnd lnk siz
      have hlay := hid (lay_any t w1.heap.size R (headHead k true idx len stp bnd lnk siz) wr (ht.keep hbw5 htl) hm5 (by omega))
      clear hll
      go_wp2_with fail
      refine hlay.out.mono ?_
      rintro e w7 ⟨rfl, R7, hm7, hB7, hR7⟩
      have hf : NewMk w (sealed (headHead k true idx len stp bnd lnk siz)) (.returned (.pointer (some ⟨w1.heap.size, 0, none⟩))) w7 := ⟨_, R7, rfl, hm7, fun b h => by
        have := hb.size
        rcases hR7 b h with h | h
        · have := hR5 b h; omega
        · omega, But.below hbw5 hB7 (fun b h => by have := hR5 b h; have := hb.size; omega) hbw5.size⟩
      go_wp2_with fail
      go_ret
      exact hf
end Go.Proofs.Ytffcebjamichdaa
