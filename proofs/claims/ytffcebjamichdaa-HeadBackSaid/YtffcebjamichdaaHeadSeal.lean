/- Blocks sealed, by the program and by the reference. -/
import Derived.Test.YtffcebjamichdaaLaw22Known
namespace Go.Proofs.Ytffcebjamichdaa
set_option linter.unusedVariables false
open Go.RowKit
def SealPost (w : World) (l : List UInt8) (s : Int) (e : Ending) (w' : World) : Prop := ∃ v, e = .returned (.tuple #[v, .int .u32 s, .int .i64 0]) ∧ NewB w l v w'
set_option maxHeartbeats 1000000 in
theorem hseal_nil (k idx len stp bnd : Int) (lst : Bool) (lnk siz : Int) (A : Option Addr) (c : Nat) (l : List UInt8) (w : World) :
    Calls Try.prog 18 #[.pointer none, .agg #[.int .i64 k, .int .i64 idx, .int .i64 len, .int .i64 stp, .int .i64 bnd, .bool lst, .int .u32 lnk, .int .i64 siz], .slice A l.length c] w fun e w' => e = .returned (.tuple #[.slice none 0 0, .int .u32 0, .int .i64 2]) ∧ Below w.heap.size w w' := by
  have hb : ∀ cs, Below w.heap.size w (w.alloc (.cells cs 24)) := fun cs => (Below.refl _ w).alloc (Nat.le_refl _) _
  go_enter Try.func18, Try.ntmps18
  go_wp2_with fail
  all_goals exact bodyPost_ret (results_tmp3 rfl _ _ _) rfl ⟨rfl, hb _⟩
set_option maxHeartbeats 1000000 in
theorem hseal_bad (t : Nat) (k idx len stp bnd : Int) (lst : Bool) (lnk siz : Int) (A : Option Addr) (c : Nat) (l : List UInt8) (w : World) (hn : l.length ≤ 16777216) (hr : rightH k idx len stp bnd lst lnk (l.length : Int) = false) :
    Calls Try.prog 18 #[.pointer (some ⟨t, 0, none⟩), .agg #[.int .i64 k, .int .i64 idx, .int .i64 len, .int .i64 stp, .int .i64 bnd, .bool lst, .int .u32 lnk, .int .i64 siz], .slice A l.length c] w fun e w' => e = .returned (.tuple #[.slice none 0 0, .int .u32 0, .int .i64 32]) ∧ Below w.heap.size w w' := by
  have hb : Below w.heap.size w (w.alloc (.cells #[.int .i64 k, .int .i64 idx, .int .i64 len, .int .i64 stp, .int .i64 bnd, .bool lst, .int .u32 lnk, .int .i64 (l.length : Int)] 24)) := (Below.refl _ w).alloc (Nat.le_refl _) _
  have hmin : min (l.length : Int) 16777216 = (l.length : Int) := by omega
  have d1 : decide (16777216 < (l.length : Int)) = false := by simp; omega
  go_enter Try.func18, Try.ntmps18
  go_wp2_with fail
  refine (hright_any k idx len stp bnd lst lnk (l.length : Int) _).mono ?_
  rintro e w1 ⟨rfl, hb1⟩
  rw [hr]
  go_wp2_with fail
  exact bodyPost_ret (results_tmp3 rfl _ _ _) rfl ⟨rfl, hb.trans (hb1.mono hb.size)⟩
set_option maxHeartbeats 4000000 in
theorem hseal_ok (t : Nat) (k idx len stp bnd lnk : Nat) (lst : Bool) (siz : Int) (A : Option Addr) (c : Nat) (l : List UInt8) (w : World) (ht : Tab w t) (hl : SeesB w A l) (hn : l.length ≤ 16777216) (hr : rightH k idx len stp bnd lst lnk (l.length : Int) = true) (hk : k < 256 ∧ idx < 4294967296 ∧ len < 4294967296 ∧ stp < 4294967296 ∧ bnd < 4294967296 ∧ lnk < 4294967296 ∧ l.length < 4294967296) :
    Calls Try.prog 18 #[.pointer (some ⟨t, 0, none⟩), .agg #[.int .i64 (k : Int), .int .i64 (idx : Int), .int .i64 (len : Int), .int .i64 (stp : Int), .int .i64 (bnd : Int), .bool lst, .int .u32 (lnk : Int), .int .i64 siz], .slice A l.length c] w (SealPost w (sealed (sealed (headHead k lst idx len stp bnd lnk l.length) ++ l)) (sumI (sealed (headHead k lst idx len stp bnd lnk l.length) ++ l))) := by
  have hb : Below w.heap.size w (w.alloc (.cells #[.int .i64 (k : Int), .int .i64 (idx : Int), .int .i64 (len : Int), .int .i64 (stp : Int), .int .i64 (bnd : Int), .bool lst, .int .u32 (lnk : Int), .int .i64 (l.length : Int)] 24)) := (Below.refl _ w).alloc (Nat.le_refl _) _
  have hrow := heap_alloc_new w (.cells #[.int .i64 (k : Int), .int .i64 (idx : Int), .int .i64 (len : Int), .int .i64 (stp : Int), .int .i64 (bnd : Int), .bool lst, .int .u32 (lnk : Int), .int .i64 (l.length : Int)] 24)
  have hmin : min (l.length : Int) 16777216 = (l.length : Int) := by omega
  have d1 : decide (16777216 < (l.length : Int)) = false := by simp; omega
  have htl := ht.lt
  have HLL : Hid ((sealed (headHead k lst idx len stp bnd lnk l.length)).length = 32) := hid (by rw [sealed_len, headHead_len])
  have hput := hid (fun W (h : Tab W t) => hput_all t k idx len stp bnd lnk l.length lst W h hk)
  generalize sealed (headHead k lst idx len stp bnd lnk l.length) = Z at *
  clear hk
  go_enter Try.func18, Try.ntmps18
  go_wp2_with fail
  generalize w.alloc (.cells #[.int .i64 (k : Int), .int .i64 (idx : Int), .int .i64 (len : Int), .int .i64 (stp : Int), .int .i64 (bnd : Int), .bool lst, .int .u32 (lnk : Int), .int .i64 (l.length : Int)] 24) = w0 at *
  have hlt0 : w.heap.size < w0.heap.size := (Array.getElem?_eq_some_iff.1 hrow).1
  refine (hright_any k idx len stp bnd lst lnk (l.length : Int) _).mono ?_
  rintro e w1 ⟨rfl, hb1⟩
  rw [hr]
  have hbw1 := hb.trans (hb1.mono hb.size)
  have hrow1 := (hb1.block w.heap.size hlt0).trans hrow
  have c0 : w1.cell? ⟨w.heap.size, 0, none⟩ = some (.int .i64 (k : Int)) := by rw [cell_of_row _ _ _ _ _ _ hrow1]; rfl
  have c1 : w1.cell? ⟨w.heap.size, 1, none⟩ = some (.int .i64 (idx : Int)) := by rw [cell_of_row _ _ _ _ _ _ hrow1]; rfl
  have c2 : w1.cell? ⟨w.heap.size, 2, none⟩ = some (.int .i64 (len : Int)) := by rw [cell_of_row _ _ _ _ _ _ hrow1]; rfl
  have c3 : w1.cell? ⟨w.heap.size, 3, none⟩ = some (.int .i64 (stp : Int)) := by rw [cell_of_row _ _ _ _ _ _ hrow1]; rfl
  have c4 : w1.cell? ⟨w.heap.size, 4, none⟩ = some (.int .i64 (bnd : Int)) := by rw [cell_of_row _ _ _ _ _ _ hrow1]; rfl
  have c5 : w1.cell? ⟨w.heap.size, 5, none⟩ = some (.bool lst) := by rw [cell_of_row _ _ _ _ _ _ hrow1]; rfl
  have c6 : w1.cell? ⟨w.heap.size, 6, none⟩ = some (.int .u32 (lnk : Int)) := by rw [cell_of_row _ _ _ _ _ _ hrow1]; rfl
  have c7 : w1.cell? ⟨w.heap.size, 7, none⟩ = some (.int .i64 (l.length : Int)) := by rw [cell_of_row _ _ _ _ _ _ hrow1]; rfl
  clear hb hb1 hrow hrow1 hr
  go_wp2_with fail
  refine (hput.out w1 (ht.keep hbw1 htl)).mono ?_
  rintro e w2 ⟨g, R, rfl, hm, hR, hb2⟩
  have hbw2 := hbw1.trans (hb2.mono hbw1.size)
  have hl2 := hl.below hbw2
  clear c0 c1 c2 c3 c4 c5 c6 c7
  go_wp2_with fail
  refine (raw_any g R 0 Z A c l w2 hm hl2 (by rw [HLL.out]; omega)).mono ?_
  rintro e w3 ⟨rfl, R3, hm3, hB3, hR3⟩
  rw [show putRaw (0, Z) l = (0, Z ++ l) from rfl] at hm3
  have hR' : ∀ b, R b → w.heap.size ≤ b := fun b h => by have := hR b h; have := hbw1.size; omega
  have hbw3 := But.below hbw2 hB3 hR' hbw2.size
  have hR3' : ∀ b, R3 b → w.heap.size ≤ b := fun b h => by
    rcases hR3 b h with h | h
    · exact hR' b h
    · have := hbw2.size; omega
  have HZL : Hid ((Z ++ l).length ≤ 16777300) := hid (by rw [List.length_append, HLL.out]; omega)
  generalize Z ++ l = Y at *
  clear hm hR hR3 hb2 hl2
  go_wp2_with fail
  refine (lay_any t g R3 Y w3 (ht.keep hbw3 htl) hm3 (Nat.le_trans HZL.out (by omega))).mono ?_
  rintro e w4 ⟨rfl, R4, hm4, hB4, hR4⟩
  have hbw4 := But.below hbw3 hB4 hR3' hbw3.size
  clear hm3 hB3 hR3'
  go_wp2_with fail
  refine (bytes_ok g R4 (sealed Y) w4 hm4 (by have := HZL.out; rw [sealed_len]; omega)).mono ?_
  rintro e w5 ⟨v, rfl, hv⟩
  have hf := hv.lower hbw4
  go_wp2_with fail
  exact bodyPost_ret (results_tmp3 rfl _ _ _) rfl ⟨v, rfl, hf⟩
set_option maxHeartbeats 1000000 in
theorem rhseal_bad (k idx len stp bnd : Int) (lst : Bool) (lnk siz : Int) (A : Option Addr) (c : Nat) (l : List UInt8) (w : World) (hn : l.length ≤ 16777216) (hr : rightH k idx len stp bnd lst lnk (l.length : Int) = false) :
    Calls Try.prog 19 #[.agg #[.int .i64 k, .int .i64 idx, .int .i64 len, .int .i64 stp, .int .i64 bnd, .bool lst, .int .u32 lnk, .int .i64 siz], .slice A l.length c] w fun e w' => e = .returned (.tuple #[.slice none 0 0, .int .u32 0, .int .i64 32]) ∧ Below w.heap.size w w' := by
  have hb : Below w.heap.size w (w.alloc (.cells #[.int .i64 k, .int .i64 idx, .int .i64 len, .int .i64 stp, .int .i64 bnd, .bool lst, .int .u32 lnk, .int .i64 (l.length : Int)] 24)) := (Below.refl _ w).alloc (Nat.le_refl _) _
  have d1 : decide (16777216 < (l.length : Int)) = false := by simp; omega
  go_enter Try.func19, Try.ntmps19
  go_wp2_with fail
  refine (hrright_any k idx len stp bnd lst lnk (l.length : Int) _).mono ?_
  rintro e w1 ⟨rfl, hb1⟩
  rw [hr]
  go_wp2_with fail
  exact bodyPost_ret (results_tmp3 rfl _ _ _) rfl ⟨rfl, hb.trans (hb1.mono hb.size)⟩
set_option maxHeartbeats 4000000 in
theorem rhseal_ok (k idx len stp bnd lnk : Nat) (lst : Bool) (siz : Int) (A : Option Addr) (c : Nat) (l : List UInt8) (w : World) (hl : SeesB w A l) (hn : l.length ≤ 16777216) (hr : rightH k idx len stp bnd lst lnk (l.length : Int) = true) (hk : k < 256 ∧ idx < 4294967296 ∧ len < 4294967296 ∧ stp < 4294967296 ∧ bnd < 4294967296 ∧ lnk < 4294967296 ∧ l.length < 4294967296) :
    Calls Try.prog 19 #[.agg #[.int .i64 (k : Int), .int .i64 (idx : Int), .int .i64 (len : Int), .int .i64 (stp : Int), .int .i64 (bnd : Int), .bool lst, .int .u32 (lnk : Int), .int .i64 siz], .slice A l.length c] w (SealPost w (sealed (sealed (headHead k lst idx len stp bnd lnk l.length) ++ l)) (sumI (sealed (headHead k lst idx len stp bnd lnk l.length) ++ l))) := by
  have hb : Below w.heap.size w (w.alloc (.cells #[.int .i64 (k : Int), .int .i64 (idx : Int), .int .i64 (len : Int), .int .i64 (stp : Int), .int .i64 (bnd : Int), .bool lst, .int .u32 (lnk : Int), .int .i64 (l.length : Int)] 24)) := (Below.refl _ w).alloc (Nat.le_refl _) _
  have hrow := heap_alloc_new w (.cells #[.int .i64 (k : Int), .int .i64 (idx : Int), .int .i64 (len : Int), .int .i64 (stp : Int), .int .i64 (bnd : Int), .bool lst, .int .u32 (lnk : Int), .int .i64 (l.length : Int)] 24)
  have d1 : decide (16777216 < (l.length : Int)) = false := by simp; omega
  have HLL : Hid ((sealed (headHead k lst idx len stp bnd lnk l.length)).length = 32) := hid (by rw [sealed_len, headHead_len])
  have hput := hid (fun W => rhput_any k idx len stp bnd lnk l.length lst W hk)
  generalize sealed (headHead k lst idx len stp bnd lnk l.length) = Z at *
  clear hk
  go_enter Try.func19, Try.ntmps19
  go_wp2_with fail
  generalize w.alloc (.cells #[.int .i64 (k : Int), .int .i64 (idx : Int), .int .i64 (len : Int), .int .i64 (stp : Int), .int .i64 (bnd : Int), .bool lst, .int .u32 (lnk : Int), .int .i64 (l.length : Int)] 24) = w0 at *
  have hlt0 : w.heap.size < w0.heap.size := (Array.getElem?_eq_some_iff.1 hrow).1
  refine (hrright_any k idx len stp bnd lst lnk (l.length : Int) _).mono ?_
  rintro e w1 ⟨rfl, hb1⟩
  rw [hr]
  have hbw1 := hb.trans (hb1.mono hb.size)
  have hrow1 := (hb1.block w.heap.size hlt0).trans hrow
  have c0 : w1.cell? ⟨w.heap.size, 0, none⟩ = some (.int .i64 (k : Int)) := by rw [cell_of_row _ _ _ _ _ _ hrow1]; rfl
  have c1 : w1.cell? ⟨w.heap.size, 1, none⟩ = some (.int .i64 (idx : Int)) := by rw [cell_of_row _ _ _ _ _ _ hrow1]; rfl
  have c2 : w1.cell? ⟨w.heap.size, 2, none⟩ = some (.int .i64 (len : Int)) := by rw [cell_of_row _ _ _ _ _ _ hrow1]; rfl
  have c3 : w1.cell? ⟨w.heap.size, 3, none⟩ = some (.int .i64 (stp : Int)) := by rw [cell_of_row _ _ _ _ _ _ hrow1]; rfl
  have c4 : w1.cell? ⟨w.heap.size, 4, none⟩ = some (.int .i64 (bnd : Int)) := by rw [cell_of_row _ _ _ _ _ _ hrow1]; rfl
  have c5 : w1.cell? ⟨w.heap.size, 5, none⟩ = some (.bool lst) := by rw [cell_of_row _ _ _ _ _ _ hrow1]; rfl
  have c6 : w1.cell? ⟨w.heap.size, 6, none⟩ = some (.int .u32 (lnk : Int)) := by rw [cell_of_row _ _ _ _ _ _ hrow1]; rfl
  have c7 : w1.cell? ⟨w.heap.size, 7, none⟩ = some (.int .i64 (l.length : Int)) := by rw [cell_of_row _ _ _ _ _ _ hrow1]; rfl
  clear hb hb1 hrow hrow1 hr
  go_wp2_with fail
  refine (hput.out w1).mono ?_
  rintro e w2 ⟨v, rfl, hv⟩
  obtain ⟨A2, c2', rfl, hs2, hA2, ho2, hb2⟩ := hv.parts
  have hbw2 := hbw1.trans (hb2.mono hbw1.size)
  have hl2 := hl.below hbw2
  have ho2' := Joins.ownsRow_le ho2 hbw1.size
  obtain ⟨Y, hY⟩ : ∃ Y, Y = Z ++ l := ⟨_, rfl⟩
  have HYl : Hid (Z.length + l.length = Y.length) := hid (by rw [hY, List.length_append])
  have HYv : Hid (Z.map byteV ++ l.map byteV = Y.map byteV) := hid (by rw [hY, List.map_append])
  have HYb : Hid (Y.length ≤ 16777300) := hid (by rw [← HYl.out, HLL.out]; omega)
  have HY := hid hY
  clear hY hv ho2 hA2 hs2 hb2 c0 c1 c2 c3 c4 c5 c6 c7
  go_wp2_with (at_builtin; refine wpList_app rfl (.tmp 19) (.tmp 20) _ rfl elB rfl ho2' A l.length c rfl _ hl2 (by simp) (byte_one _) Y.length HYl.out (Y.map byteV) HYv.out (by have := HYb.out; unfold maxLen; omega) (by have := HYb.out; omega) hbw2.size ?_; intro A3 c3 w3 hown hgr hat hbel)
  have hbw3 := hbw2.trans hbel
  have hs3 : SeesB w3 A3 Y := own_sees hown
  clear hgr hat hbel ho2' hl2
  have hsr := sumI_range Y
  obtain ⟨S, hS⟩ := Int.eq_ofNat_of_zero_le hsr.1
  refine (rsum_any A3 c3 Y w3 hs3 (Nat.le_trans HYb.out (by omega))).mono ?_
  rintro e w4 ⟨rfl, rfl⟩
  have HSE : Hid (sealed Y = Y ++ bytesLE S 4) := hid (by unfold sealed; rw [hS]; rfl)
  have HS := hid hS
  rw [hS] at hsr ⊢
  have hS4 : S < 4294967296 := by omega
  clear hS
  go_wp2_with fail
  refine (rbytes_any S 4 w3 (by omega) (by omega)).mono ?_
  rintro e w7 ⟨v, rfl, hv⟩
  obtain ⟨A7, c7, rfl, hs7, hA7, ho7, hb7⟩ := hv.parts
  have hbw7 := hbw3.trans (hb7.mono hbw3.size)
  have hown7 := own_but hown (But.of_below (R := fun _ => False) hb7) (fun _ _ h => h)
  obtain ⟨X, hX⟩ : ∃ X, X = Y ++ bytesLE S 4 := ⟨_, rfl⟩
  have HXl : Hid (Y.length + (bytesLE S 4).length = X.length) := hid (by rw [hX, List.length_append])
  have HXv : Hid (Y.map byteV ++ (bytesLE S 4).map byteV = X.map byteV) := hid (by rw [hX, List.map_append])
  have HXb : Hid (X.length ≤ 16777400) := hid (by have := HYb.out; rw [← HXl.out, bytesLE_length]; omega)
  have HX : Hid (sealed Y = X) := hid (by rw [HSE.out, hX])
  clear hX HSE hown hv ho7 hb7 hA7 hs3
  go_wp2_with (at_builtin; refine wpList_app rfl (.tmp 24) (.tmp 27) _ rfl elB rfl hown7 A7 (bytesLE S 4).length c7 rfl _ hs7 (by simp) (byte_one _) X.length HXl.out (X.map byteV) HXv.out (by have := HXb.out; unfold maxLen; omega) (by have := HXb.out; omega) hbw7.size ?_; intro A8 c8 w8 hown8 hgr8 hat8 hbel8)
  have hf : NewB w (sealed Y) (.slice A8 X.length c8) w8 := ⟨A8, c8, by rw [HX.out], by rw [HX.out]; exact hown8, hbw7.trans hbel8⟩
  refine bodyPost_ret (results_tmp3 rfl _ _ _) rfl ?_
  rw [← HY.out]
  exact ⟨_, by rw [HS.out]; rfl, hf⟩
end Go.Proofs.Ytffcebjamichdaa
