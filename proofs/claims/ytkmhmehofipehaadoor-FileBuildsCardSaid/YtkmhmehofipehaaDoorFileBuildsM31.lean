/- The reference's bytes of a tail. -/
import Derived.Test.YtkmhmehofipehaaDoorFileBuildsM26
import Derived.Test.YtkmhmehofipehaaDoorFileBuildsM29
import Derived.Test.YtkmhmehofipehaaDoorFileBuildsM10
namespace Go.Proofs.YtkmhmehofipehaaDoor
set_option linter.unusedVariables false
open Go.RowKit
set_option maxHeartbeats 4000000 in
theorem rtput_any (count sum : Nat) (A : Option Addr) (c : Nat) (l : List Int) (w : World) (hl : SeesI w A l) (hlen : l.length ≤ 16777216) (hc : count < 4294967296) (hs : sum < 4294967296) (hpl : ∀ (i : Nat) (h : i < l.length), 0 ≤ l[i] ∧ l[i] < 1099511627776) :
    Calls Tryd.prog 28 #[.agg #[.int .i64 (count : Int), .int .u32 (sum : Int), .slice A l.length c]] w (ClonePost w (sealed (tailHead count sum l))) := by
  have hb : Below w.heap.size w (w.alloc (.cells #[.int .i64 (count : Int), .int .u32 (sum : Int), .slice A l.length c] 43)) := (Below.refl _ w).alloc (Nat.le_refl _) _
  have hrow := heap_alloc_new w (.cells #[.int .i64 (count : Int), .int .u32 (sum : Int), .slice A l.length c] 43)
  have hsz0 : (w.alloc (.cells #[.int .i64 (count : Int), .int .u32 (sum : Int), .slice A l.length c] 43)).heap.size = w.heap.size + 1 := by simp
  go_enter Tryd.func28, Tryd.ntmps28
  go_wp2_with fail
  generalize w.alloc (.cells #[.int .i64 (count : Int), .int .u32 (sum : Int), .slice A l.length c] 43) = w0 at *
  have hlt0 : w.heap.size < w0.heap.size := by omega
  have hrow8 := heap_alloc_new w0 (.cells #[.int .u8 69, .int .u8 78] 5)
  have hb1 : Below w0.heap.size w0 (w0.alloc (.cells #[.int .u8 69, .int .u8 78] 5)) := (Below.refl _ w0).alloc (Nat.le_refl _) _
  generalize w0.alloc (.cells #[.int .u8 69, .int .u8 78] 5) = w1 at *
  rw [hsz0] at hrow8
  have ho1 : w1.ownsRow (w.heap.size + 1) 5 1 (.slice (some ⟨w.heap.size + 1, 0, none⟩) 2 2) 2 ((threeB count sum l.length 0).map byteV) :=
    ⟨rfl, .inr ⟨w.heap.size + 1, 2, _, rfl, Nat.le_refl _, hrow8, Nat.le_refl _, by unfold maxLen; omega, rfl, rfl⟩⟩
  have hbw1 := hb.trans (hb1.mono hb.size)
  have hrow1 := (hb1.block w.heap.size hlt0).trans hrow
  have hlt1 : w.heap.size < w1.heap.size := Nat.lt_of_lt_of_le hlt0 hb1.size
  clear hrow8 hb1 hb hrow hsz0
  refine (rbytes_any count 4 w1 (by omega) (by omega)).mono ?_
  rintro e w2x ⟨v, rfl, hv⟩
  obtain ⟨A2, c2, rfl, hs2, hA2, ho2x, hb2⟩ := hv.parts
  have hbw2x := hbw1.trans (hb2.mono hbw1.size)
  have hrow2x := (hb2.block w.heap.size hlt1).trans hrow1
  have hlt2x := Nat.lt_of_lt_of_le hlt1 hb2.size
  have hown2 := own_but ho1 (But.of_below (R := fun _ => False) hb2) (fun _ _ h => h)
  have HMl2 : Hid (2 + (bytesLE count 4).length = 6) := hid (by rw [bytesLE_length])
  have HMv2 : Hid ((threeB count sum l.length 0).map byteV ++ (bytesLE count 4).map byteV = (threeB count sum l.length 1).map byteV) := hid (by rw [← List.map_append]; congr 1)
  clear hv ho2x hb2 ho1 hrow1 hbw1
  go_wp2_with (at_builtin; refine wpList_app rfl (.tmp 5) (.tmp 9) _ rfl elB rfl hown2 A2 (bytesLE count 4).length c2 rfl _ hs2 (by simp) (byte_one _) 6 HMl2.out _ HMv2.out (by unfold maxLen; omega) (by omega) hlt2x ?_; intro B2 d2 w2 hnew2 hgr hat hbel; have hrow2 := (hbel.block w.heap.size (Nat.lt_succ_self _)).trans hrow2x; have e0 : w2.cell? ⟨w.heap.size, 0, none⟩ = some (.int .i64 (count : Int)) := (cell_of_row _ _ _ _ _ _ hrow2).trans rfl; have e1 : w2.cell? ⟨w.heap.size, 1, none⟩ = some (.int .u32 (sum : Int)) := (cell_of_row _ _ _ _ _ _ hrow2).trans rfl; have e2 : w2.cell? ⟨w.heap.size, 2, none⟩ = some (.slice A l.length c) := (cell_of_row _ _ _ _ _ _ hrow2).trans rfl)
  have hbw2 := hbw2x.trans (hbel.mono (Nat.le_succ _))
  have hlt2 := Nat.lt_of_lt_of_le hlt2x hbel.size
  clear hown2 hgr hat hs2 hA2 HMl2 HMv2 hbel hrow2x hbw2x e0 e1 e2
  refine (rbytes_any sum 4 w2 (by omega) (by omega)).mono ?_
  rintro e w3x ⟨v, rfl, hv⟩
  obtain ⟨A3, c3, rfl, hs3, hA3, ho3x, hb3⟩ := hv.parts
  have hbw3x := hbw2.trans (hb3.mono hbw2.size)
  have hrow3x := (hb3.block w.heap.size hlt2).trans hrow2
  have hlt3x := Nat.lt_of_lt_of_le hlt2 hb3.size
  have hown3 := own_but hnew2 (But.of_below (R := fun _ => False) hb3) (fun _ _ h => h)
  have HMl3 : Hid (6 + (bytesLE sum 4).length = 10) := hid (by rw [bytesLE_length])
  have HMv3 : Hid ((threeB count sum l.length 1).map byteV ++ (bytesLE sum 4).map byteV = (threeB count sum l.length 2).map byteV) := hid (by rw [← List.map_append]; congr 1)
  clear hv ho3x hb3 hnew2 hrow2 hbw2
  go_wp2_with (at_builtin; refine wpList_app rfl (.tmp 11) (.tmp 15) _ rfl elB rfl hown3 A3 (bytesLE sum 4).length c3 rfl _ hs3 (by simp) (byte_one _) 10 HMl3.out _ HMv3.out (by unfold maxLen; omega) (by omega) hlt3x ?_; intro B3 d3 w3 hnew3 hgr hat hbel; have hrow3 := (hbel.block w.heap.size (Nat.lt_succ_self _)).trans hrow3x; have e0 : w3.cell? ⟨w.heap.size, 0, none⟩ = some (.int .i64 (count : Int)) := (cell_of_row _ _ _ _ _ _ hrow3).trans rfl; have e1 : w3.cell? ⟨w.heap.size, 1, none⟩ = some (.int .u32 (sum : Int)) := (cell_of_row _ _ _ _ _ _ hrow3).trans rfl; have e2 : w3.cell? ⟨w.heap.size, 2, none⟩ = some (.slice A l.length c) := (cell_of_row _ _ _ _ _ _ hrow3).trans rfl)
  have hbw3 := hbw3x.trans (hbel.mono (Nat.le_succ _))
  have hlt3 := Nat.lt_of_lt_of_le hlt3x hbel.size
  clear hown3 hgr hat hs3 hA3 HMl3 HMv3 hbel hrow3x hbw3x e0 e1 e2
  refine (rbytes_any l.length 4 w3 (by omega) (by omega)).mono ?_
  rintro e w4x ⟨v, rfl, hv⟩
  obtain ⟨A4, c4, rfl, hs4, hA4, ho4x, hb4⟩ := hv.parts
  have hbw4x := hbw3.trans (hb4.mono hbw3.size)
  have hrow4x := (hb4.block w.heap.size hlt3).trans hrow3
  have hlt4x := Nat.lt_of_lt_of_le hlt3 hb4.size
  have hown4 := own_but hnew3 (But.of_below (R := fun _ => False) hb4) (fun _ _ h => h)
  have HMl4 : Hid (10 + (bytesLE l.length 4).length = 14) := hid (by rw [bytesLE_length])
  have HMv4 : Hid ((threeB count sum l.length 2).map byteV ++ (bytesLE l.length 4).map byteV = (threeB count sum l.length 3).map byteV) := hid (by rw [← List.map_append]; congr 1)
  clear hv ho4x hb4 hnew3 hrow3 hbw3
  go_wp2_with (at_builtin; refine wpList_app rfl (.tmp 17) (.tmp 22) _ rfl elB rfl hown4 A4 (bytesLE l.length 4).length c4 rfl _ hs4 (by simp) (byte_one _) 14 HMl4.out _ HMv4.out (by unfold maxLen; omega) (by omega) hlt4x ?_; intro B4 d4 w4 hnew4 hgr hat hbel; have hrow4 := (hbel.block w.heap.size (Nat.lt_succ_self _)).trans hrow4x; have e0 : w4.cell? ⟨w.heap.size, 0, none⟩ = some (.int .i64 (count : Int)) := (cell_of_row _ _ _ _ _ _ hrow4).trans rfl; have e1 : w4.cell? ⟨w.heap.size, 1, none⟩ = some (.int .u32 (sum : Int)) := (cell_of_row _ _ _ _ _ _ hrow4).trans rfl; have e2 : w4.cell? ⟨w.heap.size, 2, none⟩ = some (.slice A l.length c) := (cell_of_row _ _ _ _ _ _ hrow4).trans rfl)
  have hbw4 := hbw4x.trans (hbel.mono (Nat.le_succ _))
  have hlt4 := Nat.lt_of_lt_of_le hlt4x hbel.size
  clear hown4 hgr hat hs4 hA4 HMl4 HMv4 hbel hrow4x hbw4x e0 e1 e2
  go_loopw [3, 4] (fun x i wr => ∃ n N : Nat, n ≤ l.length ∧ i = .int .i64 n ∧ N = 14 + 5 * n ∧ wr.ownsRow (w.heap.size + 1) 5 1 x N ((threeB count sum l.length 3 ++ placesB (l.take n)).map byteV) ∧ Below w.heap.size w wr ∧ w.heap.size < wr.heap.size ∧ wr.heap[w.heap.size]? = some (.cells #[.int .i64 (count : Int), .int .u32 (sum : Int), .slice A l.length c] 43 (0, 0))) (fun _ i _ => l.length - (intOf i).toNat)
  case atStart => exact ⟨0, 14, by omega, rfl, rfl, by simpa [placesB] using hnew4, hbw4, hlt4, hrow4⟩
  case round =>
    clear hnew4 hbw4 hlt4 hrow4
    obtain ⟨n, N, hn, rfl, hN, hown, hbw, hlt', hrow⟩ := hrel
    have HN := hid hN
    clear hN
    have e2 : wr.cell? ⟨w.heap.size, 2, none⟩ = some (.slice A l.length c) := (cell_of_row _ _ _ _ _ _ hrow).trans rfl
    by_cases hlt : n < l.length
    · have hd : decide (n < l.length) = true := by simpa using hlt
      obtain ⟨a, rfl, ca⟩ := (hl.below hbw).at hlt
      have hpp := hpl n hlt
      obtain ⟨p, hp⟩ := Int.eq_ofNat_of_zero_le hpp.1
      have hps := placesB_step l n hlt
      rw [hp] at ca hpp hps
      rw [Int.toNat_natCast] at hps
      have HPS := hid hps
      clear hps hp
      go_wp2_with fail
      refine (rbytes_any p 5 wr (by omega) (by omega)).mono ?_
      rintro e wx ⟨v, rfl, hv⟩
      obtain ⟨A6, c6, rfl, hs6, hA6, ho6, hb6⟩ := hv.parts
      have hbwx := hbw.trans (hb6.mono hbw.size)
      have hrowx := (hb6.block w.heap.size hlt').trans hrow
      have hltx := Nat.lt_of_lt_of_le hlt' hb6.size
      have hownx := own_but hown (But.of_below (R := fun _ => False) hb6) (fun _ _ h => h)
      obtain ⟨N2, hN2⟩ : ∃ N2, N2 = N + 5 := ⟨_, rfl⟩
      have HMl : Hid (N + (bytesLE p 5).length = N2) := hid (by rw [bytesLE_length, hN2])
      have HMv : Hid ((threeB count sum l.length 3 ++ placesB (l.take n)).map byteV ++ (bytesLE p 5).map byteV = (threeB count sum l.length 3 ++ placesB (l.take (n + 1))).map byteV) := hid (by rw [← List.map_append, HPS.out, List.append_assoc])
      have HN2 := hid hN2
      clear hv ho6 hb6 hown hrow hbw e2 hN2
      go_wp2_with (at_builtin; refine wpList_app rfl (.tmp 31) (.tmp 38) _ rfl elB rfl hownx A6 (bytesLE p 5).length c6 rfl _ hs6 (by simp) (byte_one _) N2 HMl.out _ HMv.out (by rw [HN2.out, HN.out]; unfold maxLen; omega) (by rw [HN2.out, HN.out]; omega) hltx ?_; intro B6 d6 w6 hnew hgr hat hbel)
      exact ⟨⟨n + 1, N2, hlt, by go_num, by rw [HN2.out, HN.out]; omega, hnew, hbwx.trans (hbel.mono (Nat.le_succ _)), Nat.lt_of_lt_of_le hltx hbel.size, (hbel.block w.heap.size (Nat.lt_succ_self _)).trans hrowx⟩, by simp [intOf]; omega⟩
    · obtain rfl : n = l.length := by omega
      have hd : decide (l.length < l.length) = false := by simp
      obtain ⟨L, hL⟩ : ∃ L, L = tailHead count sum l := ⟨_, rfl⟩
      rw [List.take_length, show threeB count sum l.length 3 ++ placesB l = tailHead count sum l from rfl, ← hL] at hown
      have HLl : Hid (L.length = 14 + 5 * l.length) := hid (by rw [hL]; exact tailHead_len count sum l)
      have HL := hid hL
      obtain ⟨A5, c5, hx5, hs5, hA5⟩ := own_form hown
      subst hx5
      have hNL : N = L.length := by rw [HLl.out]; exact HN.out
      clear hL
      subst hNL
      have hsB : SeesB wr A5 L := hs5
      go_wp2_with fail
      have hsr := sumI_range L
      obtain ⟨S, hS⟩ := Int.eq_ofNat_of_zero_le hsr.1
      refine (rsum_any A5 c5 L wr hsB (by rw [HLl.out]; omega)).mono ?_
      rintro e w6 ⟨rfl, rfl⟩
      have HSE : Hid (sealed (tailHead count sum l) = L ++ bytesLE S 4) := hid (by rw [← HL.out]; unfold sealed; rw [hS]; rfl)
      rw [hS] at hsr ⊢
      have hS4 : S < 4294967296 := by omega
      clear hS
      go_wp2_with fail
      refine (rbytes_any S 4 wr (by omega) (by omega)).mono ?_
      rintro e w7 ⟨v, rfl, hv⟩
      obtain ⟨A7, c7, rfl, hs7, hA7, ho7, hb7⟩ := hv.parts
      have hbw7 := hbw.trans (hb7.mono hbw.size)
      have hlt7 := Nat.lt_of_lt_of_le hlt' hb7.size
      have hown7 := own_but hown (But.of_below (R := fun _ => False) hb7) (fun _ _ h => h)
      obtain ⟨Z, hZ⟩ : ∃ Z, Z = L ++ bytesLE S 4 := ⟨_, rfl⟩
      have HZl : Hid (L.length + (bytesLE S 4).length = Z.length) := hid (by rw [hZ, List.length_append])
      have HZv : Hid (L.map byteV ++ (bytesLE S 4).map byteV = Z.map byteV) := hid (by rw [hZ, List.map_append])
      have HZ19 : Hid (Z.length = 18 + 5 * l.length) := hid (by rw [← HZl.out, HLl.out, bytesLE_length]; omega)
      have HZ : Hid (sealed (tailHead count sum l) = Z) := hid (by rw [HSE.out, hZ])
      clear hZ HSE hown hv ho7 hb7 hA7 HL hs5 hA5 hsB
      go_wp2_with (at_builtin; refine wpList_app rfl (.tmp 40) (.tmp 44) _ rfl elB rfl hown7 A7 (bytesLE S 4).length c7 rfl _ hs7 (by simp) (byte_one _) Z.length HZl.out (Z.map byteV) HZv.out (by rw [HZ19.out]; unfold maxLen; omega) (by rw [HZ19.out]; omega) hlt7 ?_; intro A8 c8 w8 hown8 hgr8 hat8 hbel8)
      have hf : ClonePost w (sealed (tailHead count sum l)) (.returned (.slice A8 Z.length c8)) w8 := ⟨_, rfl, A8, c8, by rw [HZ.out], by rw [HZ.out]; exact Joins.ownsRow_le hown8 (Nat.le_succ _), hbw7.trans (hbel8.mono (Nat.le_succ _))⟩
      go_ret
      exact hf
end Go.Proofs.YtkmhmehofipehaaDoor
