/- A head's bytes, by the reference. -/
import Derived.Test.YtkmhmehofipehaaDoorK16
import Derived.Test.YtkmhmehofipehaaDoorK6
import Derived.Test.YtkmhmehofipehaaDoorK24
import Derived.Test.YtkmhmehofipehaaDoorK5
import Derived.Test.YtkmhmehofipehaaDoorK3
import Derived.Lib.SmallJoins
import Derived.Deep.DeepCutAuto
import Derived.Test.YtkmhmehofipehaaDoorK1
import Derived.Test.YtkmhmehofipehaaDoorK2
import Derived.Deep.RegionHeld3
import Derived.Test.YtkmhmehofipehaaDoorK11
import Derived.Test.YtkmhmehofipehaaDoorK12
namespace Go.Proofs.YtkmhmehofipehaaDoor
set_option linter.unusedVariables false
open Go.RowKit
def sixN (idx len stp bnd lnk siz : Nat) : List Nat := [idx, len, stp, bnd, lnk, siz]
theorem sixB_step (k : Nat) (lst : Bool) (idx len stp bnd lnk siz n : Nat) (h : n < (sixN idx len stp bnd lnk siz).length) : sixB k lst idx len stp bnd lnk siz (n + 1) = sixB k lst idx len stp bnd lnk siz n ++ bytesLE (sixN idx len stp bnd lnk siz)[n] 4 := by
  show headFour k lst ++ ((sixN idx len stp bnd lnk siz).take (n + 1)).flatMap _ = (headFour k lst ++ ((sixN idx len stp bnd lnk siz).take n).flatMap _) ++ _
  rw [List.take_succ_eq_append_getElem h, List.flatMap_append]
  simp
theorem sixB_len (k : Nat) (lst : Bool) (idx len stp bnd lnk siz n : Nat) (h : n ≤ 6) : (sixB k lst idx len stp bnd lnk siz n).length = 4 + 4 * n := by
  have : n = 0 ∨ n = 1 ∨ n = 2 ∨ n = 3 ∨ n = 4 ∨ n = 5 ∨ n = 6 := by omega
  rcases this with rfl | rfl | rfl | rfl | rfl | rfl | rfl <;> simp [sixB, headFour, bytesLE_length]
set_option maxHeartbeats 4000000 in
theorem rhput_false (k idx len stp bnd lnk siz : Nat) (w : World) (hk : k < 256 ∧ idx < 4294967296 ∧ len < 4294967296 ∧ stp < 4294967296 ∧ bnd < 4294967296 ∧ lnk < 4294967296 ∧ siz < 4294967296) :
    Calls Tryd.prog 34 #[.agg #[.int .i64 (k : Int), .int .i64 (idx : Int), .int .i64 (len : Int), .int .i64 (stp : Int), .int .i64 (bnd : Int), .bool false, .int .u32 (lnk : Int), .int .i64 (siz : Int)]] w (ClonePost w (sealed (headHead k false idx len stp bnd lnk siz))) := by
  have hsix : ∀ x ∈ sixN idx len stp bnd lnk siz, x < 4294967296 := by
    obtain ⟨_, h1, h2, h3, h4, h5, h6⟩ := hk
    intro x hx
    simp only [sixN, List.mem_cons, List.not_mem_nil, or_false] at hx
    omega
  have hk0 := hk.1
  have hk5 := hk.2.2.2.2.2.1
  clear hk
  have hb : Below w.heap.size w (w.alloc (.cells #[.int .i64 (k : Int), .int .i64 (idx : Int), .int .i64 (len : Int), .int .i64 (stp : Int), .int .i64 (bnd : Int), .bool false, .int .u32 (lnk : Int), .int .i64 (siz : Int)] 52)) := (Below.refl _ w).alloc (Nat.le_refl _) _
  have hrow := heap_alloc_new w (.cells #[.int .i64 (k : Int), .int .i64 (idx : Int), .int .i64 (len : Int), .int .i64 (stp : Int), .int .i64 (bnd : Int), .bool false, .int .u32 (lnk : Int), .int .i64 (siz : Int)] 52)
  have hsz0 : (w.alloc (.cells #[.int .i64 (k : Int), .int .i64 (idx : Int), .int .i64 (len : Int), .int .i64 (stp : Int), .int .i64 (bnd : Int), .bool false, .int .u32 (lnk : Int), .int .i64 (siz : Int)] 52)).heap.size = w.heap.size + 1 := by simp
  go_enter Tryd.func34, Tryd.ntmps34
  go_upto_region 4 with (fail)
  generalize w.alloc (.cells #[.int .i64 (k : Int), .int .i64 (idx : Int), .int .i64 (len : Int), .int .i64 (stp : Int), .int .i64 (bnd : Int), .bool false, .int .u32 (lnk : Int), .int .i64 (siz : Int)] 52) = w0 at *
  have hlt0 : w.heap.size < w0.heap.size := by omega
  have hlb0 : w.heap.size + 1 ≤ w0.heap.size := by omega
  clear hsz0
  have c0 : w0.cell? ⟨w.heap.size, 0, none⟩ = some (.int .i64 (k : Int)) := by rw [cell_of_row _ _ _ _ _ _ hrow]; rfl
  have hrow8 := heap_alloc_new w0 (.cells #[.int .u8 222, .int .u8 92, .int .u8 (k : Int), .int .u8 0] 5)
  have hb1 : Below w0.heap.size w0 (w0.alloc (.cells #[.int .u8 222, .int .u8 92, .int .u8 (k : Int), .int .u8 0] 5)) := (Below.refl _ w0).alloc (Nat.le_refl _) _
  have ho1 : (w0.alloc (.cells #[.int .u8 222, .int .u8 92, .int .u8 (k : Int), .int .u8 0] 5)).ownsRow (w.heap.size + 1) 5 1 (.slice (some ⟨w0.heap.size, 0, none⟩) 4 4) 4 ((sixB k false idx len stp bnd lnk siz 0).map byteV) :=
    ⟨rfl, .inr ⟨w0.heap.size, 4, _, rfl, hlb0, hrow8, Nat.le_refl _, by unfold maxLen; omega, rfl, by simp only [sixB, headFour, List.take_zero, List.flatMap_nil, List.append_nil, List.map_cons, List.map_nil, byteV_natH _ hk0]; rfl⟩⟩
  have hbw1 := hb.trans (hb1.mono hb.size)
  have hrow1 := (hb1.block w.heap.size hlt0).trans hrow
  have hlt1 : w.heap.size < (w0.alloc (.cells #[.int .u8 222, .int .u8 92, .int .u8 (k : Int), .int .u8 0] 5)).heap.size := Nat.lt_of_lt_of_le hlt0 hb1.size
  have hlw1 : w0.heap.size < (w0.alloc (.cells #[.int .u8 222, .int .u8 92, .int .u8 (k : Int), .int .u8 0] 5)).heap.size := (Array.getElem?_eq_some_iff.1 hrow8).1
  go_upto_region 5 with (fail)
  clear hrow8 hb1 hb hrow c0
  generalize w0.alloc (.cells #[.int .u8 222, .int .u8 92, .int .u8 (k : Int), .int .u8 0] 5) = w1 at *
  have c1 : w1.cell? ⟨w.heap.size, 1, none⟩ = some (.int .i64 (idx : Int)) := by rw [cell_of_row _ _ _ _ _ _ hrow1]; rfl
  have c2 : w1.cell? ⟨w.heap.size, 2, none⟩ = some (.int .i64 (len : Int)) := by rw [cell_of_row _ _ _ _ _ _ hrow1]; rfl
  have c3 : w1.cell? ⟨w.heap.size, 3, none⟩ = some (.int .i64 (stp : Int)) := by rw [cell_of_row _ _ _ _ _ _ hrow1]; rfl
  have c4 : w1.cell? ⟨w.heap.size, 4, none⟩ = some (.int .i64 (bnd : Int)) := by rw [cell_of_row _ _ _ _ _ _ hrow1]; rfl
  have c6 : w1.cell? ⟨w.heap.size, 6, none⟩ = some (.int .u32 (lnk : Int)) := by rw [cell_of_row _ _ _ _ _ _ hrow1]; rfl
  have c7 : w1.cell? ⟨w.heap.size, 7, none⟩ = some (.int .i64 (siz : Int)) := by rw [cell_of_row _ _ _ _ _ _ hrow1]; rfl
  have hb2 : Below w1.heap.size w1 (w1.alloc (.cells #[.int .i64 (idx : Int), .int .i64 (len : Int), .int .i64 (stp : Int), .int .i64 (bnd : Int), .int .i64 (lnk : Int), .int .i64 (siz : Int)] 3)) := (Below.refl _ w1).alloc (Nat.le_refl _) _
  have hsI : SeesI (w1.alloc (.cells #[.int .i64 (idx : Int), .int .i64 (len : Int), .int .i64 (stp : Int), .int .i64 (bnd : Int), .int .i64 (lnk : Int), .int .i64 (siz : Int)] 3)) (some ⟨w1.heap.size, 0, none⟩) ((sixN idx len stp bnd lnk siz).map fun (x : Nat) => (x : Int)) := Sees.of_block (heap_alloc_new w1 _) rfl
  have ho2 := own_but ho1 (But.of_below (R := fun _ => False) hb2) (fun _ _ h => h)
  have hbw2 := hbw1.trans (hb2.mono hbw1.size)
  have hlt2 : w.heap.size < (w1.alloc (.cells #[.int .i64 (idx : Int), .int .i64 (len : Int), .int .i64 (stp : Int), .int .i64 (bnd : Int), .int .i64 (lnk : Int), .int .i64 (siz : Int)] 3)).heap.size := Nat.lt_of_lt_of_le hlt1 hb2.size
  have hlw2 : w1.heap.size < (w1.alloc (.cells #[.int .i64 (idx : Int), .int .i64 (len : Int), .int .i64 (stp : Int), .int .i64 (bnd : Int), .int .i64 (lnk : Int), .int .i64 (siz : Int)] 3)).heap.size := by simp
  go_wp2_with fail
  clear hb2 ho1 hbw1 hrow1 c1 c2 c3 c4 c6 c7
  generalize w1.alloc (.cells #[.int .i64 (idx : Int), .int .i64 (len : Int), .int .i64 (stp : Int), .int .i64 (bnd : Int), .int .i64 (lnk : Int), .int .i64 (siz : Int)] 3) = w2 at *
  have hno2 : ∀ g, (Value.slice (some ⟨w0.heap.size, 0, none⟩) 4 4).ownBlock = some g → g ≠ w1.heap.size := fun g hg => by
    have : w0.heap.size = g := by simpa [Value.ownBlock] using hg
    omega
  generalize hAI : (⟨w1.heap.size, 0, none⟩ : Addr) = aI at *
  have hblk : aI.block = w1.heap.size := by rw [← hAI]
  clear hAI
  go_loopw [4, 6] (fun x i wr => ∃ n N : Nat, n ≤ 6 ∧ i = .int .i64 n ∧ N = 4 + 4 * n ∧ wr.ownsRow (w.heap.size + 1) 5 1 x N ((sixB k false idx len stp bnd lnk siz n).map byteV) ∧ (∀ g, x.ownBlock = some g → g ≠ w1.heap.size) ∧ Below w.heap.size w wr ∧ w.heap.size < wr.heap.size ∧ w1.heap.size < wr.heap.size ∧ SeesI wr (some aI) ((sixN idx len stp bnd lnk siz).map fun (x : Nat) => (x : Int))) (fun _ i _ => 6 - (intOf i).toNat)
  case atStart => exact ⟨0, 4, by omega, rfl, rfl, ho2, hno2, hbw2, hlt2, hlw2, hsI⟩
  case round =>
    clear ho2 hbw2 hlt2 hlw2 hsI hno2
    obtain ⟨n, N, hn, rfl, hN, hown, hno, hbw, hlt', hlw', hsI⟩ := hrel
    have HN := hid hN
    clear hN
    by_cases hlt : n < 6
    · have hd : decide ((n : Int) < 6) = true := by simp; omega
      have hl6 : n < (sixN idx len stp bnd lnk siz).length := hlt
      have hca := hsI.at (i := n) (by simpa using hl6)
      obtain ⟨a, ha, ca⟩ := hca
      injection ha with ha
      subst ha
      rw [List.getElem_map] at ca
      have hp := hsix _ (List.getElem_mem hl6)
      have HPS := hid (sixB_step k false idx len stp bnd lnk siz n hl6)
      generalize (sixN idx len stp bnd lnk siz)[n] = p at *
      have f6 : (n : Int) < 6 := by omega
      go_wp2_with fail
      refine (rbytes_any p 4 wr (by omega) (by omega)).mono ?_
      rintro e wx ⟨v, rfl, hv⟩
      obtain ⟨A6, c6, rfl, hs6, hA6, ho6, hb6⟩ := hv.parts
      have hbwx := hbw.trans (hb6.mono hbw.size)
      have hltx := Nat.lt_of_lt_of_le hlt' hb6.size
      have hlwx := Nat.lt_of_lt_of_le hlw' hb6.size
      have hsIx := hsI.below hb6
      have hownx := own_but hown (But.of_below (R := fun _ => False) hb6) (fun _ _ h => h)
      obtain ⟨N2, hN2⟩ : ∃ N2, N2 = N + 4 := ⟨_, rfl⟩
      have HMl : Hid (N + (bytesLE p 4).length = N2) := hid (by rw [bytesLE_length, hN2])
      have HMv : Hid ((sixB k false idx len stp bnd lnk siz n).map byteV ++ (bytesLE p 4).map byteV = (sixB k false idx len stp bnd lnk siz (n + 1)).map byteV) := hid (by rw [← List.map_append, HPS.out])
      have HN2 := hid hN2
      clear hv ho6 hb6 hown hbw hN2 hsI ca hlt' hlw'
      go_wp2_with (at_builtin; refine wpList_app rfl (.tmp 34) (.tmp 40) _ rfl elB rfl hownx A6 (bytesLE p 4).length c6 rfl _ hs6 (by simp) (byte_one _) N2 HMl.out _ HMv.out (by rw [HN2.out, HN.out]; unfold maxLen; omega) (by rw [HN2.out, HN.out]; omega) hltx ?_; intro B6 d6 w6 hnew hgr hat hbel)
      refine ⟨⟨n + 1, N2, by omega, by go_num, by rw [HN2.out, HN.out]; omega, hnew, fun g hg => ?_, hbwx.trans (hbel.mono (Nat.le_succ _)), Nat.lt_of_lt_of_le hltx hbel.size, Nat.lt_of_lt_of_le hlwx hbel.size, Sees.grown hsIx hgr (fun a ha hh => ?_)⟩, by simp [intOf]; omega⟩
      · rcases hat with h | h
        · exact hno g (h.symm.trans hg)
        · rw [h] at hg
          injection hg with hg
          omega
      · injection ha with ha
        subst ha
        exact hno _ hh.symm hblk
    · have hn6 : n = 6 := by omega
      have hd : decide ((n : Int) < 6) = false := by simp; omega
      obtain ⟨L, hL⟩ : ∃ L, L = headHead k false idx len stp bnd lnk siz := ⟨_, rfl⟩
      rw [hn6, show sixB k false idx len stp bnd lnk siz 6 = headHead k false idx len stp bnd lnk siz from rfl, ← hL] at hown
      have HLl : Hid (L.length = 28) := hid (by rw [hL]; exact headHead_len _ _ _ _ _ _ _ _)
      have HL := hid hL
      obtain ⟨A5, c5', hx5, hs5, hA5⟩ := own_form hown
      subst hx5
      have hNL : N = L.length := by rw [HLl.out, HN.out, hn6]
      have HN6 := hid hn6
      clear hL hn6
      subst hNL
      have hsB : SeesB wr A5 L := hs5
      go_wp2_with fail
      have hsr := sumI_range L
      obtain ⟨S, hS⟩ := Int.eq_ofNat_of_zero_le hsr.1
      refine (rsum_any A5 c5' L wr hsB (by rw [HLl.out]; omega)).mono ?_
      rintro e w6 ⟨rfl, rfl⟩
      have HSE : Hid (sealed (headHead k false idx len stp bnd lnk siz) = L ++ bytesLE S 4) := hid (by rw [← HL.out]; unfold sealed; rw [hS]; rfl)
      rw [hS] at hsr ⊢
      have hS4 : S < 4294967296 := by omega
      clear hS
      go_wp2_with fail
      refine (rbytes_any S 4 wr (by omega) (by omega)).mono ?_
      rintro e w7 ⟨v, rfl, hv⟩
      obtain ⟨A7, c7, rfl, hs7, hA7, ho7, hb7⟩ := hv.parts
      have hbw7 := hbw.trans (hb7.mono hbw.size)
      have hlt7 := Nat.lt_of_lt_of_le hlt' hb7.size
      have hown7 := own_but hown (But.of_below (R := fun _ => False) hb7) (fun _ _ h => h)
      obtain ⟨Z, hZ⟩ : ∃ Z, Z = L ++ bytesLE S 4 := ⟨_, rfl⟩
      have HZl : Hid (L.length + (bytesLE S 4).length = Z.length) := hid (by rw [hZ, List.length_append])
      have HZv : Hid (L.map byteV ++ (bytesLE S 4).map byteV = Z.map byteV) := hid (by rw [hZ, List.map_append])
      have HZ19 : Hid (Z.length = 32) := hid (by rw [← HZl.out, HLl.out, bytesLE_length])
      have HZ : Hid (sealed (headHead k false idx len stp bnd lnk siz) = Z) := hid (by rw [HSE.out, hZ])
      clear hZ HSE hown hv ho7 hb7 hA7 HL hs5 hA5 hsB hsI hno
      go_wp2_with (at_builtin; refine wpList_app rfl (.tmp 42) (.tmp 46) _ rfl elB rfl hown7 A7 (bytesLE S 4).length c7 rfl _ hs7 (by simp) (byte_one _) Z.length HZl.out (Z.map byteV) HZv.out (by rw [HZ19.out]; unfold maxLen; omega) (by rw [HZ19.out]; omega) hlt7 ?_; intro A8 c8 w8 hown8 hgr8 hat8 hbel8)
      have hf : ClonePost w (sealed (headHead k false idx len stp bnd lnk siz)) (.returned (.slice A8 Z.length c8)) w8 := ⟨_, rfl, A8, c8, by rw [HZ.out], by rw [HZ.out]; exact Joins.ownsRow_le hown8 (Nat.le_succ _), hbw7.trans (hbel8.mono (Nat.le_succ _))⟩
      go_ret
      exact hf
set_option maxHeartbeats 4000000 in
theorem rhput_true (k idx len stp bnd lnk siz : Nat) (w : World) (hk : k < 256 ∧ idx < 4294967296 ∧ len < 4294967296 ∧ stp < 4294967296 ∧ bnd < 4294967296 ∧ lnk < 4294967296 ∧ siz < 4294967296) :
    Calls Tryd.prog 34 #[.agg #[.int .i64 (k : Int), .int .i64 (idx : Int), .int .i64 (len : Int), .int .i64 (stp : Int), .int .i64 (bnd : Int), .bool true, .int .u32 (lnk : Int), .int .i64 (siz : Int)]] w (ClonePost w (sealed (headHead k true idx len stp bnd lnk siz))) := by
  have hsix : ∀ x ∈ sixN idx len stp bnd lnk siz, x < 4294967296 := by
    obtain ⟨_, h1, h2, h3, h4, h5, h6⟩ := hk
    intro x hx
    simp only [sixN, List.mem_cons, List.not_mem_nil, or_false] at hx
    omega
  have hk0 := hk.1
  have hk5 := hk.2.2.2.2.2.1
  clear hk
  have hb : Below w.heap.size w (w.alloc (.cells #[.int .i64 (k : Int), .int .i64 (idx : Int), .int .i64 (len : Int), .int .i64 (stp : Int), .int .i64 (bnd : Int), .bool true, .int .u32 (lnk : Int), .int .i64 (siz : Int)] 52)) := (Below.refl _ w).alloc (Nat.le_refl _) _
  have hrow := heap_alloc_new w (.cells #[.int .i64 (k : Int), .int .i64 (idx : Int), .int .i64 (len : Int), .int .i64 (stp : Int), .int .i64 (bnd : Int), .bool true, .int .u32 (lnk : Int), .int .i64 (siz : Int)] 52)
  have hsz0 : (w.alloc (.cells #[.int .i64 (k : Int), .int .i64 (idx : Int), .int .i64 (len : Int), .int .i64 (stp : Int), .int .i64 (bnd : Int), .bool true, .int .u32 (lnk : Int), .int .i64 (siz : Int)] 52)).heap.size = w.heap.size + 1 := by simp
  go_enter Tryd.func34, Tryd.ntmps34
  go_upto_region 4 with (fail)
  generalize w.alloc (.cells #[.int .i64 (k : Int), .int .i64 (idx : Int), .int .i64 (len : Int), .int .i64 (stp : Int), .int .i64 (bnd : Int), .bool true, .int .u32 (lnk : Int), .int .i64 (siz : Int)] 52) = w0 at *
  have hlt0 : w.heap.size < w0.heap.size := by omega
  have hlb0 : w.heap.size + 1 ≤ w0.heap.size := by omega
  clear hsz0
  have c0 : w0.cell? ⟨w.heap.size, 0, none⟩ = some (.int .i64 (k : Int)) := by rw [cell_of_row _ _ _ _ _ _ hrow]; rfl
  have hrow8 := heap_alloc_new w0 (.cells #[.int .u8 222, .int .u8 92, .int .u8 (k : Int), .int .u8 1] 5)
  have hb1 : Below w0.heap.size w0 (w0.alloc (.cells #[.int .u8 222, .int .u8 92, .int .u8 (k : Int), .int .u8 1] 5)) := (Below.refl _ w0).alloc (Nat.le_refl _) _
  have ho1 : (w0.alloc (.cells #[.int .u8 222, .int .u8 92, .int .u8 (k : Int), .int .u8 1] 5)).ownsRow (w.heap.size + 1) 5 1 (.slice (some ⟨w0.heap.size, 0, none⟩) 4 4) 4 ((sixB k true idx len stp bnd lnk siz 0).map byteV) :=
    ⟨rfl, .inr ⟨w0.heap.size, 4, _, rfl, hlb0, hrow8, Nat.le_refl _, by unfold maxLen; omega, rfl, by simp only [sixB, headFour, List.take_zero, List.flatMap_nil, List.append_nil, List.map_cons, List.map_nil, byteV_natH _ hk0]; rfl⟩⟩
  have hbw1 := hb.trans (hb1.mono hb.size)
  have hrow1 := (hb1.block w.heap.size hlt0).trans hrow
  have hlt1 : w.heap.size < (w0.alloc (.cells #[.int .u8 222, .int .u8 92, .int .u8 (k : Int), .int .u8 1] 5)).heap.size := Nat.lt_of_lt_of_le hlt0 hb1.size
  have hlw1 : w0.heap.size < (w0.alloc (.cells #[.int .u8 222, .int .u8 92, .int .u8 (k : Int), .int .u8 1] 5)).heap.size := (Array.getElem?_eq_some_iff.1 hrow8).1
  go_upto_region 5 with (fail)
  clear hrow8 hb1 hb hrow c0
  generalize w0.alloc (.cells #[.int .u8 222, .int .u8 92, .int .u8 (k : Int), .int .u8 1] 5) = w1 at *
  have c1 : w1.cell? ⟨w.heap.size, 1, none⟩ = some (.int .i64 (idx : Int)) := by rw [cell_of_row _ _ _ _ _ _ hrow1]; rfl
  have c2 : w1.cell? ⟨w.heap.size, 2, none⟩ = some (.int .i64 (len : Int)) := by rw [cell_of_row _ _ _ _ _ _ hrow1]; rfl
  have c3 : w1.cell? ⟨w.heap.size, 3, none⟩ = some (.int .i64 (stp : Int)) := by rw [cell_of_row _ _ _ _ _ _ hrow1]; rfl
  have c4 : w1.cell? ⟨w.heap.size, 4, none⟩ = some (.int .i64 (bnd : Int)) := by rw [cell_of_row _ _ _ _ _ _ hrow1]; rfl
  have c6 : w1.cell? ⟨w.heap.size, 6, none⟩ = some (.int .u32 (lnk : Int)) := by rw [cell_of_row _ _ _ _ _ _ hrow1]; rfl
  have c7 : w1.cell? ⟨w.heap.size, 7, none⟩ = some (.int .i64 (siz : Int)) := by rw [cell_of_row _ _ _ _ _ _ hrow1]; rfl
  have hb2 : Below w1.heap.size w1 (w1.alloc (.cells #[.int .i64 (idx : Int), .int .i64 (len : Int), .int .i64 (stp : Int), .int .i64 (bnd : Int), .int .i64 (lnk : Int), .int .i64 (siz : Int)] 3)) := (Below.refl _ w1).alloc (Nat.le_refl _) _
  have hsI : SeesI (w1.alloc (.cells #[.int .i64 (idx : Int), .int .i64 (len : Int), .int .i64 (stp : Int), .int .i64 (bnd : Int), .int .i64 (lnk : Int), .int .i64 (siz : Int)] 3)) (some ⟨w1.heap.size, 0, none⟩) ((sixN idx len stp bnd lnk siz).map fun (x : Nat) => (x : Int)) := Sees.of_block (heap_alloc_new w1 _) rfl
  have ho2 := own_but ho1 (But.of_below (R := fun _ => False) hb2) (fun _ _ h => h)
  have hbw2 := hbw1.trans (hb2.mono hbw1.size)
  have hlt2 : w.heap.size < (w1.alloc (.cells #[.int .i64 (idx : Int), .int .i64 (len : Int), .int .i64 (stp : Int), .int .i64 (bnd : Int), .int .i64 (lnk : Int), .int .i64 (siz : Int)] 3)).heap.size := Nat.lt_of_lt_of_le hlt1 hb2.size
  have hlw2 : w1.heap.size < (w1.alloc (.cells #[.int .i64 (idx : Int), .int .i64 (len : Int), .int .i64 (stp : Int), .int .i64 (bnd : Int), .int .i64 (lnk : Int), .int .i64 (siz : Int)] 3)).heap.size := by simp
  go_wp2_with fail
  clear hb2 ho1 hbw1 hrow1 c1 c2 c3 c4 c6 c7
  generalize w1.alloc (.cells #[.int .i64 (idx : Int), .int .i64 (len : Int), .int .i64 (stp : Int), .int .i64 (bnd : Int), .int .i64 (lnk : Int), .int .i64 (siz : Int)] 3) = w2 at *
  have hno2 : ∀ g, (Value.slice (some ⟨w0.heap.size, 0, none⟩) 4 4).ownBlock = some g → g ≠ w1.heap.size := fun g hg => by
    have : w0.heap.size = g := by simpa [Value.ownBlock] using hg
    omega
  generalize hAI : (⟨w1.heap.size, 0, none⟩ : Addr) = aI at *
  have hblk : aI.block = w1.heap.size := by rw [← hAI]
  clear hAI
  go_loopw [4, 6] (fun x i wr => ∃ n N : Nat, n ≤ 6 ∧ i = .int .i64 n ∧ N = 4 + 4 * n ∧ wr.ownsRow (w.heap.size + 1) 5 1 x N ((sixB k true idx len stp bnd lnk siz n).map byteV) ∧ (∀ g, x.ownBlock = some g → g ≠ w1.heap.size) ∧ Below w.heap.size w wr ∧ w.heap.size < wr.heap.size ∧ w1.heap.size < wr.heap.size ∧ SeesI wr (some aI) ((sixN idx len stp bnd lnk siz).map fun (x : Nat) => (x : Int))) (fun _ i _ => 6 - (intOf i).toNat)
  case atStart => exact ⟨0, 4, by omega, rfl, rfl, ho2, hno2, hbw2, hlt2, hlw2, hsI⟩
  case round =>
    clear ho2 hbw2 hlt2 hlw2 hsI hno2
    obtain ⟨n, N, hn, rfl, hN, hown, hno, hbw, hlt', hlw', hsI⟩ := hrel
    have HN := hid hN
    clear hN
    by_cases hlt : n < 6
    · have hd : decide ((n : Int) < 6) = true := by simp; omega
      have hl6 : n < (sixN idx len stp bnd lnk siz).length := hlt
      have hca := hsI.at (i := n) (by simpa using hl6)
      obtain ⟨a, ha, ca⟩ := hca
      injection ha with ha
      subst ha
      rw [List.getElem_map] at ca
      have hp := hsix _ (List.getElem_mem hl6)
      have HPS := hid (sixB_step k true idx len stp bnd lnk siz n hl6)
      generalize (sixN idx len stp bnd lnk siz)[n] = p at *
      have f6 : (n : Int) < 6 := by omega
      go_wp2_with fail
      refine (rbytes_any p 4 wr (by omega) (by omega)).mono ?_
      rintro e wx ⟨v, rfl, hv⟩
      obtain ⟨A6, c6, rfl, hs6, hA6, ho6, hb6⟩ := hv.parts
      have hbwx := hbw.trans (hb6.mono hbw.size)
      have hltx := Nat.lt_of_lt_of_le hlt' hb6.size
      have hlwx := Nat.lt_of_lt_of_le hlw' hb6.size
      have hsIx := hsI.below hb6
      have hownx := own_but hown (But.of_below (R := fun _ => False) hb6) (fun _ _ h => h)
      obtain ⟨N2, hN2⟩ : ∃ N2, N2 = N + 4 := ⟨_, rfl⟩
      have HMl : Hid (N + (bytesLE p 4).length = N2) := hid (by rw [bytesLE_length, hN2])
      have HMv : Hid ((sixB k true idx len stp bnd lnk siz n).map byteV ++ (bytesLE p 4).map byteV = (sixB k true idx len stp bnd lnk siz (n + 1)).map byteV) := hid (by rw [← List.map_append, HPS.out])
      have HN2 := hid hN2
      clear hv ho6 hb6 hown hbw hN2 hsI ca hlt' hlw'
      go_wp2_with (at_builtin; refine wpList_app rfl (.tmp 34) (.tmp 40) _ rfl elB rfl hownx A6 (bytesLE p 4).length c6 rfl _ hs6 (by simp) (byte_one _) N2 HMl.out _ HMv.out (by rw [HN2.out, HN.out]; unfold maxLen; omega) (by rw [HN2.out, HN.out]; omega) hltx ?_; intro B6 d6 w6 hnew hgr hat hbel)
      refine ⟨⟨n + 1, N2, by omega, by go_num, by rw [HN2.out, HN.out]; omega, hnew, fun g hg => ?_, hbwx.trans (hbel.mono (Nat.le_succ _)), Nat.lt_of_lt_of_le hltx hbel.size, Nat.lt_of_lt_of_le hlwx hbel.size, Sees.grown hsIx hgr (fun a ha hh => ?_)⟩, by simp [intOf]; omega⟩
      · rcases hat with h | h
        · exact hno g (h.symm.trans hg)
        · rw [h] at hg
          injection hg with hg
          omega
      · injection ha with ha
        subst ha
        exact hno _ hh.symm hblk
    · have hn6 : n = 6 := by omega
      have hd : decide ((n : Int) < 6) = false := by simp; omega
      obtain ⟨L, hL⟩ : ∃ L, L = headHead k true idx len stp bnd lnk siz := ⟨_, rfl⟩
      rw [hn6, show sixB k true idx len stp bnd lnk siz 6 = headHead k true idx len stp bnd lnk siz from rfl, ← hL] at hown
      have HLl : Hid (L.length = 28) := hid (by rw [hL]; exact headHead_len _ _ _ _ _ _ _ _)
      have HL := hid hL
      obtain ⟨A5, c5', hx5, hs5, hA5⟩ := own_form hown
      subst hx5
      have hNL : N = L.length := by rw [HLl.out, HN.out, hn6]
      have HN6 := hid hn6
      clear hL hn6
      subst hNL
      have hsB : SeesB wr A5 L := hs5
      go_wp2_with fail
      have hsr := sumI_range L
      obtain ⟨S, hS⟩ := Int.eq_ofNat_of_zero_le hsr.1
      refine (rsum_any A5 c5' L wr hsB (by rw [HLl.out]; omega)).mono ?_
      rintro e w6 ⟨rfl, rfl⟩
      have HSE : Hid (sealed (headHead k true idx len stp bnd lnk siz) = L ++ bytesLE S 4) := hid (by rw [← HL.out]; unfold sealed; rw [hS]; rfl)
      rw [hS] at hsr ⊢
      have hS4 : S < 4294967296 := by omega
      clear hS
      go_wp2_with fail
      refine (rbytes_any S 4 wr (by omega) (by omega)).mono ?_
      rintro e w7 ⟨v, rfl, hv⟩
      obtain ⟨A7, c7, rfl, hs7, hA7, ho7, hb7⟩ := hv.parts
      have hbw7 := hbw.trans (hb7.mono hbw.size)
      have hlt7 := Nat.lt_of_lt_of_le hlt' hb7.size
      have hown7 := own_but hown (But.of_below (R := fun _ => False) hb7) (fun _ _ h => h)
      obtain ⟨Z, hZ⟩ : ∃ Z, Z = L ++ bytesLE S 4 := ⟨_, rfl⟩
      have HZl : Hid (L.length + (bytesLE S 4).length = Z.length) := hid (by rw [hZ, List.length_append])
      have HZv : Hid (L.map byteV ++ (bytesLE S 4).map byteV = Z.map byteV) := hid (by rw [hZ, List.map_append])
      have HZ19 : Hid (Z.length = 32) := hid (by rw [← HZl.out, HLl.out, bytesLE_length])
      have HZ : Hid (sealed (headHead k true idx len stp bnd lnk siz) = Z) := hid (by rw [HSE.out, hZ])
      clear hZ HSE hown hv ho7 hb7 hA7 HL hs5 hA5 hsB hsI hno
      go_wp2_with (at_builtin; refine wpList_app rfl (.tmp 42) (.tmp 46) _ rfl elB rfl hown7 A7 (bytesLE S 4).length c7 rfl _ hs7 (by simp) (byte_one _) Z.length HZl.out (Z.map byteV) HZv.out (by rw [HZ19.out]; unfold maxLen; omega) (by rw [HZ19.out]; omega) hlt7 ?_; intro A8 c8 w8 hown8 hgr8 hat8 hbel8)
      have hf : ClonePost w (sealed (headHead k true idx len stp bnd lnk siz)) (.returned (.slice A8 Z.length c8)) w8 := ⟨_, rfl, A8, c8, by rw [HZ.out], by rw [HZ.out]; exact Joins.ownsRow_le hown8 (Nat.le_succ _), hbw7.trans (hbel8.mono (Nat.le_succ _))⟩
      go_ret
      exact hf
theorem rhput_any (k idx len stp bnd lnk siz : Nat) (lst : Bool) (w : World) (hk : k < 256 ∧ idx < 4294967296 ∧ len < 4294967296 ∧ stp < 4294967296 ∧ bnd < 4294967296 ∧ lnk < 4294967296 ∧ siz < 4294967296) :
    Calls Tryd.prog 34 #[.agg #[.int .i64 (k : Int), .int .i64 (idx : Int), .int .i64 (len : Int), .int .i64 (stp : Int), .int .i64 (bnd : Int), .bool lst, .int .u32 (lnk : Int), .int .i64 (siz : Int)]] w (ClonePost w (sealed (headHead k lst idx len stp bnd lnk siz))) := by
  cases lst with
  | false => exact rhput_false k idx len stp bnd lnk siz w hk
  | true => exact rhput_true k idx len stp bnd lnk siz w hk
end Go.Proofs.YtkmhmehofipehaaDoor
/- Blocks sealed, by the reference. -/
namespace Go.Proofs.YtkmhmehofipehaaDoor
set_option linter.unusedVariables false
open Go.RowKit
def SealPost (w : World) (l : List UInt8) (s : Int) (e : Ending) (w' : World) : Prop := ∃ v, e = .returned (.tuple #[v, .int .u32 s, .int .i64 0]) ∧ NewB w l v w'
set_option maxHeartbeats 1000000 in
theorem rhseal_bad (k idx len stp bnd : Int) (lst : Bool) (lnk siz : Int) (A : Option Addr) (c : Nat) (l : List UInt8) (w : World) (hn : l.length ≤ 16777216) (hr : rightH k idx len stp bnd lst lnk (l.length : Int) = false) :
    Calls Tryd.prog 15 #[.agg #[.int .i64 k, .int .i64 idx, .int .i64 len, .int .i64 stp, .int .i64 bnd, .bool lst, .int .u32 lnk, .int .i64 siz], .slice A l.length c] w fun e w' => e = .returned (.tuple #[.slice none 0 0, .int .u32 0, .int .i64 32]) ∧ Below w.heap.size w w' := by
  have hb : Below w.heap.size w (w.alloc (.cells #[.int .i64 k, .int .i64 idx, .int .i64 len, .int .i64 stp, .int .i64 bnd, .bool lst, .int .u32 lnk, .int .i64 (l.length : Int)] 52)) := (Below.refl _ w).alloc (Nat.le_refl _) _
  have d1 : decide (16777216 < (l.length : Int)) = false := by simp; omega
  go_enter Tryd.func15, Tryd.ntmps15
  go_wp2_with fail
  refine (hrright_any k idx len stp bnd lst lnk (l.length : Int) _).mono ?_
  rintro e w1 ⟨rfl, hb1⟩
  rw [hr]
  go_wp2_with fail
  exact bodyPost_ret (results_tmp3 rfl _ _ _) rfl ⟨rfl, hb.trans (hb1.mono hb.size)⟩
set_option maxHeartbeats 4000000 in
theorem rhseal_ok (k idx len stp bnd lnk : Nat) (lst : Bool) (siz : Int) (A : Option Addr) (c : Nat) (l : List UInt8) (w : World) (hl : SeesB w A l) (hn : l.length ≤ 16777216) (hr : rightH k idx len stp bnd lst lnk (l.length : Int) = true) (hk : k < 256 ∧ idx < 4294967296 ∧ len < 4294967296 ∧ stp < 4294967296 ∧ bnd < 4294967296 ∧ lnk < 4294967296 ∧ l.length < 4294967296) :
    Calls Tryd.prog 15 #[.agg #[.int .i64 (k : Int), .int .i64 (idx : Int), .int .i64 (len : Int), .int .i64 (stp : Int), .int .i64 (bnd : Int), .bool lst, .int .u32 (lnk : Int), .int .i64 siz], .slice A l.length c] w (SealPost w (sealed (sealed (headHead k lst idx len stp bnd lnk l.length) ++ l)) (sumI (sealed (headHead k lst idx len stp bnd lnk l.length) ++ l))) := by
  have hb : Below w.heap.size w (w.alloc (.cells #[.int .i64 (k : Int), .int .i64 (idx : Int), .int .i64 (len : Int), .int .i64 (stp : Int), .int .i64 (bnd : Int), .bool lst, .int .u32 (lnk : Int), .int .i64 (l.length : Int)] 52)) := (Below.refl _ w).alloc (Nat.le_refl _) _
  have hrow := heap_alloc_new w (.cells #[.int .i64 (k : Int), .int .i64 (idx : Int), .int .i64 (len : Int), .int .i64 (stp : Int), .int .i64 (bnd : Int), .bool lst, .int .u32 (lnk : Int), .int .i64 (l.length : Int)] 52)
  have d1 : decide (16777216 < (l.length : Int)) = false := by simp; omega
  have HLL : Hid ((sealed (headHead k lst idx len stp bnd lnk l.length)).length = 32) := hid (by rw [sealed_len, headHead_len])
  have hput := hid (fun W => rhput_any k idx len stp bnd lnk l.length lst W hk)
  generalize sealed (headHead k lst idx len stp bnd lnk l.length) = Z at *
  clear hk
  go_enter Tryd.func15, Tryd.ntmps15
  go_wp2_with fail
  generalize w.alloc (.cells #[.int .i64 (k : Int), .int .i64 (idx : Int), .int .i64 (len : Int), .int .i64 (stp : Int), .int .i64 (bnd : Int), .bool lst, .int .u32 (lnk : Int), .int .i64 (l.length : Int)] 52) = w0 at *
  have hlt0 : w.heap.size < w0.heap.size := (Array.getElem?_eq_some_iff.1 hrow).1
  refine (hrright_any k idx len stp bnd lst lnk (l.length : Int) _).mono ?_
  rintro e w1 ⟨rfl, hb1⟩
  rw [hr]
  have hbw1 := hb.trans (hb1.mono hb.size)
  have hrow1 := (hb1.block w.heap.size hlt0).trans hrow
  have c0 : w1.cell? ⟨w.heap.size, 0, none⟩ = some (.int .i64 (k : Int)) := by rw [cell_of_row _ _ _ _ _ _ hrow1]; rfl
  have c1 : w1.cell? ⟨w.heap.size, 1, none⟩ = some (.int .i64 (idx : Int)) := by rw [cell_of_row _ _ _ _ _ _ hrow1]; rfl
  have c2 : w1.cell? ⟨w.heap.size, 2, none⟩ = some (.int .i64 (len : Int)) := by rw [cell_of_row _ _ _ _ _ _ hrow1]; rfl
  have c3 : w1.cell? ⟨w.heap.size, 3, none⟩ = some (.int .i64 (stp : Int)) := by rw [cell_of_row _ _ _ _ _ _ hrow1]; rfl
  have c4 : w1.cell? ⟨w.heap.size, 4, none⟩ = some (.int .i64 (bnd : Int)) := by rw [cell_of_row _ _ _ _ _ _ hrow1]; rfl
  have c5 : w1.cell? ⟨w.heap.size, 5, none⟩ = some (.bool lst) := by rw [cell_of_row _ _ _ _ _ _ hrow1]; rfl
  have c6 : w1.cell? ⟨w.heap.size, 6, none⟩ = some (.int .u32 (lnk : Int)) := by rw [cell_of_row _ _ _ _ _ _ hrow1]; rfl
  have c7 : w1.cell? ⟨w.heap.size, 7, none⟩ = some (.int .i64 (l.length : Int)) := by rw [cell_of_row _ _ _ _ _ _ hrow1]; rfl
  clear hb hb1 hrow hrow1 hr
  go_wp2_with fail
  refine (hput.out w1).mono ?_
  rintro e w2 ⟨v, rfl, hv⟩
  obtain ⟨A2, c2', rfl, hs2, hA2, ho2, hb2⟩ := hv.parts
  have hbw2 := hbw1.trans (hb2.mono hbw1.size)
  have hl2 := hl.below hbw2
  have ho2' := Joins.ownsRow_le ho2 hbw1.size
  obtain ⟨Y, hY⟩ : ∃ Y, Y = Z ++ l := ⟨_, rfl⟩
  have HYl : Hid (Z.length + l.length = Y.length) := hid (by rw [hY, List.length_append])
  have HYv : Hid (Z.map byteV ++ l.map byteV = Y.map byteV) := hid (by rw [hY, List.map_append])
  have HYb : Hid (Y.length ≤ 16777300) := hid (by rw [← HYl.out, HLL.out]; omega)
  have HY := hid hY
  clear hY hv ho2 hA2 hs2 hb2 c0 c1 c2 c3 c4 c5 c6 c7
  go_wp2_with (at_builtin; refine wpList_app rfl (.tmp 19) (.tmp 20) _ rfl elB rfl ho2' A l.length c rfl _ hl2 (by simp) (byte_one _) Y.length HYl.out (Y.map byteV) HYv.out (by have := HYb.out; unfold maxLen; omega) (by have := HYb.out; omega) hbw2.size ?_; intro A3 c3 w3 hown hgr hat hbel)
  have hbw3 := hbw2.trans hbel
  have hs3 : SeesB w3 A3 Y := own_sees hown
  clear hgr hat hbel ho2' hl2
  have hsr := sumI_range Y
  obtain ⟨S, hS⟩ := Int.eq_ofNat_of_zero_le hsr.1
  refine (rsum_any A3 c3 Y w3 hs3 (Nat.le_trans HYb.out (by omega))).mono ?_
  rintro e w4 ⟨rfl, rfl⟩
  have HSE : Hid (sealed Y = Y ++ bytesLE S 4) := hid (by unfold sealed; rw [hS]; rfl)
  have HS := hid hS
  rw [hS] at hsr ⊢
  have hS4 : S < 4294967296 := by omega
  clear hS
  go_wp2_with fail
  refine (rbytes_any S 4 w3 (by omega) (by omega)).mono ?_
  rintro e w7 ⟨v, rfl, hv⟩
  obtain ⟨A7, c7, rfl, hs7, hA7, ho7, hb7⟩ := hv.parts
  have hbw7 := hbw3.trans (hb7.mono hbw3.size)
  have hown7 := own_but hown (But.of_below (R := fun _ => False) hb7) (fun _ _ h => h)
  obtain ⟨X, hX⟩ : ∃ X, X = Y ++ bytesLE S 4 := ⟨_, rfl⟩
  have HXl : Hid (Y.length + (bytesLE S 4).length = X.length) := hid (by rw [hX, List.length_append])
  have HXv : Hid (Y.map byteV ++ (bytesLE S 4).map byteV = X.map byteV) := hid (by rw [hX, List.map_append])
  have HXb : Hid (X.length ≤ 16777400) := hid (by have := HYb.out; rw [← HXl.out, bytesLE_length]; omega)
  have HX : Hid (sealed Y = X) := hid (by rw [HSE.out, hX])
  clear hX HSE hown hv ho7 hb7 hA7 hs3
  go_wp2_with (at_builtin; refine wpList_app rfl (.tmp 24) (.tmp 27) _ rfl elB rfl hown7 A7 (bytesLE S 4).length c7 rfl _ hs7 (by simp) (byte_one _) X.length HXl.out (X.map byteV) HXv.out (by have := HXb.out; unfold maxLen; omega) (by have := HXb.out; omega) hbw7.size ?_; intro A8 c8 w8 hown8 hgr8 hat8 hbel8)
  have hf : NewB w (sealed Y) (.slice A8 X.length c8) w8 := ⟨A8, c8, by rw [HX.out], by rw [HX.out]; exact hown8, hbw7.trans hbel8⟩
  refine bodyPost_ret (results_tmp3 rfl _ _ _) rfl ?_
  rw [← HY.out]
  exact ⟨_, by rw [HS.out]; rfl, hf⟩
end Go.Proofs.YtkmhmehofipehaaDoor
/- No tags, checked and laid. -/
namespace Go.Proofs.YtkmhmehofipehaaDoor
set_option linter.unusedVariables false
open Go.RowKit
theorem check_none (A : Option Addr) (c : Nat) (w : World) : Calls Tryd.prog 64 #[.slice A 0 c] w fun e w' => e = .returned (.tuple #[.int .i64 0, .int .i64 0]) ∧ w = w' := by
  go_enter Tryd.func64, Tryd.ntmps64
  go_wp2_with fail
  go_loop [11] (fun i => i = .int .i64 0) (fun _ => 0)
  case atStart => exact rfl
  case round =>
    obtain rfl := hrel
    go_wp2_with fail
    go_ret2
    exact ⟨rfl, rfl⟩
theorem tagput_nil0 (v : Value) (w : World) : Calls Tryd.prog 39 #[.pointer none, v] w fun e w' => e = .returned (.tuple #[.slice none 0 0, .int .i64 2]) ∧ w = w' := by
  go_enter Tryd.func39, Tryd.ntmps39
  go_wp2_with fail
  go_ret2
  exact ⟨rfl, rfl⟩
set_option maxRecDepth 20000 in
set_option maxHeartbeats 2000000 in
theorem tagput_none (g : Nat) (A : Option Addr) (c : Nat) (w : World) (ht : Tab w g) :
    Calls Tryd.prog 39 #[.pointer (some ⟨g, 0, none⟩), .slice A 0 c] w (PutPost w (sealed [84, 71, 0])) := by
  have htg := ht.lt
  go_enter Tryd.func39, Tryd.ntmps39
  go_wp2_with fail
  refine (check_none A c w).mono ?_
  rintro e w1 ⟨rfl, rfl⟩
  have hm := mk_new w
  have hb2 : Below w.heap.size w (w.alloc (.cells #[.int .i64 0, .slice none 0 0] 106)) := (Below.refl _ w).alloc (Nat.le_refl _) _
  have hsz2 : (w.alloc (.cells #[.int .i64 0, .slice none 0 0] 106)).heap.size = w.heap.size + 1 := by simp
  go_wp2_with fail
  generalize w.alloc (.cells #[.int .i64 0, .slice none 0 0] 106) = w2 at *
  have hb3 : Below w2.heap.size w2 (w2.alloc (.cells #[.int .u8 84, .int .u8 71, .int .u8 0] 5)) := (Below.refl _ w2).alloc (Nat.le_refl _) _
  have hs3 : SeesB (w2.alloc (.cells #[.int .u8 84, .int .u8 71, .int .u8 0] 5)) (some ⟨w.heap.size + 1, 0, none⟩) [84, 71, 0] := by
    rw [← hsz2]
    exact Sees.of_block (heap_alloc_new w2 _) rfl
  have hm3 := hm.below hb3
  have hbw3 := hb2.trans (hb3.mono hb2.size)
  clear hm hb3
  generalize w2.alloc (.cells #[.int .u8 84, .int .u8 71, .int .u8 0] 5) = w3 at *
  refine (raw_any w.heap.size _ 0 [] _ 3 [84, 71, 0] w3 hm3 hs3 (by decide)).mono ?_
  rintro e w4 ⟨rfl, R4, hm4, hB4, hR4⟩
  rw [show putRaw (0, []) [84, 71, 0] = (0, [84, 71, 0]) from rfl] at hm4
  have hR4' : ∀ b, R4 b → w.heap.size ≤ b := fun b h => by
    rcases hR4 b h with h | h
    · exact Nat.le_of_eq h.symm
    · have := hm3.lt; omega
  have hbw4 := But.below hbw3 hB4 (fun n h => by omega) hbw3.size
  clear hm3 hs3 hB4 hR4 hbw3 hb2 hsz2
  go_wp2_with fail
  go_loop [33] (fun i => i = .int .i64 0) (fun _ => 0)
  case atStart => exact rfl
  case round =>
    obtain rfl := hrel
    go_wp2_with fail
    refine (bytes_ok w.heap.size R4 [84, 71, 0] w4 hm4 (by decide)).mono ?_
    rintro e w8 ⟨v, rfl, hv⟩
    obtain ⟨A8, c8, rfl, hs8, hA8, ho8, hb8⟩ := hv.parts
    have hbw8 := hbw4.trans (hb8.mono hbw4.size)
    have hm8 := hm4.below hb8
    have hll : ([84, 71, 0] : List UInt8).length = 3 := rfl
    generalize ([84, 71, 0] : List UInt8) = L at *
    have HL := hid hll
    clear hll
    have hsr := sumI_range L
    obtain ⟨S, hS⟩ := Int.eq_ofNat_of_zero_le hsr.1
    go_wp2_with fail
    refine (sum_any g A8 c8 L w8 (ht.keep hbw8 htg) hs8 (by rw [HL.out]; omega)).mono ?_
    rintro e w9 ⟨rfl, rfl⟩
    have hse : sealed L = L ++ bytesLE S 4 := by unfold sealed; rw [hS]; rfl
    have HSE := hid hse
    rw [hS] at hsr ⊢
    have hS4 : S < 4294967296 := by omega
    clear hse hS
    have hp : putU (0, L) S 4 = (0, L ++ bytesLE S 4) := putU_ok _ S 4 (by omega) (by omega)
    have hst := hid (makerU_any w.heap.size R4 0 L S 4 w8 hm8 (by omega) (by rw [HL.out]; omega))
    rw [hp] at hst
    clear hp hv ho8 hs8 hA8
    go_wp2_with fail
    refine hst.out.mono ?_
    rintro e wa ⟨rfl, Ra, hma, hBa, hRa⟩
    have hbwa := But.below hbw8 hBa (fun b h => hR4' b h) hbw8.size
    go_wp2_with fail
    refine (bytes_ok w.heap.size Ra _ wa hma (by rw [List.length_append, bytesLE_length, HL.out]; omega)).mono ?_
    rintro e wb ⟨v, rfl, hv⟩
    have hf : PutPost w (sealed L) (.returned (.tuple #[v, .int .i64 0])) wb := ⟨v, rfl, by rw [HSE.out]; exact hv.lower hbwa⟩
    go_wp2_with fail
    go_ret2
    exact hf
end Go.Proofs.YtkmhmehofipehaaDoor
/- A file without tags and blocks is put together; without a table none is. -/
namespace Go.Proofs.YtkmhmehofipehaaDoor
set_option linter.unusedVariables false
open Go.RowKit
theorem undrewG {B : Nat} {w w' : World} (h : Below B w.drew w') : Below B w w' := ⟨h.os, h.tape, h.output, h.size, h.block⟩
set_option maxHeartbeats 1000000 in
theorem opened_nil (k ch bi ra bl sh : Int) (v : Value) (w : World) :
    Calls Tryd.prog 18 #[.pointer none, .agg #[.int .i64 k, .int .i64 ch, .int .i64 bi, .int .i64 ra, .int .i64 bl, .int .i64 sh], v] w fun e w' => e = .returned (.tuple #[.pointer none, .int .i64 2]) ∧ Below w.heap.size w w' := by
  have hb : Below w.heap.size w (w.alloc (.cells #[.int .i64 k, .int .i64 ch, .int .i64 bi, .int .i64 ra, .int .i64 bl, .int .i64 sh] 25)) := (Below.refl _ w).alloc (Nat.le_refl _) _
  have hrow := heap_alloc_new w (.cells #[.int .i64 k, .int .i64 ch, .int .i64 bi, .int .i64 ra, .int .i64 bl, .int .i64 sh] 25)
  go_enter Tryd.func18, Tryd.ntmps18
  go_wp2_with fail
  refine (iput_nil k ch bi ra bl sh _).mono ?_
  rintro e w1 ⟨rfl, hb1⟩
  go_wp2_with fail
  go_ret2
  exact ⟨rfl, hb.trans (hb1.mono hb.size)⟩
set_option maxHeartbeats 1000000 in
theorem build_nil (k ch bi ra bl sh : Int) (v u : Value) (s : Int) (w : World) :
    Calls Tryd.prog 10 #[.pointer none, .agg #[.int .i64 k, .int .i64 ch, .int .i64 bi, .int .i64 ra, .int .i64 bl, .int .i64 sh], v, u, .int .u32 s] w fun e w' => e = .returned (.tuple #[.slice none 0 0, .int .i64 2]) ∧ Below w.heap.size w w' := by
  have hb : Below w.heap.size w (w.alloc (.cells #[.int .i64 k, .int .i64 ch, .int .i64 bi, .int .i64 ra, .int .i64 bl, .int .i64 sh] 25)) := (Below.refl _ w).alloc (Nat.le_refl _) _
  have hrow := heap_alloc_new w (.cells #[.int .i64 k, .int .i64 ch, .int .i64 bi, .int .i64 ra, .int .i64 bl, .int .i64 sh] 25)
  go_enter Tryd.func10, Tryd.ntmps10
  go_wp2_with fail
  refine (opened_nil k ch bi ra bl sh v _).mono ?_
  rintro e w1 ⟨rfl, hb1⟩
  go_wp2_with fail
  go_ret2
  exact ⟨rfl, hb.trans (hb1.mono hb.size)⟩
/-- a file on its way, as it begins -/
def Begun (w : World) (g : Nat) (k ch bi ra bl sh : Nat) (out : List UInt8) (e : Ending) (w' : World) : Prop :=
  ∃ (m : Nat) (A : Option Addr) (c : Nat), e = .returned (.tuple #[.pointer (some ⟨m, 0, none⟩), .int .i64 0]) ∧ w'.heap[m]? = some (.cells #[.pointer (some ⟨g, 0, none⟩), .int .i64 k, .int .i64 ch, .int .i64 bi, .int .i64 ra, .int .i64 bl, .int .i64 sh, .slice A out.length c, .slice none 0 0, .int .i64 0, .bool false] 70 (0, 0)) ∧
    w'.ownsRow w.heap.size 5 1 (.slice A out.length c) out.length (out.map byteV) ∧ w.heap.size ≤ m ∧ Below w.heap.size w w'
set_option maxRecDepth 20000 in
set_option maxHeartbeats 4000000 in
theorem opened_none (g : Nat) (k ch bi ra bl sh : Nat) (A0 : Option Addr) (c0 : Nat) (w : World) (ht : Tab w g) (hr : rightI k ch bi ra bl sh = true) (hk : k < 256 ∧ ch < 256 ∧ bi < 256 ∧ sh < 256 ∧ ra < 16777216 ∧ bl < 4294967296) (out : List UInt8) (ho : out = sealed (infoHead k ch bi sh ra bl) ++ sealed [84, 71, 0]) :
    Calls Tryd.prog 18 #[.pointer (some ⟨g, 0, none⟩), .agg #[.int .i64 k, .int .i64 ch, .int .i64 bi, .int .i64 ra, .int .i64 bl, .int .i64 sh], .slice A0 0 c0] w (Begun w g k ch bi ra bl sh out) := by
  obtain ⟨X, hX⟩ : ∃ X, X = sealed (infoHead k ch bi sh ra bl) := ⟨_, rfl⟩
  obtain ⟨Y, hY⟩ : ∃ Y, Y = sealed [84, 71, 0] := ⟨_, rfl⟩
  have hXl : X.length = 19 := by rw [hX]; simp [sealed, infoHead, bytesLE_length]
  have hYl : Y.length = 7 := by rw [hY]; simp [sealed, bytesLE_length]
  have hb : Below w.heap.size w (w.alloc (.cells #[.int .i64 k, .int .i64 ch, .int .i64 bi, .int .i64 ra, .int .i64 bl, .int .i64 sh] 25)) := (Below.refl _ w).alloc (Nat.le_refl _) _
  have hrow := heap_alloc_new w (.cells #[.int .i64 k, .int .i64 ch, .int .i64 bi, .int .i64 ra, .int .i64 bl, .int .i64 sh] 25)
  have P1 := hid (fun W h => iput_ok g k ch bi ra bl sh W h hr hk)
  have P2 := hid (fun W h => tagput_none g A0 c0 W h)
  rw [← hX] at P1
  rw [← hY] at P2
  have HXL := hid hXl
  have HYL := hid hYl
  rw [← hX, ← hY] at ho
  have HO := hid ho
  clear hX hY hXl hYl ho hr hk
  have ht0 := ht.keep hb ht.lt
  go_enter Tryd.func18, Tryd.ntmps18
  go_wp2_with fail
  generalize hw0 : w.alloc (.cells #[.int .i64 k, .int .i64 ch, .int .i64 bi, .int .i64 ra, .int .i64 bl, .int .i64 sh] 25) = w0 at *
  clear hw0
  have c0 : w0.cell? ⟨w.heap.size, 0, none⟩ = some (.int .i64 (k : Int)) := by rw [cell_of_row _ _ _ _ _ _ hrow]; rfl
  have c1 : w0.cell? ⟨w.heap.size, 1, none⟩ = some (.int .i64 (ch : Int)) := by rw [cell_of_row _ _ _ _ _ _ hrow]; rfl
  have c2 : w0.cell? ⟨w.heap.size, 2, none⟩ = some (.int .i64 (bi : Int)) := by rw [cell_of_row _ _ _ _ _ _ hrow]; rfl
  have c3 : w0.cell? ⟨w.heap.size, 3, none⟩ = some (.int .i64 (ra : Int)) := by rw [cell_of_row _ _ _ _ _ _ hrow]; rfl
  have c4 : w0.cell? ⟨w.heap.size, 4, none⟩ = some (.int .i64 (bl : Int)) := by rw [cell_of_row _ _ _ _ _ _ hrow]; rfl
  have c5 : w0.cell? ⟨w.heap.size, 5, none⟩ = some (.int .i64 (sh : Int)) := by rw [cell_of_row _ _ _ _ _ _ hrow]; rfl
  clear hrow
  refine (P1.out w0 ht0).mono ?_
  rintro e w1 ⟨v, rfl, hv⟩
  obtain ⟨A1, d1, rfl, hs1, hA1, ho1, hb1⟩ := hv.parts
  have hbw1 := hb.trans (hb1.mono hb.size)
  have ht1 := ht0.keep hb1 ht0.lt
  replace c0 := keep1 hb1 c0
  replace c1 := keep1 hb1 c1
  replace c2 := keep1 hb1 c2
  replace c3 := keep1 hb1 c3
  replace c4 := keep1 hb1 c4
  replace c5 := keep1 hb1 c5
  clear hb hb1 hv hA1 ho1
  go_wp2_with fail
  refine (P2.out w1 ht1).mono ?_
  rintro e w2 ⟨v, rfl, hv⟩
  obtain ⟨A2, d2, rfl, hs2, hA2, ho2, hb2⟩ := hv.parts
  have hbw2 := hbw1.trans (hb2.mono hbw1.size)
  replace hs1 := hs1.below hb2
  replace c0 := keep1 hb2 c0
  replace c1 := keep1 hb2 c1
  replace c2 := keep1 hb2 c2
  replace c3 := keep1 hb2 c3
  replace c4 := keep1 hb2 c4
  replace c5 := keep1 hb2 c5
  clear hbw1 hb2 hv hA2 ho2 ht1 ht0
  go_wp2_with fail
  have hbA : Below w2.heap.size w2 (w2.drew.alloc (.cells #[.slice A1 X.length d1, .slice A2 Y.length d2] 32)) := ((Below.refl _ w2).drew).alloc (Nat.le_refl _) _
  have h0l : 0 < X.length + Y.length := by have := HXL.out; omega
  have hll : X.length + Y.length ≤ 70368744177664 := by have := HXL.out; have := HYL.out; omega
  go_region_held3 (fun w' => w'.cell? ⟨w.heap.size, 0, none⟩ = some (.int .i64 (k : Int)) ∧ w'.cell? ⟨w.heap.size, 1, none⟩ = some (.int .i64 (ch : Int)) ∧ w'.cell? ⟨w.heap.size, 2, none⟩ = some (.int .i64 (bi : Int)) ∧ w'.cell? ⟨w.heap.size, 3, none⟩ = some (.int .i64 (ra : Int)) ∧ w'.cell? ⟨w.heap.size, 4, none⟩ = some (.int .i64 (bl : Int)) ∧ w'.cell? ⟨w.heap.size, 5, none⟩ = some (.int .i64 (sh : Int))) (first | exact ⟨c0, c1, c2, c3, c4, c5⟩ | exact ⟨f0, f1, f2, f3, f4, f5⟩ | go_keep)
    (first | (go_at_call 40; refine (concat_two w2.heap.size A1 A2 d1 d2 X Y _ ?_ ?_ ?_ h0l hll).mono ?_; exact heap_alloc_new w2.drew _; exact hs1.below hbA; exact hs2.below hbA; rintro e w3 ⟨v, rfl, hv⟩; obtain ⟨A3, d3, rfl, hs3, hA3, ho3, hb3⟩ := hv.parts; have f0 := keep1 hb3 (keep1 hbA c0); have f1 := keep1 hb3 (keep1 hbA c1); have f2 := keep1 hb3 (keep1 hbA c2); have f3 := keep1 hb3 (keep1 hbA c3); have f4 := keep1 hb3 (keep1 hbA c4); have f5 := keep1 hb3 (keep1 hbA c5)))
  have hbw3 := (hbw2.trans (hbA.mono hbw2.size)).trans (hb3.mono (Nat.le_trans hbw2.size hbA.size))
  have hfin : Begun w g k ch bi ra bl sh (X ++ Y) (.returned (.tuple #[.pointer (some ⟨w3.heap.size, 0, none⟩), .int .i64 0])) (w3.alloc (.cells #[.pointer (some ⟨g, 0, none⟩), .int .i64 k, .int .i64 ch, .int .i64 bi, .int .i64 ra, .int .i64 bl, .int .i64 sh, .slice A3 (X.length + Y.length) d3, .slice none 0 0, .int .i64 0, .bool false] 70)) := by
    rw [← List.length_append]
    exact ⟨w3.heap.size, A3, d3, rfl, heap_alloc_new _ _, (Joins.ownsRow_le ho3 (Nat.le_trans hbw2.size hbA.size)).alloc _, hbw3.size, hbw3.alloc hbw3.size _⟩
  obtain rfl : out = X ++ Y := HO.out
  clear hb3 ho3 hs3 hv hA3 c0 c1 c2 c3 c4 c5 f0 f1 f2 f3 f4 f5 hs1 hs2
  go_wp2_with fail
  go_ret2
  exact hfin
theorem own_keep {w w' : World} {base : Nat} {e : TypeId} {size : Nat} {v : Value} {n : Nat} {xs : List Value} (h : w.ownsRow base e size v n xs) (hb : Below w.heap.size w w') : w'.ownsRow base e size v n xs := by
  refine ⟨h.1, ?_⟩
  rcases h.2 with h' | ⟨g, cap, cur, hv, hbg, hg, rest⟩
  · exact .inl h'
  · exact .inr ⟨g, cap, cur, hv, hbg, (hb.block g (Array.getElem?_eq_some_iff.1 hg).1).trans hg, rest⟩
set_option maxRecDepth 20000 in
set_option maxHeartbeats 4000000 in
theorem build_none (g : Nat) (k ch bi ra bl sh s : Nat) (A0 B0 : Option Addr) (c0 d0 : Nat) (w : World) (ht : Tab w g) (hr : rightI k ch bi ra bl sh = true) (hk : k < 256 ∧ ch < 256 ∧ bi < 256 ∧ sh < 256 ∧ ra < 16777216 ∧ bl < 4294967296) (hs : s < 4294967296) (out : List UInt8) (ho : out = sealed (infoHead k ch bi sh ra bl) ++ sealed [84, 71, 0]) :
    Calls Tryd.prog 10 #[.pointer (some ⟨g, 0, none⟩), .agg #[.int .i64 k, .int .i64 ch, .int .i64 bi, .int .i64 ra, .int .i64 bl, .int .i64 sh], .slice A0 0 c0, .slice B0 0 d0, .int .u32 (s : Int)] w (PutPost w (out ++ sealed (tailHead 0 s []))) := by
  have hOl : out.length = 26 := by rw [ho]; simp [sealed, infoHead, bytesLE_length]
  have hEl : (sealed (tailHead 0 s [])).length = 18 := by simp [sealed, tailHead_len, bytesLE_length]
  have PO := hid (fun W h => opened_none g k ch bi ra bl sh A0 c0 W h hr hk out ho)
  have PT := hid (show ∀ W, Tab W g → Calls Tryd.prog 20 #[.pointer (some ⟨g, 0, none⟩), .agg #[.int .i64 0, .int .u32 (s : Int), .slice none 0 0]] W (PutPost W (sealed (tailHead 0 s []))) from fun W h => tput_ok g 0 s none 0 [] W h (Sees.nil _ _) (by decide) (by decide) (by decide) hs (fun i h => by simp at h))
  have HOL := hid hOl
  generalize sealed (tailHead 0 s []) = E at *
  have HEL := hid hEl
  have hmm : (out ++ E).map byteV = out.map byteV ++ E.map byteV := List.map_append
  have hll : out.length + E.length = (out ++ E).length := (List.length_append).symm
  have HM := hid hmm
  have HL := hid hll
  have HOE := hid (show ∀ u ∈ E.map byteV, u.oneCell' = true by simp [byteV, Value.oneCell'])
  have HEM := hid (show (E.map byteV).length = E.length by simp)
  generalize hOE : out ++ E = OE at *
  clear hOE hOl hEl ho hr hk hmm hll
  have hb : Below w.heap.size w (w.alloc (.cells #[.int .i64 k, .int .i64 ch, .int .i64 bi, .int .i64 ra, .int .i64 bl, .int .i64 sh] 25)) := (Below.refl _ w).alloc (Nat.le_refl _) _
  have hrow := heap_alloc_new w (.cells #[.int .i64 k, .int .i64 ch, .int .i64 bi, .int .i64 ra, .int .i64 bl, .int .i64 sh] 25)
  have ht0 := ht.keep hb ht.lt
  go_enter Tryd.func10, Tryd.ntmps10
  go_wp2_with fail
  generalize hw0 : w.alloc (.cells #[.int .i64 k, .int .i64 ch, .int .i64 bi, .int .i64 ra, .int .i64 bl, .int .i64 sh] 25) = w0 at *
  clear hw0 hrow
  refine (PO.out w0 ht0).mono ?_
  rintro e w1 ⟨m, A, c, rfl, hrow, hown, hm, hb1⟩
  have hbw1 := hb.trans (hb1.mono hb.size)
  have ht1 := ht0.keep hb1 ht0.lt
  have hown1 := Joins.ownsRow_le hown hb.size
  have hmw : w.heap.size ≤ m := Nat.le_trans hb.size hm
  have e7 : w1.cell? ⟨m, 7, none⟩ = some (.slice A out.length c) := by rw [cell_of_row _ _ _ _ _ _ hrow]; rfl
  have e8 : w1.cell? ⟨m, 8, none⟩ = some (.slice none 0 0) := by rw [cell_of_row _ _ _ _ _ _ hrow]; rfl
  have e9 : w1.cell? ⟨m, 9, none⟩ = some (.int .i64 0) := by rw [cell_of_row _ _ _ _ _ _ hrow]; rfl
  clear hb hb1 hown hm hrow ht0
  go_wp2_with fail
  go_loop [30] (fun i => i = .int .i64 0) (fun _ => 0)
  case atStart => exact rfl
  case round =>
    obtain rfl := hrel
    go_wp2_with fail
    go_region_held3 (fun w' => w'.cell? ⟨m, 7, none⟩ = some (.slice A out.length c) ∧ w'.cell? ⟨m, 8, none⟩ = some (.slice none 0 0) ∧ w'.cell? ⟨m, 9, none⟩ = some (.int .i64 0)) (first | exact ⟨e7, e8, e9⟩ | exact ⟨f7, f8, f9⟩ | go_keep)
      (first | (go_at_call 20; refine (PT.out _ ?_).mono ?_; exact ht1; rintro e w2 ⟨v, rfl, hv⟩; obtain ⟨A2, c2, rfl, hs2, hA2, ho2, hb2⟩ := hv.parts; have f7 := keep1 hb2 e7; have f8 := keep1 hb2 e8; have f9 := keep1 hb2 e9))
    have hb2' : Below w1.heap.size w1 w2 := undrewG hb2
    have hbw2 := hbw1.trans (hb2'.mono hbw1.size)
    have hown2 := own_keep hown1 hb2'
    clear hb2 hb2' hown1 hv ho2 hA2 e7 e8 e9 f8 f9 hbw1 ht1
    go_wp2_with (at_builtin; refine wpList_app rfl (.tmp 62) (.tmp 63) _ rfl elB rfl hown2 A2 E.length c2 rfl (E.map byteV) hs2 (by rw [HEM.out]; omega) HOE.out OE.length HL.out (OE.map byteV) HM.out.symm (by have := HL.out; have := HOL.out; have := HEL.out; unfold maxLen; omega) (by have := HL.out; have := HOL.out; have := HEL.out; omega) hbw2.size ?_; intro A3 c3 w3 hown3 hgr hat hbel)
    go_ret2
    exact ⟨_, rfl, A3, c3, rfl, hown3, hbw2.trans hbel⟩
end Go.Proofs.YtkmhmehofipehaaDoor
/- The fixed calls of the statements of layer 29. -/
namespace Go.Proofs.YtkmhmehofipehaaDoor
set_option linter.unusedVariables false
open Go.RowKit
set_option maxRecDepth 20000 in
set_option maxHeartbeats 1000000 in
theorem known_any (w : World) :
    Calls Tryd.prog 9 #[] w fun e w' => e = .returned (.bool true) ∧ Below w.heap.size w w' := by
  obtain ⟨R, hR⟩ : ∃ R, R = sealed (infoHead 1 1 8 0 1 256) ++ sealed [84, 71, 0] ++ sealed (tailHead 0 0 []) := ⟨_, rfl⟩
  have hR44 : R.length = 44 := by rw [hR]; simp [sealed, infoHead, tailHead_len, bytesLE_length]
  have HB := hid (show ∀ g W, Tab W g → Calls Tryd.prog 10 #[.pointer (some ⟨g, 0, none⟩), .agg #[.int .i64 1, .int .i64 1, .int .i64 8, .int .i64 1, .int .i64 256, .int .i64 0], .slice none 0 0, .slice none 0 0, .int .u32 0] W (PutPost W R) from fun g W h => by
    rw [hR]
    exact build_none g 1 1 8 1 256 0 0 none none 0 0 W h (by decide) (by decide) (by decide) _ rfl)
  have HR := hid hR44
  clear hR hR44
  go_enter Tryd.func9, Tryd.ntmps9
  go_wp2_with fail
  refine (make_any _).mono ?_
  rintro e w1 ⟨rfl, hb1, ht1⟩
  go_wp2_with fail
  refine (HB.out _ _ ht1).mono ?_
  rintro e w2 ⟨v, rfl, hv⟩
  obtain ⟨A, c, rfl, hs, hA, ho, hb2⟩ := hv.parts
  have hbw := hb1.trans (hb2.mono hb1.size)
  clear hv hs hA ho hb1 hb2
  rw [HR.out]
  go_wp2_with fail
  go_ret
  exact ⟨rfl, hbw⟩
end Go.Proofs.YtkmhmehofipehaaDoor
