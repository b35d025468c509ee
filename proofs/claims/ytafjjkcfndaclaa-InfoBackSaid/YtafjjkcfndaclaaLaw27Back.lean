/- The walk of InfoBack. -/
import Derived.Test.YtafjjkcfndaclaaLaw27Gets
import Derived.Test.YtafjjkcfndaclaaInfoBack
namespace Go.Proofs.Ytafjjkcfndaclaa.infoBack
set_option linter.unusedVariables false
open Go.RowKit
open Go.Proofs.Ytafjjkcfndaclaa.infoGets (iget_any)
theorem sameI_self (k ch bi ra bl sh : Int) : sameI k ch bi ra bl sh k ch bi ra bl sh = true := by unfold sameI sameF; simp
theorem cutB {A : Option Addr} {l : List UInt8} {w : World} (h : SeesB w A l) (n : Nat) {L : List UInt8} (hL : L = l.take n) : SeesB w A L := by
  subst hL; unfold SeesB; rw [List.map_take]; exact Sees.take h n
set_option maxHeartbeats 8000000 in
theorem walk_fb (k ch bi ra bl sh : Int) (A : Option Addr) (c : Nat) (l : List UInt8) (w : World) (hl : SeesB w A l) (hc : l.length ≤ c) (hcm : c ≤ maxLen) (hn : l.length ≤ 300)
    (hr : rightI k ch bi ra bl sh = false) (hg : (getI l).1 ≠ 0) :
    Calls Try.prog 7 #[.agg #[.int .i64 k, .int .i64 ch, .int .i64 bi, .int .i64 ra, .int .i64 bl, .int .i64 sh], .slice A l.length c] w fun e w' => e = .returned (.bool true) ∧ Below w.heap.size w w' := by
  have d1 : decide (300 < (l.length : Int)) = false := by simp; omega
  have hb : Below w.heap.size w (w.alloc (.cells #[.int .i64 k, .int .i64 ch, .int .i64 bi, .int .i64 ra, .int .i64 bl, .int .i64 sh] 25)) := (Below.refl _ w).alloc (Nat.le_refl _) _
  have hrow := heap_alloc_new w (.cells #[.int .i64 k, .int .i64 ch, .int .i64 bi, .int .i64 ra, .int .i64 bl, .int .i64 sh] 25)
  obtain ⟨er, her, hGe⟩ := getI_bad l hg
  have he1 : (er != 0) = true := by simpa using her
  have hG0 := fun t W (ht : Tab W t) (hl : SeesB W A l) => iget_any t A c l W ht hl hc hcm
  rw [hGe] at hG0
  clear hGe her
  have hz := fun W => eq_info 0 0 0 0 0 0 0 0 0 0 0 0 W
  rw [sameI_self] at hz
  have hn' := hid hn
  clear hn
  go_enter Try.func7, Try.ntmps7
  go_wp2_with fail
  generalize w.alloc (.cells #[.int .i64 k, .int .i64 ch, .int .i64 bi, .int .i64 ra, .int .i64 bl, .int .i64 sh] 25) = w0 at *
  have hlt0 : w.heap.size < w0.heap.size := (Array.getElem?_eq_some_iff.1 hrow).1
  refine (make_any _).mono ?_
  rintro e w1 ⟨rfl, hb1, ht1⟩
  have hrow1 := (hb1.block w.heap.size hlt0).trans hrow
  have hlt1 := Nat.lt_of_lt_of_le hlt0 hb1.size
  have hbw1 := hb.trans (hb1.mono hb.size)
  have hl1 := hl.below hbw1
  have x0 : w1.cell? ⟨w.heap.size, 0, none⟩ = some (.int .i64 k) := by rw [cell_of_row _ _ _ _ _ _ hrow1]; rfl
  have x1 : w1.cell? ⟨w.heap.size, 1, none⟩ = some (.int .i64 ch) := by rw [cell_of_row _ _ _ _ _ _ hrow1]; rfl
  have x2 : w1.cell? ⟨w.heap.size, 2, none⟩ = some (.int .i64 bi) := by rw [cell_of_row _ _ _ _ _ _ hrow1]; rfl
  have x3 : w1.cell? ⟨w.heap.size, 3, none⟩ = some (.int .i64 ra) := by rw [cell_of_row _ _ _ _ _ _ hrow1]; rfl
  have x4 : w1.cell? ⟨w.heap.size, 4, none⟩ = some (.int .i64 bl) := by rw [cell_of_row _ _ _ _ _ _ hrow1]; rfl
  have x5 : w1.cell? ⟨w.heap.size, 5, none⟩ = some (.int .i64 sh) := by rw [cell_of_row _ _ _ _ _ _ hrow1]; rfl
  have hG := hid (hG0 w0.heap.size)
  clear hG0 hb1 hb hl hrow
  go_wp2_with fail
  refine (iput_bad _ k ch bi ra bl sh _ hr).mono ?_
  rintro e wX ⟨rfl, hb2⟩
  have hbX := hbw1.trans (hb2.mono hbw1.size)
  have htX := ht1.keep hb2 ht1.lt
  have hlX := hl1.below hb2
  clear hbw1 hb2 ht1 hl1 hrow1 hlt1 x0 x1 x2 x3 x4 x5
  go_wp2_with fail
  refine (hG.out wX htX hlX).mono ?_
  rintro e y1 ⟨rfl, hc1⟩
  have hbY1 := hbX.trans (hc1.mono hbX.size)
  have htY1 := htX.keep hc1 htX.lt
  have hlY1 := hlX.below hc1
  clear hbX htX hlX hc1
  have hc2 : Below y1.heap.size y1 (y1.alloc (.cells #[.int .i64 0, .int .i64 0, .int .i64 0, .int .i64 0, .int .i64 0, .int .i64 0] 25)) := (Below.refl _ _).alloc (Nat.le_refl _) _
  have hr2 := heap_alloc_new y1 (.cells #[.int .i64 0, .int .i64 0, .int .i64 0, .int .i64 0, .int .i64 0, .int .i64 0] 25)
  have hbY2 := hbY1.trans (hc2.mono hbY1.size)
  have htY2 := htY1.keep hc2 htY1.lt
  have hlY2 := hlY1.below hc2
  clear hbY1 htY1 hlY1 hc2
  have m0 : (y1.alloc (.cells #[.int .i64 0, .int .i64 0, .int .i64 0, .int .i64 0, .int .i64 0, .int .i64 0] 25)).cell? ⟨y1.heap.size, 0, none⟩ = some (.int .i64 0) := by rw [cell_of_row _ _ _ _ _ _ hr2]; rfl
  have m1 : (y1.alloc (.cells #[.int .i64 0, .int .i64 0, .int .i64 0, .int .i64 0, .int .i64 0, .int .i64 0] 25)).cell? ⟨y1.heap.size, 1, none⟩ = some (.int .i64 0) := by rw [cell_of_row _ _ _ _ _ _ hr2]; rfl
  have m2 : (y1.alloc (.cells #[.int .i64 0, .int .i64 0, .int .i64 0, .int .i64 0, .int .i64 0, .int .i64 0] 25)).cell? ⟨y1.heap.size, 2, none⟩ = some (.int .i64 0) := by rw [cell_of_row _ _ _ _ _ _ hr2]; rfl
  have m3 : (y1.alloc (.cells #[.int .i64 0, .int .i64 0, .int .i64 0, .int .i64 0, .int .i64 0, .int .i64 0] 25)).cell? ⟨y1.heap.size, 3, none⟩ = some (.int .i64 0) := by rw [cell_of_row _ _ _ _ _ _ hr2]; rfl
  have m4 : (y1.alloc (.cells #[.int .i64 0, .int .i64 0, .int .i64 0, .int .i64 0, .int .i64 0, .int .i64 0] 25)).cell? ⟨y1.heap.size, 4, none⟩ = some (.int .i64 0) := by rw [cell_of_row _ _ _ _ _ _ hr2]; rfl
  have m5 : (y1.alloc (.cells #[.int .i64 0, .int .i64 0, .int .i64 0, .int .i64 0, .int .i64 0, .int .i64 0] 25)).cell? ⟨y1.heap.size, 5, none⟩ = some (.int .i64 0) := by rw [cell_of_row _ _ _ _ _ _ hr2]; rfl
  go_wp2_with fail
  refine (known_any _).mono ?_
  rintro e y3 ⟨rfl, hc3⟩
  go_wp2_with fail
  go_ret
  exact ⟨rfl, hbY2.trans (hc3.mono hbY2.size)⟩
set_option maxHeartbeats 8000000 in
theorem walk_fg (k ch bi ra bl sh : Int) (A : Option Addr) (c : Nat) (l : List UInt8) (w : World) (hl : SeesB w A l) (hc : l.length ≤ c) (hcm : c ≤ maxLen) (hn : l.length ≤ 300)
    (hr : rightI k ch bi ra bl sh = false) (hg : (getI l).1 = 0) :
    Calls Try.prog 7 #[.agg #[.int .i64 k, .int .i64 ch, .int .i64 bi, .int .i64 ra, .int .i64 bl, .int .i64 sh], .slice A l.length c] w fun e w' => e = .returned (.bool true) ∧ Below w.heap.size w w' := by
  have d1 : decide (300 < (l.length : Int)) = false := by simp; omega
  have hb : Below w.heap.size w (w.alloc (.cells #[.int .i64 k, .int .i64 ch, .int .i64 bi, .int .i64 ra, .int .i64 bl, .int .i64 sh] 25)) := (Below.refl _ w).alloc (Nat.le_refl _) _
  have hrow := heap_alloc_new w (.cells #[.int .i64 k, .int .i64 ch, .int .i64 bi, .int .i64 ra, .int .i64 bl, .int .i64 sh] 25)
  obtain ⟨K, CH, BI, RA, BL, SH, hGe, hr3, hk3, hse, hn19⟩ := getI_good l hg
  have hG0 := fun t W (ht : Tab W t) (hl : SeesB W A l) => iget_any t A c l W ht hl hc hcm
  have hP0 := fun t W (ht : Tab W t) => iput_ok t K CH BI RA BL SH W ht hr3 hk3
  obtain ⟨L3, hL3⟩ : ∃ L3, L3 = l.take 19 := ⟨_, rfl⟩
  rw [hGe] at hG0
  rw [hse, ← hL3] at hP0
  have HL19 := hid hL3
  have HN3 : Hid (L3.length = 19) := hid (by rw [hL3, List.length_take]; omega)
  have HC19 : Hid ((19 : Int) ≤ c) := hid (by omega)
  have hHC := HC19.out
  have HCW : Hid (∀ W, SeesB W A L3 → (convert 26 9 (.slice A 19 c)).run Try.prog W = .ok (.string ⟨L3.toArray⟩) W) := hid (fun W h => by have := conv_bs A c L3 W h; rw [HN3.out] at this; exact this)
  clear hGe hr3 hk3 hse hL3 hn19
  have hn' := hid hn
  clear hn
  go_enter Try.func7, Try.ntmps7
  go_wp2_with fail
  generalize w.alloc (.cells #[.int .i64 k, .int .i64 ch, .int .i64 bi, .int .i64 ra, .int .i64 bl, .int .i64 sh] 25) = w0 at *
  have hlt0 : w.heap.size < w0.heap.size := (Array.getElem?_eq_some_iff.1 hrow).1
  refine (make_any _).mono ?_
  rintro e w1 ⟨rfl, hb1, ht1⟩
  have hrow1 := (hb1.block w.heap.size hlt0).trans hrow
  have hlt1 := Nat.lt_of_lt_of_le hlt0 hb1.size
  have hbw1 := hb.trans (hb1.mono hb.size)
  have hl1 := hl.below hbw1
  have x0 : w1.cell? ⟨w.heap.size, 0, none⟩ = some (.int .i64 k) := by rw [cell_of_row _ _ _ _ _ _ hrow1]; rfl
  have x1 : w1.cell? ⟨w.heap.size, 1, none⟩ = some (.int .i64 ch) := by rw [cell_of_row _ _ _ _ _ _ hrow1]; rfl
  have x2 : w1.cell? ⟨w.heap.size, 2, none⟩ = some (.int .i64 bi) := by rw [cell_of_row _ _ _ _ _ _ hrow1]; rfl
  have x3 : w1.cell? ⟨w.heap.size, 3, none⟩ = some (.int .i64 ra) := by rw [cell_of_row _ _ _ _ _ _ hrow1]; rfl
  have x4 : w1.cell? ⟨w.heap.size, 4, none⟩ = some (.int .i64 bl) := by rw [cell_of_row _ _ _ _ _ _ hrow1]; rfl
  have x5 : w1.cell? ⟨w.heap.size, 5, none⟩ = some (.int .i64 sh) := by rw [cell_of_row _ _ _ _ _ _ hrow1]; rfl
  have hG := hid (hG0 w0.heap.size)
  have hP := hid (hP0 w0.heap.size)
  clear hG0 hb1 hb hl hrow hP0
  go_wp2_with fail
  refine (iput_bad _ k ch bi ra bl sh _ hr).mono ?_
  rintro e wX ⟨rfl, hb2⟩
  have hbX := hbw1.trans (hb2.mono hbw1.size)
  have htX := ht1.keep hb2 ht1.lt
  have hlX := hl1.below hb2
  clear hbw1 hb2 ht1 hl1 hrow1 hlt1 x0 x1 x2 x3 x4 x5
  go_wp2_with fail
  refine (hG.out wX htX hlX).mono ?_
  rintro e y1 ⟨rfl, hc1⟩
  have hbY1 := hbX.trans (hc1.mono hbX.size)
  have htY1 := htX.keep hc1 htX.lt
  have hlY1 := hlX.below hc1
  clear hbX htX hlX hc1
  have hc2 : Below y1.heap.size y1 (y1.alloc (.cells #[.int .i64 K, .int .i64 CH, .int .i64 BI, .int .i64 RA, .int .i64 BL, .int .i64 SH] 25)) := (Below.refl _ _).alloc (Nat.le_refl _) _
  have hr2 := heap_alloc_new y1 (.cells #[.int .i64 K, .int .i64 CH, .int .i64 BI, .int .i64 RA, .int .i64 BL, .int .i64 SH] 25)
  have hbY2 := hbY1.trans (hc2.mono hbY1.size)
  have htY2 := htY1.keep hc2 htY1.lt
  have hlY2 := hlY1.below hc2
  clear hbY1 htY1 hlY1 hc2
  have m0 : (y1.alloc (.cells #[.int .i64 K, .int .i64 CH, .int .i64 BI, .int .i64 RA, .int .i64 BL, .int .i64 SH] 25)).cell? ⟨y1.heap.size, 0, none⟩ = some (.int .i64 K) := by rw [cell_of_row _ _ _ _ _ _ hr2]; rfl
  have m1 : (y1.alloc (.cells #[.int .i64 K, .int .i64 CH, .int .i64 BI, .int .i64 RA, .int .i64 BL, .int .i64 SH] 25)).cell? ⟨y1.heap.size, 1, none⟩ = some (.int .i64 CH) := by rw [cell_of_row _ _ _ _ _ _ hr2]; rfl
  have m2 : (y1.alloc (.cells #[.int .i64 K, .int .i64 CH, .int .i64 BI, .int .i64 RA, .int .i64 BL, .int .i64 SH] 25)).cell? ⟨y1.heap.size, 2, none⟩ = some (.int .i64 BI) := by rw [cell_of_row _ _ _ _ _ _ hr2]; rfl
  have m3 : (y1.alloc (.cells #[.int .i64 K, .int .i64 CH, .int .i64 BI, .int .i64 RA, .int .i64 BL, .int .i64 SH] 25)).cell? ⟨y1.heap.size, 3, none⟩ = some (.int .i64 RA) := by rw [cell_of_row _ _ _ _ _ _ hr2]; rfl
  have m4 : (y1.alloc (.cells #[.int .i64 K, .int .i64 CH, .int .i64 BI, .int .i64 RA, .int .i64 BL, .int .i64 SH] 25)).cell? ⟨y1.heap.size, 4, none⟩ = some (.int .i64 BL) := by rw [cell_of_row _ _ _ _ _ _ hr2]; rfl
  have m5 : (y1.alloc (.cells #[.int .i64 K, .int .i64 CH, .int .i64 BI, .int .i64 RA, .int .i64 BL, .int .i64 SH] 25)).cell? ⟨y1.heap.size, 5, none⟩ = some (.int .i64 SH) := by rw [cell_of_row _ _ _ _ _ _ hr2]; rfl
  go_wp2_with fail
  generalize y1.alloc (.cells #[.int .i64 K, .int .i64 CH, .int .i64 BI, .int .i64 RA, .int .i64 BL, .int .i64 SH] 25) = y2 at *
  refine (hP.out _ htY2).mono ?_
  rintro e y3 ⟨v3, rfl, hv3⟩
  obtain ⟨A3, c3, rfl, hs3, hA3, ho3, hc3⟩ := hv3.parts
  have hbY3 := hbY2.trans (hc3.mono hbY2.size)
  have hlY3 := hlY2.below hc3
  have hlc := cutB hlY3 19 HL19.out
  clear hbY2 htY2 hlY2 hc3 hv3 ho3 hA3 m0 m1 m2 m3 m4 m5 hr2
  have hs3d : SeesB y3.drew A3 L3 := hs3
  have hlcd : SeesB y3.drew A L3 := hlc
  have hcv : ∀ W, SeesB W A3 L3 → (convert 26 9 (.slice A3 L3.length c3)).run Try.prog W = .ok (.string ⟨L3.toArray⟩) W := fun W h => conv_bs A3 c3 L3 W h
  have hcw : ∀ W, SeesB W A L3 → (convert 26 9 (.slice A 19 c)).run Try.prog W = .ok (.string ⟨L3.toArray⟩) W := HCW.out
  go_wp2_with fail
  go_region_with (first | (go_at_call 13; refine (known_any _).mono ?_; rintro e y4 ⟨rfl, hc4⟩; have hx4 := hs3.below (undrew hc4); have hy4 := hlc.below (undrew hc4)))
  all_goals
    go_wp2_with fail
    go_ret
    exact ⟨rfl, hbY3.trans (Below.mono (undrew hc4) hbY3.size)⟩
set_option maxHeartbeats 8000000 in
theorem walk_tb (k ch bi ra bl sh : Int) (A : Option Addr) (c : Nat) (l : List UInt8) (w : World) (hl : SeesB w A l) (hc : l.length ≤ c) (hcm : c ≤ maxLen) (hn : l.length ≤ 300)
    (hr : rightI k ch bi ra bl sh = true) (hg : (getI l).1 ≠ 0) :
    Calls Try.prog 7 #[.agg #[.int .i64 k, .int .i64 ch, .int .i64 bi, .int .i64 ra, .int .i64 bl, .int .i64 sh], .slice A l.length c] w fun e w' => e = .returned (.bool true) ∧ Below w.heap.size w w' := by
  have d1 : decide (300 < (l.length : Int)) = false := by simp; omega
  have hb : Below w.heap.size w (w.alloc (.cells #[.int .i64 k, .int .i64 ch, .int .i64 bi, .int .i64 ra, .int .i64 bl, .int .i64 sh] 25)) := (Below.refl _ w).alloc (Nat.le_refl _) _
  have hrow := heap_alloc_new w (.cells #[.int .i64 k, .int .i64 ch, .int .i64 bi, .int .i64 ra, .int .i64 bl, .int .i64 sh] 25)
  obtain ⟨er, her, hGe⟩ := getI_bad l hg
  have he1 : (er != 0) = true := by simpa using her
  have hG0 := fun t W (ht : Tab W t) (hl : SeesB W A l) => iget_any t A c l W ht hl hc hcm
  rw [hGe] at hG0
  clear hGe her
  have hz := fun W => eq_info 0 0 0 0 0 0 0 0 0 0 0 0 W
  rw [sameI_self] at hz
  have hr2 := of_decide_eq_true hr
  have hr3 := of_decide_eq_true hr2.2.1
  obtain ⟨hk1, _, hk3, hk4, _⟩ := hr2
  obtain ⟨k, rfl⟩ := Int.eq_ofNat_of_zero_le (show 0 ≤ k by omega)
  obtain ⟨ch, rfl⟩ := Int.eq_ofNat_of_zero_le (show 0 ≤ ch by omega)
  obtain ⟨bi, rfl⟩ := Int.eq_ofNat_of_zero_le (show 0 ≤ bi by omega)
  obtain ⟨ra, rfl⟩ := Int.eq_ofNat_of_zero_le (show 0 ≤ ra by omega)
  obtain ⟨bl, rfl⟩ := Int.eq_ofNat_of_zero_le (show 0 ≤ bl by omega)
  obtain ⟨sh, rfl⟩ := Int.eq_ofNat_of_zero_le (show 0 ≤ sh by omega)
  have hkk : k < 256 ∧ ch < 256 ∧ bi < 256 ∧ sh < 256 ∧ ra < 16777216 ∧ bl < 4294967296 := by omega
  have hq := fun W => eq_info k ch bi ra bl sh k ch bi ra bl sh W
  rw [sameI_self] at hq
  obtain ⟨L, hL⟩ : ∃ L, L = sealed (infoHead k ch bi sh ra bl) := ⟨_, rfl⟩
  have hP1 := fun g W h => iput_ok g k ch bi ra bl sh W h hr hkk
  have HLL : Hid (L.length = 19) := hid (by rw [hL]; simp [sealed, infoHead, bytesLE_length])
  obtain ⟨m, hm⟩ : ∃ m, m = L ++ l := ⟨_, rfl⟩
  have hG1 := fun t W B d (ht : Tab W t) (hs : SeesB W B m) (h1 : m.length ≤ d ∧ d ≤ maxLen) => iget_any t B d m W ht hs h1.1 h1.2
  rw [show getI m = (0, (k : Int), (ch : Int), (bi : Int), (ra : Int), (bl : Int), (sh : Int)) by rw [hm, hL]; exact getI_sealed k ch bi ra bl sh l hr hkk] at hG1
  rw [← hL] at hP1
  have HP1 := hid hP1
  have HG1 := hid hG1
  have HMM : Hid (m.map byteV = L.map byteV ++ l.map byteV) := hid (by rw [hm]; simp)
  have HML : Hid (L.length + l.length = m.length) := hid (by rw [hm]; simp)
  have HM3 : Hid (m.length ≤ 400) := hid (by have h1 := HLL.out; have h2 := HML.out; omega)
  clear hP1 hG1 hL hm hkk hk1 hk3 hk4 hr3 hr
  have hn' := hid hn
  clear hn
  go_enter Try.func7, Try.ntmps7
  go_wp2_with fail
  generalize w.alloc (.cells #[.int .i64 k, .int .i64 ch, .int .i64 bi, .int .i64 ra, .int .i64 bl, .int .i64 sh] 25) = w0 at *
  have hlt0 : w.heap.size < w0.heap.size := (Array.getElem?_eq_some_iff.1 hrow).1
  refine (make_any _).mono ?_
  rintro e w1 ⟨rfl, hb1, ht1⟩
  have hrow1 := (hb1.block w.heap.size hlt0).trans hrow
  have hlt1 := Nat.lt_of_lt_of_le hlt0 hb1.size
  have hbw1 := hb.trans (hb1.mono hb.size)
  have hl1 := hl.below hbw1
  have x0 : w1.cell? ⟨w.heap.size, 0, none⟩ = some (.int .i64 k) := by rw [cell_of_row _ _ _ _ _ _ hrow1]; rfl
  have x1 : w1.cell? ⟨w.heap.size, 1, none⟩ = some (.int .i64 ch) := by rw [cell_of_row _ _ _ _ _ _ hrow1]; rfl
  have x2 : w1.cell? ⟨w.heap.size, 2, none⟩ = some (.int .i64 bi) := by rw [cell_of_row _ _ _ _ _ _ hrow1]; rfl
  have x3 : w1.cell? ⟨w.heap.size, 3, none⟩ = some (.int .i64 ra) := by rw [cell_of_row _ _ _ _ _ _ hrow1]; rfl
  have x4 : w1.cell? ⟨w.heap.size, 4, none⟩ = some (.int .i64 bl) := by rw [cell_of_row _ _ _ _ _ _ hrow1]; rfl
  have x5 : w1.cell? ⟨w.heap.size, 5, none⟩ = some (.int .i64 sh) := by rw [cell_of_row _ _ _ _ _ _ hrow1]; rfl
  have hG := hid (hG0 w0.heap.size)
  clear hG0 hb1 hb hl hrow
  go_wp2_with fail
  refine (HP1.out _ _ ht1).mono ?_
  rintro e w2 ⟨v2, rfl, hv2⟩
  obtain ⟨A2, c2, rfl, hs2, hA2, ho2, hb2⟩ := hv2.parts
  have hbw2 := hbw1.trans (hb2.mono hbw1.size)
  have ht2 := ht1.keep hb2 ht1.lt
  have hl2 := hl1.below hb2
  have hrow2 := (hb2.block w.heap.size hlt1).trans hrow1
  have hlt2 := Nat.lt_of_lt_of_le hlt1 hb2.size
  clear hbw1 hb2 ht1 hl1 hrow1 hlt1 hv2 ho2 hA2 x0 x1 x2 x3 x4 x5
  go_wp2_with (first
    | (at_builtin
       refine wpList_app rfl (.tmp 28) (.tmp 29) _ rfl elB rfl (own_nil _ w2.heap.size 1 5) A2 L.length c2 rfl (L.map byteV) hs2 (by simp) (byte_one L) L.length (by omega) (L.map byteV) rfl (by have := HLL.out; unfold maxLen; omega) (by have := HLL.out; omega) (Nat.le_refl _) ?_
       intro A3 c3 w3 hown3 hg3 hat3 hb3
       have hl3 : SeesB w3 A l := hl2.below hb3)
    | (at_builtin
       refine wpList_app rfl (.tmp 30) (.tmp 31) _ rfl elB rfl hown3 A l.length c rfl (l.map byteV) hl3 (by simp) (byte_one l) m.length HML.out (m.map byteV) HMM.out.symm (by have := HM3.out; unfold maxLen; omega) (by have := HM3.out; omega) hb3.size ?_
       intro A4 c4 w4 hown4 hg4 hat4 hb4))
  have hbb : Below w2.heap.size w2 w4 := hb3.trans hb4
  have ht4 := ht2.keep hbb ht2.lt
  have hl4 := hl2.below hbb
  have hs4 : SeesB w4 A4 m := own_sees hown4
  have hrm := own_room hown4
  have hbw4 := hbw2.trans (hbb.mono hbw2.size)
  have hrow4 := (hbb.block w.heap.size hlt2).trans hrow2
  have hlt4 := Nat.lt_of_lt_of_le hlt2 hbb.size
  clear hown4 hg4 hat4 hb4 hown3 hg3 hat3 hb3 hbb ht2 hl2 hrow2 hlt2 hbw2 hl3 hs2
  refine (HG1.out _ _ _ _ ht4 hs4 hrm).mono ?_
  rintro e w5 ⟨rfl, hb5⟩
  have ht5 := ht4.keep hb5 ht4.lt
  have hl5 := hl4.below hb5
  have hbw5 := hbw4.trans (hb5.mono hbw4.size)
  have hrow5 := (hb5.block w.heap.size hlt4).trans hrow4
  have hlt5 := Nat.lt_of_lt_of_le hlt4 hb5.size
  have hb6 : Below w5.heap.size w5 (w5.alloc (.cells #[.int .i64 k, .int .i64 ch, .int .i64 bi, .int .i64 ra, .int .i64 bl, .int .i64 sh] 25)) := (Below.refl _ _).alloc (Nat.le_refl _) _
  have hr6 := heap_alloc_new w5 (.cells #[.int .i64 k, .int .i64 ch, .int .i64 bi, .int .i64 ra, .int .i64 bl, .int .i64 sh] 25)
  have ht6 := ht5.keep hb6 ht5.lt
  have hl6 := hl5.below hb6
  have hbw6 := hbw5.trans (hb6.mono hbw5.size)
  have hrow6 := (hb6.block w.heap.size hlt5).trans hrow5
  clear ht4 hl4 hbw4 hrow4 hlt4 hb5 ht5 hl5 hbw5 hrow5 hlt5 hb6 hs4 hrm
  have x0 : (w5.alloc (.cells #[.int .i64 k, .int .i64 ch, .int .i64 bi, .int .i64 ra, .int .i64 bl, .int .i64 sh] 25)).cell? ⟨w.heap.size, 0, none⟩ = some (.int .i64 k) := by rw [cell_of_row _ _ _ _ _ _ hrow6]; rfl
  have x1 : (w5.alloc (.cells #[.int .i64 k, .int .i64 ch, .int .i64 bi, .int .i64 ra, .int .i64 bl, .int .i64 sh] 25)).cell? ⟨w.heap.size, 1, none⟩ = some (.int .i64 ch) := by rw [cell_of_row _ _ _ _ _ _ hrow6]; rfl
  have x2 : (w5.alloc (.cells #[.int .i64 k, .int .i64 ch, .int .i64 bi, .int .i64 ra, .int .i64 bl, .int .i64 sh] 25)).cell? ⟨w.heap.size, 2, none⟩ = some (.int .i64 bi) := by rw [cell_of_row _ _ _ _ _ _ hrow6]; rfl
  have x3 : (w5.alloc (.cells #[.int .i64 k, .int .i64 ch, .int .i64 bi, .int .i64 ra, .int .i64 bl, .int .i64 sh] 25)).cell? ⟨w.heap.size, 3, none⟩ = some (.int .i64 ra) := by rw [cell_of_row _ _ _ _ _ _ hrow6]; rfl
  have x4 : (w5.alloc (.cells #[.int .i64 k, .int .i64 ch, .int .i64 bi, .int .i64 ra, .int .i64 bl, .int .i64 sh] 25)).cell? ⟨w.heap.size, 4, none⟩ = some (.int .i64 bl) := by rw [cell_of_row _ _ _ _ _ _ hrow6]; rfl
  have x5 : (w5.alloc (.cells #[.int .i64 k, .int .i64 ch, .int .i64 bi, .int .i64 ra, .int .i64 bl, .int .i64 sh] 25)).cell? ⟨w.heap.size, 5, none⟩ = some (.int .i64 sh) := by rw [cell_of_row _ _ _ _ _ _ hrow6]; rfl
  have g0 : (w5.alloc (.cells #[.int .i64 k, .int .i64 ch, .int .i64 bi, .int .i64 ra, .int .i64 bl, .int .i64 sh] 25)).cell? ⟨w5.heap.size, 0, none⟩ = some (.int .i64 k) := by rw [cell_of_row _ _ _ _ _ _ hr6]; rfl
  have g1 : (w5.alloc (.cells #[.int .i64 k, .int .i64 ch, .int .i64 bi, .int .i64 ra, .int .i64 bl, .int .i64 sh] 25)).cell? ⟨w5.heap.size, 1, none⟩ = some (.int .i64 ch) := by rw [cell_of_row _ _ _ _ _ _ hr6]; rfl
  have g2 : (w5.alloc (.cells #[.int .i64 k, .int .i64 ch, .int .i64 bi, .int .i64 ra, .int .i64 bl, .int .i64 sh] 25)).cell? ⟨w5.heap.size, 2, none⟩ = some (.int .i64 bi) := by rw [cell_of_row _ _ _ _ _ _ hr6]; rfl
  have g3 : (w5.alloc (.cells #[.int .i64 k, .int .i64 ch, .int .i64 bi, .int .i64 ra, .int .i64 bl, .int .i64 sh] 25)).cell? ⟨w5.heap.size, 3, none⟩ = some (.int .i64 ra) := by rw [cell_of_row _ _ _ _ _ _ hr6]; rfl
  have g4 : (w5.alloc (.cells #[.int .i64 k, .int .i64 ch, .int .i64 bi, .int .i64 ra, .int .i64 bl, .int .i64 sh] 25)).cell? ⟨w5.heap.size, 4, none⟩ = some (.int .i64 bl) := by rw [cell_of_row _ _ _ _ _ _ hr6]; rfl
  have g5 : (w5.alloc (.cells #[.int .i64 k, .int .i64 ch, .int .i64 bi, .int .i64 ra, .int .i64 bl, .int .i64 sh] 25)).cell? ⟨w5.heap.size, 5, none⟩ = some (.int .i64 sh) := by rw [cell_of_row _ _ _ _ _ _ hr6]; rfl
  go_wp2_with fail
  generalize w5.alloc (.cells #[.int .i64 k, .int .i64 ch, .int .i64 bi, .int .i64 ra, .int .i64 bl, .int .i64 sh] 25) = wX at *
  have hbX := hbw6
  have htX := ht6
  have hlX := hl6
  clear hbw6 ht6 hl6 hrow6 x0 x1 x2 x3 x4 x5 g0 g1 g2 g3 g4 g5 hr6
  refine (hG.out wX htX hlX).mono ?_
  rintro e y1 ⟨rfl, hc1⟩
  have hbY1 := hbX.trans (hc1.mono hbX.size)
  have htY1 := htX.keep hc1 htX.lt
  have hlY1 := hlX.below hc1
  clear hbX htX hlX hc1
  have hc2 : Below y1.heap.size y1 (y1.alloc (.cells #[.int .i64 0, .int .i64 0, .int .i64 0, .int .i64 0, .int .i64 0, .int .i64 0] 25)) := (Below.refl _ _).alloc (Nat.le_refl _) _
  have hr2 := heap_alloc_new y1 (.cells #[.int .i64 0, .int .i64 0, .int .i64 0, .int .i64 0, .int .i64 0, .int .i64 0] 25)
  have hbY2 := hbY1.trans (hc2.mono hbY1.size)
  have htY2 := htY1.keep hc2 htY1.lt
  have hlY2 := hlY1.below hc2
  clear hbY1 htY1 hlY1 hc2
  have m0 : (y1.alloc (.cells #[.int .i64 0, .int .i64 0, .int .i64 0, .int .i64 0, .int .i64 0, .int .i64 0] 25)).cell? ⟨y1.heap.size, 0, none⟩ = some (.int .i64 0) := by rw [cell_of_row _ _ _ _ _ _ hr2]; rfl
  have m1 : (y1.alloc (.cells #[.int .i64 0, .int .i64 0, .int .i64 0, .int .i64 0, .int .i64 0, .int .i64 0] 25)).cell? ⟨y1.heap.size, 1, none⟩ = some (.int .i64 0) := by rw [cell_of_row _ _ _ _ _ _ hr2]; rfl
  have m2 : (y1.alloc (.cells #[.int .i64 0, .int .i64 0, .int .i64 0, .int .i64 0, .int .i64 0, .int .i64 0] 25)).cell? ⟨y1.heap.size, 2, none⟩ = some (.int .i64 0) := by rw [cell_of_row _ _ _ _ _ _ hr2]; rfl
  have m3 : (y1.alloc (.cells #[.int .i64 0, .int .i64 0, .int .i64 0, .int .i64 0, .int .i64 0, .int .i64 0] 25)).cell? ⟨y1.heap.size, 3, none⟩ = some (.int .i64 0) := by rw [cell_of_row _ _ _ _ _ _ hr2]; rfl
  have m4 : (y1.alloc (.cells #[.int .i64 0, .int .i64 0, .int .i64 0, .int .i64 0, .int .i64 0, .int .i64 0] 25)).cell? ⟨y1.heap.size, 4, none⟩ = some (.int .i64 0) := by rw [cell_of_row _ _ _ _ _ _ hr2]; rfl
  have m5 : (y1.alloc (.cells #[.int .i64 0, .int .i64 0, .int .i64 0, .int .i64 0, .int .i64 0, .int .i64 0] 25)).cell? ⟨y1.heap.size, 5, none⟩ = some (.int .i64 0) := by rw [cell_of_row _ _ _ _ _ _ hr2]; rfl
  go_wp2_with fail
  refine (known_any _).mono ?_
  rintro e y3 ⟨rfl, hc3⟩
  go_wp2_with fail
  go_ret
  exact ⟨rfl, hbY2.trans (hc3.mono hbY2.size)⟩
set_option maxHeartbeats 8000000 in
theorem walk_tg (k ch bi ra bl sh : Int) (A : Option Addr) (c : Nat) (l : List UInt8) (w : World) (hl : SeesB w A l) (hc : l.length ≤ c) (hcm : c ≤ maxLen) (hn : l.length ≤ 300)
    (hr : rightI k ch bi ra bl sh = true) (hg : (getI l).1 = 0) :
    Calls Try.prog 7 #[.agg #[.int .i64 k, .int .i64 ch, .int .i64 bi, .int .i64 ra, .int .i64 bl, .int .i64 sh], .slice A l.length c] w fun e w' => e = .returned (.bool true) ∧ Below w.heap.size w w' := by
  have d1 : decide (300 < (l.length : Int)) = false := by simp; omega
  have hb : Below w.heap.size w (w.alloc (.cells #[.int .i64 k, .int .i64 ch, .int .i64 bi, .int .i64 ra, .int .i64 bl, .int .i64 sh] 25)) := (Below.refl _ w).alloc (Nat.le_refl _) _
  have hrow := heap_alloc_new w (.cells #[.int .i64 k, .int .i64 ch, .int .i64 bi, .int .i64 ra, .int .i64 bl, .int .i64 sh] 25)
  obtain ⟨K, CH, BI, RA, BL, SH, hGe, hr3, hk3, hse, hn19⟩ := getI_good l hg
  have hG0 := fun t W (ht : Tab W t) (hl : SeesB W A l) => iget_any t A c l W ht hl hc hcm
  have hP0 := fun t W (ht : Tab W t) => iput_ok t K CH BI RA BL SH W ht hr3 hk3
  obtain ⟨L3, hL3⟩ : ∃ L3, L3 = l.take 19 := ⟨_, rfl⟩
  rw [hGe] at hG0
  rw [hse, ← hL3] at hP0
  have HL19 := hid hL3
  have HN3 : Hid (L3.length = 19) := hid (by rw [hL3, List.length_take]; omega)
  have HC19 : Hid ((19 : Int) ≤ c) := hid (by omega)
  have hHC := HC19.out
  have HCW : Hid (∀ W, SeesB W A L3 → (convert 26 9 (.slice A 19 c)).run Try.prog W = .ok (.string ⟨L3.toArray⟩) W) := hid (fun W h => by have := conv_bs A c L3 W h; rw [HN3.out] at this; exact this)
  clear hGe hr3 hk3 hse hL3 hn19
  have hr2 := of_decide_eq_true hr
  have hr3 := of_decide_eq_true hr2.2.1
  obtain ⟨hk1, _, hk3, hk4, _⟩ := hr2
  obtain ⟨k, rfl⟩ := Int.eq_ofNat_of_zero_le (show 0 ≤ k by omega)
  obtain ⟨ch, rfl⟩ := Int.eq_ofNat_of_zero_le (show 0 ≤ ch by omega)
  obtain ⟨bi, rfl⟩ := Int.eq_ofNat_of_zero_le (show 0 ≤ bi by omega)
  obtain ⟨ra, rfl⟩ := Int.eq_ofNat_of_zero_le (show 0 ≤ ra by omega)
  obtain ⟨bl, rfl⟩ := Int.eq_ofNat_of_zero_le (show 0 ≤ bl by omega)
  obtain ⟨sh, rfl⟩ := Int.eq_ofNat_of_zero_le (show 0 ≤ sh by omega)
  have hkk : k < 256 ∧ ch < 256 ∧ bi < 256 ∧ sh < 256 ∧ ra < 16777216 ∧ bl < 4294967296 := by omega
  have hq := fun W => eq_info k ch bi ra bl sh k ch bi ra bl sh W
  rw [sameI_self] at hq
  obtain ⟨L, hL⟩ : ∃ L, L = sealed (infoHead k ch bi sh ra bl) := ⟨_, rfl⟩
  have hP1 := fun g W h => iput_ok g k ch bi ra bl sh W h hr hkk
  have HLL : Hid (L.length = 19) := hid (by rw [hL]; simp [sealed, infoHead, bytesLE_length])
  obtain ⟨m, hm⟩ : ∃ m, m = L ++ l := ⟨_, rfl⟩
  have hG1 := fun t W B d (ht : Tab W t) (hs : SeesB W B m) (h1 : m.length ≤ d ∧ d ≤ maxLen) => iget_any t B d m W ht hs h1.1 h1.2
  rw [show getI m = (0, (k : Int), (ch : Int), (bi : Int), (ra : Int), (bl : Int), (sh : Int)) by rw [hm, hL]; exact getI_sealed k ch bi ra bl sh l hr hkk] at hG1
  rw [← hL] at hP1
  have HP1 := hid hP1
  have HG1 := hid hG1
  have HMM : Hid (m.map byteV = L.map byteV ++ l.map byteV) := hid (by rw [hm]; simp)
  have HML : Hid (L.length + l.length = m.length) := hid (by rw [hm]; simp)
  have HM3 : Hid (m.length ≤ 400) := hid (by have h1 := HLL.out; have h2 := HML.out; omega)
  clear hP1 hG1 hL hm hkk hk1 hk3 hk4 hr3 hr
  have hn' := hid hn
  clear hn
  go_enter Try.func7, Try.ntmps7
  go_wp2_with fail
  generalize w.alloc (.cells #[.int .i64 k, .int .i64 ch, .int .i64 bi, .int .i64 ra, .int .i64 bl, .int .i64 sh] 25) = w0 at *
  have hlt0 : w.heap.size < w0.heap.size := (Array.getElem?_eq_some_iff.1 hrow).1
  refine (make_any _).mono ?_
  rintro e w1 ⟨rfl, hb1, ht1⟩
  have hrow1 := (hb1.block w.heap.size hlt0).trans hrow
  have hlt1 := Nat.lt_of_lt_of_le hlt0 hb1.size
  have hbw1 := hb.trans (hb1.mono hb.size)
  have hl1 := hl.below hbw1
  have x0 : w1.cell? ⟨w.heap.size, 0, none⟩ = some (.int .i64 k) := by rw [cell_of_row _ _ _ _ _ _ hrow1]; rfl
  have x1 : w1.cell? ⟨w.heap.size, 1, none⟩ = some (.int .i64 ch) := by rw [cell_of_row _ _ _ _ _ _ hrow1]; rfl
  have x2 : w1.cell? ⟨w.heap.size, 2, none⟩ = some (.int .i64 bi) := by rw [cell_of_row _ _ _ _ _ _ hrow1]; rfl
  have x3 : w1.cell? ⟨w.heap.size, 3, none⟩ = some (.int .i64 ra) := by rw [cell_of_row _ _ _ _ _ _ hrow1]; rfl
  have x4 : w1.cell? ⟨w.heap.size, 4, none⟩ = some (.int .i64 bl) := by rw [cell_of_row _ _ _ _ _ _ hrow1]; rfl
  have x5 : w1.cell? ⟨w.heap.size, 5, none⟩ = some (.int .i64 sh) := by rw [cell_of_row _ _ _ _ _ _ hrow1]; rfl
  have hG := hid (hG0 w0.heap.size)
  have hP := hid (hP0 w0.heap.size)
  clear hG0 hb1 hb hl hrow hP0
  go_wp2_with fail
  refine (HP1.out _ _ ht1).mono ?_
  rintro e w2 ⟨v2, rfl, hv2⟩
  obtain ⟨A2, c2, rfl, hs2, hA2, ho2, hb2⟩ := hv2.parts
  have hbw2 := hbw1.trans (hb2.mono hbw1.size)
  have ht2 := ht1.keep hb2 ht1.lt
  have hl2 := hl1.below hb2
  have hrow2 := (hb2.block w.heap.size hlt1).trans hrow1
  have hlt2 := Nat.lt_of_lt_of_le hlt1 hb2.size
  clear hbw1 hb2 ht1 hl1 hrow1 hlt1 hv2 ho2 hA2 x0 x1 x2 x3 x4 x5
  go_wp2_with (first
    | (at_builtin
       refine wpList_app rfl (.tmp 28) (.tmp 29) _ rfl elB rfl (own_nil _ w2.heap.size 1 5) A2 L.length c2 rfl (L.map byteV) hs2 (by simp) (byte_one L) L.length (by omega) (L.map byteV) rfl (by have := HLL.out; unfold maxLen; omega) (by have := HLL.out; omega) (Nat.le_refl _) ?_
       intro A3 c3 w3 hown3 hg3 hat3 hb3
       have hl3 : SeesB w3 A l := hl2.below hb3)
    | (at_builtin
       refine wpList_app rfl (.tmp 30) (.tmp 31) _ rfl elB rfl hown3 A l.length c rfl (l.map byteV) hl3 (by simp) (byte_one l) m.length HML.out (m.map byteV) HMM.out.symm (by have := HM3.out; unfold maxLen; omega) (by have := HM3.out; omega) hb3.size ?_
       intro A4 c4 w4 hown4 hg4 hat4 hb4))
  have hbb : Below w2.heap.size w2 w4 := hb3.trans hb4
  have ht4 := ht2.keep hbb ht2.lt
  have hl4 := hl2.below hbb
  have hs4 : SeesB w4 A4 m := own_sees hown4
  have hrm := own_room hown4
  have hbw4 := hbw2.trans (hbb.mono hbw2.size)
  have hrow4 := (hbb.block w.heap.size hlt2).trans hrow2
  have hlt4 := Nat.lt_of_lt_of_le hlt2 hbb.size
  clear hown4 hg4 hat4 hb4 hown3 hg3 hat3 hb3 hbb ht2 hl2 hrow2 hlt2 hbw2 hl3 hs2
  refine (HG1.out _ _ _ _ ht4 hs4 hrm).mono ?_
  rintro e w5 ⟨rfl, hb5⟩
  have ht5 := ht4.keep hb5 ht4.lt
  have hl5 := hl4.below hb5
  have hbw5 := hbw4.trans (hb5.mono hbw4.size)
  have hrow5 := (hb5.block w.heap.size hlt4).trans hrow4
  have hlt5 := Nat.lt_of_lt_of_le hlt4 hb5.size
  have hb6 : Below w5.heap.size w5 (w5.alloc (.cells #[.int .i64 k, .int .i64 ch, .int .i64 bi, .int .i64 ra, .int .i64 bl, .int .i64 sh] 25)) := (Below.refl _ _).alloc (Nat.le_refl _) _
  have hr6 := heap_alloc_new w5 (.cells #[.int .i64 k, .int .i64 ch, .int .i64 bi, .int .i64 ra, .int .i64 bl, .int .i64 sh] 25)
  have ht6 := ht5.keep hb6 ht5.lt
  have hl6 := hl5.below hb6
  have hbw6 := hbw5.trans (hb6.mono hbw5.size)
  have hrow6 := (hb6.block w.heap.size hlt5).trans hrow5
  clear ht4 hl4 hbw4 hrow4 hlt4 hb5 ht5 hl5 hbw5 hrow5 hlt5 hb6 hs4 hrm
  have x0 : (w5.alloc (.cells #[.int .i64 k, .int .i64 ch, .int .i64 bi, .int .i64 ra, .int .i64 bl, .int .i64 sh] 25)).cell? ⟨w.heap.size, 0, none⟩ = some (.int .i64 k) := by rw [cell_of_row _ _ _ _ _ _ hrow6]; rfl
  have x1 : (w5.alloc (.cells #[.int .i64 k, .int .i64 ch, .int .i64 bi, .int .i64 ra, .int .i64 bl, .int .i64 sh] 25)).cell? ⟨w.heap.size, 1, none⟩ = some (.int .i64 ch) := by rw [cell_of_row _ _ _ _ _ _ hrow6]; rfl
  have x2 : (w5.alloc (.cells #[.int .i64 k, .int .i64 ch, .int .i64 bi, .int .i64 ra, .int .i64 bl, .int .i64 sh] 25)).cell? ⟨w.heap.size, 2, none⟩ = some (.int .i64 bi) := by rw [cell_of_row _ _ _ _ _ _ hrow6]; rfl
  have x3 : (w5.alloc (.cells #[.int .i64 k, .int .i64 ch, .int .i64 bi, .int .i64 ra, .int .i64 bl, .int .i64 sh] 25)).cell? ⟨w.heap.size, 3, none⟩ = some (.int .i64 ra) := by rw [cell_of_row _ _ _ _ _ _ hrow6]; rfl
  have x4 : (w5.alloc (.cells #[.int .i64 k, .int .i64 ch, .int .i64 bi, .int .i64 ra, .int .i64 bl, .int .i64 sh] 25)).cell? ⟨w.heap.size, 4, none⟩ = some (.int .i64 bl) := by rw [cell_of_row _ _ _ _ _ _ hrow6]; rfl
  have x5 : (w5.alloc (.cells #[.int .i64 k, .int .i64 ch, .int .i64 bi, .int .i64 ra, .int .i64 bl, .int .i64 sh] 25)).cell? ⟨w.heap.size, 5, none⟩ = some (.int .i64 sh) := by rw [cell_of_row _ _ _ _ _ _ hrow6]; rfl
  have g0 : (w5.alloc (.cells #[.int .i64 k, .int .i64 ch, .int .i64 bi, .int .i64 ra, .int .i64 bl, .int .i64 sh] 25)).cell? ⟨w5.heap.size, 0, none⟩ = some (.int .i64 k) := by rw [cell_of_row _ _ _ _ _ _ hr6]; rfl
  have g1 : (w5.alloc (.cells #[.int .i64 k, .int .i64 ch, .int .i64 bi, .int .i64 ra, .int .i64 bl, .int .i64 sh] 25)).cell? ⟨w5.heap.size, 1, none⟩ = some (.int .i64 ch) := by rw [cell_of_row _ _ _ _ _ _ hr6]; rfl
  have g2 : (w5.alloc (.cells #[.int .i64 k, .int .i64 ch, .int .i64 bi, .int .i64 ra, .int .i64 bl, .int .i64 sh] 25)).cell? ⟨w5.heap.size, 2, none⟩ = some (.int .i64 bi) := by rw [cell_of_row _ _ _ _ _ _ hr6]; rfl
  have g3 : (w5.alloc (.cells #[.int .i64 k, .int .i64 ch, .int .i64 bi, .int .i64 ra, .int .i64 bl, .int .i64 sh] 25)).cell? ⟨w5.heap.size, 3, none⟩ = some (.int .i64 ra) := by rw [cell_of_row _ _ _ _ _ _ hr6]; rfl
  have g4 : (w5.alloc (.cells #[.int .i64 k, .int .i64 ch, .int .i64 bi, .int .i64 ra, .int .i64 bl, .int .i64 sh] 25)).cell? ⟨w5.heap.size, 4, none⟩ = some (.int .i64 bl) := by rw [cell_of_row _ _ _ _ _ _ hr6]; rfl
  have g5 : (w5.alloc (.cells #[.int .i64 k, .int .i64 ch, .int .i64 bi, .int .i64 ra, .int .i64 bl, .int .i64 sh] 25)).cell? ⟨w5.heap.size, 5, none⟩ = some (.int .i64 sh) := by rw [cell_of_row _ _ _ _ _ _ hr6]; rfl
  go_wp2_with fail
  generalize w5.alloc (.cells #[.int .i64 k, .int .i64 ch, .int .i64 bi, .int .i64 ra, .int .i64 bl, .int .i64 sh] 25) = wX at *
  have hbX := hbw6
  have htX := ht6
  have hlX := hl6
  clear hbw6 ht6 hl6 hrow6 x0 x1 x2 x3 x4 x5 g0 g1 g2 g3 g4 g5 hr6
  refine (hG.out wX htX hlX).mono ?_
  rintro e y1 ⟨rfl, hc1⟩
  have hbY1 := hbX.trans (hc1.mono hbX.size)
  have htY1 := htX.keep hc1 htX.lt
  have hlY1 := hlX.below hc1
  clear hbX htX hlX hc1
  have hc2 : Below y1.heap.size y1 (y1.alloc (.cells #[.int .i64 K, .int .i64 CH, .int .i64 BI, .int .i64 RA, .int .i64 BL, .int .i64 SH] 25)) := (Below.refl _ _).alloc (Nat.le_refl _) _
  have hr2 := heap_alloc_new y1 (.cells #[.int .i64 K, .int .i64 CH, .int .i64 BI, .int .i64 RA, .int .i64 BL, .int .i64 SH] 25)
  have hbY2 := hbY1.trans (hc2.mono hbY1.size)
  have htY2 := htY1.keep hc2 htY1.lt
  have hlY2 := hlY1.below hc2
  clear hbY1 htY1 hlY1 hc2
  have m0 : (y1.alloc (.cells #[.int .i64 K, .int .i64 CH, .int .i64 BI, .int .i64 RA, .int .i64 BL, .int .i64 SH] 25)).cell? ⟨y1.heap.size, 0, none⟩ = some (.int .i64 K) := by rw [cell_of_row _ _ _ _ _ _ hr2]; rfl
  have m1 : (y1.alloc (.cells #[.int .i64 K, .int .i64 CH, .int .i64 BI, .int .i64 RA, .int .i64 BL, .int .i64 SH] 25)).cell? ⟨y1.heap.size, 1, none⟩ = some (.int .i64 CH) := by rw [cell_of_row _ _ _ _ _ _ hr2]; rfl
  have m2 : (y1.alloc (.cells #[.int .i64 K, .int .i64 CH, .int .i64 BI, .int .i64 RA, .int .i64 BL, .int .i64 SH] 25)).cell? ⟨y1.heap.size, 2, none⟩ = some (.int .i64 BI) := by rw [cell_of_row _ _ _ _ _ _ hr2]; rfl
  have m3 : (y1.alloc (.cells #[.int .i64 K, .int .i64 CH, .int .i64 BI, .int .i64 RA, .int .i64 BL, .int .i64 SH] 25)).cell? ⟨y1.heap.size, 3, none⟩ = some (.int .i64 RA) := by rw [cell_of_row _ _ _ _ _ _ hr2]; rfl
  have m4 : (y1.alloc (.cells #[.int .i64 K, .int .i64 CH, .int .i64 BI, .int .i64 RA, .int .i64 BL, .int .i64 SH] 25)).cell? ⟨y1.heap.size, 4, none⟩ = some (.int .i64 BL) := by rw [cell_of_row _ _ _ _ _ _ hr2]; rfl
  have m5 : (y1.alloc (.cells #[.int .i64 K, .int .i64 CH, .int .i64 BI, .int .i64 RA, .int .i64 BL, .int .i64 SH] 25)).cell? ⟨y1.heap.size, 5, none⟩ = some (.int .i64 SH) := by rw [cell_of_row _ _ _ _ _ _ hr2]; rfl
  go_wp2_with fail
  generalize y1.alloc (.cells #[.int .i64 K, .int .i64 CH, .int .i64 BI, .int .i64 RA, .int .i64 BL, .int .i64 SH] 25) = y2 at *
  refine (hP.out _ htY2).mono ?_
  rintro e y3 ⟨v3, rfl, hv3⟩
  obtain ⟨A3, c3, rfl, hs3, hA3, ho3, hc3⟩ := hv3.parts
  have hbY3 := hbY2.trans (hc3.mono hbY2.size)
  have hlY3 := hlY2.below hc3
  have hlc := cutB hlY3 19 HL19.out
  clear hbY2 htY2 hlY2 hc3 hv3 ho3 hA3 m0 m1 m2 m3 m4 m5 hr2
  have hs3d : SeesB y3.drew A3 L3 := hs3
  have hlcd : SeesB y3.drew A L3 := hlc
  have hcv : ∀ W, SeesB W A3 L3 → (convert 26 9 (.slice A3 L3.length c3)).run Try.prog W = .ok (.string ⟨L3.toArray⟩) W := fun W h => conv_bs A3 c3 L3 W h
  have hcw : ∀ W, SeesB W A L3 → (convert 26 9 (.slice A 19 c)).run Try.prog W = .ok (.string ⟨L3.toArray⟩) W := HCW.out
  go_wp2_with fail
  go_region_with (first | (go_at_call 13; refine (known_any _).mono ?_; rintro e y4 ⟨rfl, hc4⟩; have hx4 := hs3.below (undrew hc4); have hy4 := hlc.below (undrew hc4)))
  all_goals
    go_wp2_with fail
    go_ret
    exact ⟨rfl, hbY3.trans (Below.mono (undrew hc4) hbY3.size)⟩
theorem walk (k ch bi ra bl sh : Int) (A : Option Addr) (c : Nat) (l : List UInt8) (w : World) (hl : SeesB w A l ∧ l.length ≤ c ∧ c ≤ maxLen) :
    Calls Try.prog 7 #[.agg #[.int .i64 k, .int .i64 ch, .int .i64 bi, .int .i64 ra, .int .i64 bl, .int .i64 sh], .slice A l.length c] w fun e w' => e = .returned (.bool true) ∧ Below w.heap.size w w' := by
  obtain ⟨hl, hc, hcm⟩ := hl
  by_cases hbig : 300 < l.length
  · have hb : Below w.heap.size w (w.alloc (.cells #[.int .i64 k, .int .i64 ch, .int .i64 bi, .int .i64 ra, .int .i64 bl, .int .i64 sh] 25)) := (Below.refl _ w).alloc (Nat.le_refl _) _
    have d1 : decide (300 < (l.length : Int)) = true := by simp; omega
    go_enter Try.func7, Try.ntmps7
    go_wp2_with fail
    refine (known_any _).mono ?_
    rintro e w2 ⟨rfl, hb2⟩
    go_wp2_with fail
    go_ret
    exact ⟨rfl, hb.trans (hb2.mono hb.size)⟩
  cases hr : rightI k ch bi ra bl sh with
  | false =>
    by_cases hg : (getI l).1 = 0
    · exact walk_fg k ch bi ra bl sh A c l w hl hc hcm (by omega) hr hg
    · exact walk_fb k ch bi ra bl sh A c l w hl hc hcm (by omega) hr hg
  | true =>
    by_cases hg : (getI l).1 = 0
    · exact walk_tg k ch bi ra bl sh A c l w hl hc hcm (by omega) hr hg
    · exact walk_tb k ch bi ra bl sh A c l w hl hc hcm (by omega) hr hg
end Go.Proofs.Ytafjjkcfndaclaa.infoBack
