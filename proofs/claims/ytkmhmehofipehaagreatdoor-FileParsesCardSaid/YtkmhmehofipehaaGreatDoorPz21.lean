/- Info read: the reference's Get. -/
import Derived.Test.YtkmhmehofipehaaGreatDoorPz12
import Derived.Deep.RegionHeld3
import Derived.Deep.DeepCutAuto
namespace Go.Proofs.YtkmhmehofipehaaGreatDoor
set_option linter.unusedVariables false
open Go.RowKit
theorem starts_no (l : List UInt8) (k : Nat) (hk : k < l.length) (h4 : k < 4) (h : l[k] ≠ ([68, 83, 67, 49] : List UInt8)[k]) : startsI l = false := by
  unfold startsI
  rw [decide_eq_false]
  intro he
  have h1 : (l.take 4)[k]? = (([68, 83, 67, 49] : List UInt8).take l.length)[k]? := by rw [he]
  rw [List.getElem?_take_of_lt h4, List.getElem?_take_of_lt hk, List.getElem?_eq_getElem hk, List.getElem?_eq_getElem (by simpa using h4)] at h1
  injection h1 with h1
  exact h h1
theorem starts_yes (l : List UInt8) (k : Nat) (hk : k ≤ l.length) (h4 : k ≤ 4) (h : l.take k = ([68, 83, 67, 49] : List UInt8).take k) (hend : ¬ (k < 4 ∧ k < l.length)) : startsI l = true := by
  unfold startsI
  rw [decide_eq_true]
  by_cases h5 : k = 4
  · subst h5
    rw [h, List.take_of_length_le (l := [68, 83, 67, 49]) (i := l.length) (by simpa using hk)]
    rfl
  · have : k = l.length := by omega
    subst this
    rw [← h, List.take_length, List.take_of_length_le (by omega)]
set_option maxHeartbeats 4000000 in
theorem riget_any (A : Option Addr) (c : Nat) (l : List UInt8) (w : World) (hl : SeesB w A l) (hc : l.length ≤ c) (hcm : c ≤ maxLen) :
    Calls Tryz.prog 17 #[.slice A l.length c] w (GetPost w (getI l)) := by
  obtain ⟨R, hR⟩ : ∃ R, R = getI l := ⟨_, rfl⟩
  rw [← hR]
  have HR := hid hR
  clear hR
  have hb : Below w.heap.size w (w.alloc (.cells #[.int .i64 0, .int .i64 0, .int .i64 0, .int .i64 0, .int .i64 0, .int .i64 0] 27)) := (Below.refl _ w).alloc (Nat.le_refl _) _
  have hrow := heap_alloc_new w (.cells #[.int .i64 0, .int .i64 0, .int .i64 0, .int .i64 0, .int .i64 0, .int .i64 0] 27)
  have hlt0 : w.heap.size < (w.alloc (.cells #[.int .i64 0, .int .i64 0, .int .i64 0, .int .i64 0, .int .i64 0, .int .i64 0] 27)).heap.size := (Array.getElem?_eq_some_iff.1 hrow).1
  go_enter Tryz.func17, Tryz.ntmps17
  go_upto_region 1 with (fail)
  generalize w.alloc (.cells #[.int .i64 0, .int .i64 0, .int .i64 0, .int .i64 0, .int .i64 0, .int .i64 0] 27) = w0 at *
  have hb1 : Below w0.heap.size w0 (w0.alloc (.cells #[.int .u8 68, .int .u8 83, .int .u8 67, .int .u8 49] 5)) := (Below.refl _ w0).alloc (Nat.le_refl _) _
  have hsM : SeesB (w0.alloc (.cells #[.int .u8 68, .int .u8 83, .int .u8 67, .int .u8 49] 5)) (some ⟨w0.heap.size, 0, none⟩) [68, 83, 67, 49] := Sees.of_block (heap_alloc_new w0 _) rfl
  have hbw1 := hb.trans (hb1.mono hb.size)
  have hrow1 := (hb1.block w.heap.size hlt0).trans hrow
  go_wp2_with fail
  clear hb hb1 hrow hlt0
  generalize w0.alloc (.cells #[.int .u8 68, .int .u8 83, .int .u8 67, .int .u8 49] 5) = w1 at *
  generalize hAM : (⟨w0.heap.size, 0, none⟩ : Addr) = aM at *
  clear hAM
  go_loopw [5] (fun i wr => ∃ n : Nat, n ≤ 4 ∧ n ≤ l.length ∧ i = .int .i64 n ∧ l.take n = ([68, 83, 67, 49] : List UInt8).take n ∧ SeesB wr (some aM) [68, 83, 67, 49] ∧ SeesB wr A l ∧ wr.heap[w.heap.size]? = some (.cells #[.int .i64 0, .int .i64 0, .int .i64 0, .int .i64 0, .int .i64 0, .int .i64 0] 27 (0, 0)) ∧ Below w.heap.size w wr) (fun i _ => 4 - (intOf i).toNat)
  case atStart => exact ⟨0, by omega, by omega, rfl, by simp, hsM, hl.below hbw1, hrow1, hbw1⟩
  case round =>
    clear hsM hbw1 hrow1
    obtain ⟨n, hn4, hnl, rfl, heq, hsM, hlw, hrow, hbw⟩ := hrel
    have HEQ := hid heq
    clear heq
    by_cases h4 : n < 4
    · have d1 : decide ((n : Int) < 4) = true := by simp; omega
      by_cases hlt : n < l.length
      · have d2 : decide (n < l.length) = true := by simpa using hlt
        obtain ⟨a, rfl, ca⟩ := hlw.at hlt
        have hm4 : n < ([68, 83, 67, 49] : List UInt8).length := h4
        obtain ⟨a', ha', cm⟩ := hsM.at hm4
        injection ha' with ha'
        subst ha'
        have f1 : (n : Int) < l.length := by omega
        have f2 : (n : Int) < 4 := by omega
        obtain ⟨mb, hmb⟩ : ∃ mb, mb = ([68, 83, 67, 49] : List UInt8)[n] := ⟨_, rfl⟩
        rw [← hmb] at cm
        have HMB := hid hmb
        clear hmb
        by_cases hx : l[n] = mb
        · have d3 : ((l[n].toNat : Int) != mb.toNat) = false := by rw [hx]; simp
          have HX := hid hx
          clear hx
          go_wp2_with fail
          go_quiet (fail)
          go_wp2_with fail
          exact ⟨⟨n + 1, by omega, hlt, by go_num, by rw [List.take_succ_eq_append_getElem hlt, List.take_succ_eq_append_getElem hm4, HEQ.out, HX.out, HMB.out], hsM, hlw, hrow, ⟨hbw.os, hbw.tape, hbw.output, hbw.size, hbw.block⟩⟩, by simp [intOf]; omega⟩
        · have d3 : ((l[n].toNat : Int) != mb.toNat) = true := by
            simp only [bne_iff_ne, ne_eq]
            intro h
            exact hx (UInt8.toNat_inj.1 (by omega))
          obtain rfl : R = (31, 0, 0, 0, 0, 0, 0) := by
            rw [HR.out]; unfold getI
            rw [if_pos (starts_no l n hlt h4 (by rw [← HMB.out]; exact hx))]
          clear hx HR
          have c0 : wr.cell? ⟨w.heap.size, 0, none⟩ = some (.int .i64 0) := by rw [cell_of_row _ _ _ _ _ _ hrow]; rfl
          have f0 : wr.frozen? ⟨w.heap.size, 0, none⟩ = false := frozen_of_row _ _ _ _ _ hrow
          have c1 : wr.cell? ⟨w.heap.size, 1, none⟩ = some (.int .i64 0) := by rw [cell_of_row _ _ _ _ _ _ hrow]; rfl
          have f1 : wr.frozen? ⟨w.heap.size, 1, none⟩ = false := frozen_of_row _ _ _ _ _ hrow
          have c2 : wr.cell? ⟨w.heap.size, 2, none⟩ = some (.int .i64 0) := by rw [cell_of_row _ _ _ _ _ _ hrow]; rfl
          have f2 : wr.frozen? ⟨w.heap.size, 2, none⟩ = false := frozen_of_row _ _ _ _ _ hrow
          have c3 : wr.cell? ⟨w.heap.size, 3, none⟩ = some (.int .i64 0) := by rw [cell_of_row _ _ _ _ _ _ hrow]; rfl
          have f3 : wr.frozen? ⟨w.heap.size, 3, none⟩ = false := frozen_of_row _ _ _ _ _ hrow
          have c4 : wr.cell? ⟨w.heap.size, 4, none⟩ = some (.int .i64 0) := by rw [cell_of_row _ _ _ _ _ _ hrow]; rfl
          have f4 : wr.frozen? ⟨w.heap.size, 4, none⟩ = false := frozen_of_row _ _ _ _ _ hrow
          have c5 : wr.cell? ⟨w.heap.size, 5, none⟩ = some (.int .i64 0) := by rw [cell_of_row _ _ _ _ _ _ hrow]; rfl
          have f5 : wr.frozen? ⟨w.heap.size, 5, none⟩ = false := frozen_of_row _ _ _ _ _ hrow
          go_wp2_with fail
          go_quiet (fail)
          go_wp2_with fail
          have r0 := fun v => heap_setCell_same _ w.heap.size 0 _ _ v (show (World.drewN wr nq).heap[w.heap.size]? = some (.cells #[.int .i64 0, .int .i64 0, .int .i64 0, .int .i64 0, .int .i64 0, .int .i64 0] 27 (0, 0)) from hrow)
          have b0 := fun v => Below.setCell (show Below w.heap.size w (World.drewN wr nq) from ⟨hbw.os, hbw.tape, hbw.output, hbw.size, hbw.block⟩) (p := ⟨w.heap.size, 0, none⟩) (Nat.le_refl _) v
          have r1 := fun v => heap_setCell_same _ w.heap.size 1 _ _ v (r0 (.int .i64 0))
          have b1 := fun v => Below.setCell (b0 (.int .i64 0)) (p := ⟨w.heap.size, 1, none⟩) (Nat.le_refl _) v
          have r2 := fun v => heap_setCell_same _ w.heap.size 2 _ _ v (r1 (.int .i64 0))
          have b2 := fun v => Below.setCell (b1 (.int .i64 0)) (p := ⟨w.heap.size, 2, none⟩) (Nat.le_refl _) v
          have r3 := fun v => heap_setCell_same _ w.heap.size 3 _ _ v (r2 (.int .i64 0))
          have b3 := fun v => Below.setCell (b2 (.int .i64 0)) (p := ⟨w.heap.size, 3, none⟩) (Nat.le_refl _) v
          have r4 := fun v => heap_setCell_same _ w.heap.size 4 _ _ v (r3 (.int .i64 0))
          have b4 := fun v => Below.setCell (b3 (.int .i64 0)) (p := ⟨w.heap.size, 4, none⟩) (Nat.le_refl _) v
          have r5 := fun v => heap_setCell_same _ w.heap.size 5 _ _ v (r4 (.int .i64 0))
          have b5 := fun v => Below.setCell (b4 (.int .i64 0)) (p := ⟨w.heap.size, 5, none⟩) (Nat.le_refl _) v
          exact bodyPost_ret (results_row_tmp rfl _ _ w.heap.size _ _ _ _ rfl (r5 (.int .i64 0)) Tryz.underlying27 rfl (by kernel_rfl)) rfl ⟨rfl, (b5 (.int .i64 0))⟩
      · have hend : startsI l = true := starts_yes l n hnl hn4 HEQ.out (fun h => hlt h.2)
        have d2 : decide (n < l.length) = false := by simpa using hlt
        have d3 : decide ((l.length : Int) < 19) = true := by simp; omega
        obtain rfl : R = (10, 0, 0, 0, 0, 0, 0) := by
          rw [HR.out]; unfold getI
          rw [if_neg (by rw [hend]; simp), if_pos (by omega)]
        clear hend HR
        have c0 : wr.cell? ⟨w.heap.size, 0, none⟩ = some (.int .i64 0) := by rw [cell_of_row _ _ _ _ _ _ hrow]; rfl
        have f0 : wr.frozen? ⟨w.heap.size, 0, none⟩ = false := frozen_of_row _ _ _ _ _ hrow
        have c1 : wr.cell? ⟨w.heap.size, 1, none⟩ = some (.int .i64 0) := by rw [cell_of_row _ _ _ _ _ _ hrow]; rfl
        have f1 : wr.frozen? ⟨w.heap.size, 1, none⟩ = false := frozen_of_row _ _ _ _ _ hrow
        have c2 : wr.cell? ⟨w.heap.size, 2, none⟩ = some (.int .i64 0) := by rw [cell_of_row _ _ _ _ _ _ hrow]; rfl
        have f2 : wr.frozen? ⟨w.heap.size, 2, none⟩ = false := frozen_of_row _ _ _ _ _ hrow
        have c3 : wr.cell? ⟨w.heap.size, 3, none⟩ = some (.int .i64 0) := by rw [cell_of_row _ _ _ _ _ _ hrow]; rfl
        have f3 : wr.frozen? ⟨w.heap.size, 3, none⟩ = false := frozen_of_row _ _ _ _ _ hrow
        have c4 : wr.cell? ⟨w.heap.size, 4, none⟩ = some (.int .i64 0) := by rw [cell_of_row _ _ _ _ _ _ hrow]; rfl
        have f4 : wr.frozen? ⟨w.heap.size, 4, none⟩ = false := frozen_of_row _ _ _ _ _ hrow
        have c5 : wr.cell? ⟨w.heap.size, 5, none⟩ = some (.int .i64 0) := by rw [cell_of_row _ _ _ _ _ _ hrow]; rfl
        have f5 : wr.frozen? ⟨w.heap.size, 5, none⟩ = false := frozen_of_row _ _ _ _ _ hrow
        go_wp2_with fail
        have r0 := fun v => heap_setCell_same _ w.heap.size 0 _ _ v hrow
        have b0 := fun v => Below.setCell hbw (p := ⟨w.heap.size, 0, none⟩) (Nat.le_refl _) v
        have r1 := fun v => heap_setCell_same _ w.heap.size 1 _ _ v (r0 (.int .i64 0))
        have b1 := fun v => Below.setCell (b0 (.int .i64 0)) (p := ⟨w.heap.size, 1, none⟩) (Nat.le_refl _) v
        have r2 := fun v => heap_setCell_same _ w.heap.size 2 _ _ v (r1 (.int .i64 0))
        have b2 := fun v => Below.setCell (b1 (.int .i64 0)) (p := ⟨w.heap.size, 2, none⟩) (Nat.le_refl _) v
        have r3 := fun v => heap_setCell_same _ w.heap.size 3 _ _ v (r2 (.int .i64 0))
        have b3 := fun v => Below.setCell (b2 (.int .i64 0)) (p := ⟨w.heap.size, 3, none⟩) (Nat.le_refl _) v
        have r4 := fun v => heap_setCell_same _ w.heap.size 4 _ _ v (r3 (.int .i64 0))
        have b4 := fun v => Below.setCell (b3 (.int .i64 0)) (p := ⟨w.heap.size, 4, none⟩) (Nat.le_refl _) v
        have r5 := fun v => heap_setCell_same _ w.heap.size 5 _ _ v (r4 (.int .i64 0))
        have b5 := fun v => Below.setCell (b4 (.int .i64 0)) (p := ⟨w.heap.size, 5, none⟩) (Nat.le_refl _) v
        exact bodyPost_ret (results_row_tmp rfl _ _ w.heap.size _ _ _ _ rfl (r5 (.int .i64 0)) Tryz.underlying27 rfl (by kernel_rfl)) rfl ⟨rfl, (b5 (.int .i64 0))⟩
    · have d1 : decide ((n : Int) < 4) = false := by simp; omega
      have hend : startsI l = true := starts_yes l n hnl hn4 HEQ.out (fun h => h4 h.1)
      by_cases hlt : l.length < 19
      · have d3 : decide ((l.length : Int) < 19) = true := by simp; omega
        obtain rfl : R = (10, 0, 0, 0, 0, 0, 0) := by
          rw [HR.out]; unfold getI
          rw [if_neg (by rw [hend]; simp), if_pos hlt]
        clear hend HR
        have c0 : wr.cell? ⟨w.heap.size, 0, none⟩ = some (.int .i64 0) := by rw [cell_of_row _ _ _ _ _ _ hrow]; rfl
        have f0 : wr.frozen? ⟨w.heap.size, 0, none⟩ = false := frozen_of_row _ _ _ _ _ hrow
        have c1 : wr.cell? ⟨w.heap.size, 1, none⟩ = some (.int .i64 0) := by rw [cell_of_row _ _ _ _ _ _ hrow]; rfl
        have f1 : wr.frozen? ⟨w.heap.size, 1, none⟩ = false := frozen_of_row _ _ _ _ _ hrow
        have c2 : wr.cell? ⟨w.heap.size, 2, none⟩ = some (.int .i64 0) := by rw [cell_of_row _ _ _ _ _ _ hrow]; rfl
        have f2 : wr.frozen? ⟨w.heap.size, 2, none⟩ = false := frozen_of_row _ _ _ _ _ hrow
        have c3 : wr.cell? ⟨w.heap.size, 3, none⟩ = some (.int .i64 0) := by rw [cell_of_row _ _ _ _ _ _ hrow]; rfl
        have f3 : wr.frozen? ⟨w.heap.size, 3, none⟩ = false := frozen_of_row _ _ _ _ _ hrow
        have c4 : wr.cell? ⟨w.heap.size, 4, none⟩ = some (.int .i64 0) := by rw [cell_of_row _ _ _ _ _ _ hrow]; rfl
        have f4 : wr.frozen? ⟨w.heap.size, 4, none⟩ = false := frozen_of_row _ _ _ _ _ hrow
        have c5 : wr.cell? ⟨w.heap.size, 5, none⟩ = some (.int .i64 0) := by rw [cell_of_row _ _ _ _ _ _ hrow]; rfl
        have f5 : wr.frozen? ⟨w.heap.size, 5, none⟩ = false := frozen_of_row _ _ _ _ _ hrow
        go_wp2_with fail
        have r0 := fun v => heap_setCell_same _ w.heap.size 0 _ _ v hrow
        have b0 := fun v => Below.setCell hbw (p := ⟨w.heap.size, 0, none⟩) (Nat.le_refl _) v
        have r1 := fun v => heap_setCell_same _ w.heap.size 1 _ _ v (r0 (.int .i64 0))
        have b1 := fun v => Below.setCell (b0 (.int .i64 0)) (p := ⟨w.heap.size, 1, none⟩) (Nat.le_refl _) v
        have r2 := fun v => heap_setCell_same _ w.heap.size 2 _ _ v (r1 (.int .i64 0))
        have b2 := fun v => Below.setCell (b1 (.int .i64 0)) (p := ⟨w.heap.size, 2, none⟩) (Nat.le_refl _) v
        have r3 := fun v => heap_setCell_same _ w.heap.size 3 _ _ v (r2 (.int .i64 0))
        have b3 := fun v => Below.setCell (b2 (.int .i64 0)) (p := ⟨w.heap.size, 3, none⟩) (Nat.le_refl _) v
        have r4 := fun v => heap_setCell_same _ w.heap.size 4 _ _ v (r3 (.int .i64 0))
        have b4 := fun v => Below.setCell (b3 (.int .i64 0)) (p := ⟨w.heap.size, 4, none⟩) (Nat.le_refl _) v
        have r5 := fun v => heap_setCell_same _ w.heap.size 5 _ _ v (r4 (.int .i64 0))
        have b5 := fun v => Below.setCell (b4 (.int .i64 0)) (p := ⟨w.heap.size, 5, none⟩) (Nat.le_refl _) v
        exact bodyPost_ret (results_row_tmp rfl _ _ w.heap.size _ _ _ _ rfl (r5 (.int .i64 0)) Tryz.underlying27 rfl (by kernel_rfl)) rfl ⟨rfl, (b5 (.int .i64 0))⟩
      have d3 : decide ((l.length : Int) < 19) = false := by simp; omega
      obtain ⟨a, rfl, _⟩ := hlw.at (show 0 < l.length by omega)
      have g2 : (19 : Int) ≤ c := by omega
      have g3 : (15 : Int) ≤ c := by omega
      have g4 : (15 : Int) ≤ 19 := by omega
      have hl15 : SeesB wr (some a) (l.take 15) := by unfold SeesB; rw [List.map_take]; exact Sees.take hlw 15
      have hlv : SeesB wr (some (a.add 15)) ((l.drop 15).take 4) := hlw.cutTo 15 4
      have h15 : (l.take 15).length = 15 := by rw [List.length_take]; omega
      have hv4 : ((l.drop 15).take 4).length = 4 := by simp; omega
      have hsr := sumI_range (l.take 15)
      obtain ⟨S, hS⟩ := Int.eq_ofNat_of_zero_le hsr.1
      have hsum := fun W (hl : SeesB W (some a) (l.take 15)) => rsum_any (some a) c (l.take 15) W hl (by omega)
      rw [h15, hS] at hsum
      rw [hS] at hsr
      have hS4 : S < 4294967296 := by omega
      have hlv' : SeesB wr (some { block := a.block, off := a.off + 15 }) ((l.drop 15).take 4) := hlv
      have hval := fun W (hl : SeesB W (some { block := a.block, off := a.off + 15 }) ((l.drop 15).take 4)) => rvalue_any (some { block := a.block, off := a.off + 15 }) (c - 15) ((l.drop 15).take 4) W hl (by omega)
      rw [hv4, show valLE ((l.drop 15).take 4) = fld l 15 4 from rfl] at hval
      obtain ⟨su, hsu⟩ : ∃ y, y = fld l 15 4 := ⟨_, rfl⟩
      rw [← hsu] at hval
      have v5 := fld_lt l 15 4
      rw [← hsu] at v5
      have HSU := hid hsu
      have HSUM := hid hsum
      have HVAL := hid hval
      have HS := hid hS
      have hd15 : SeesB wr.drew (some a) (l.take 15) := hl15
      have hdv : SeesB wr.drew (some { block := a.block, off := a.off + 15 }) ((l.drop 15).take 4) := hlv'
      clear hsum hval hS hsr hsu h15 hv4 hlv
      go_wp2_with fail
      go_region_held3 (fun w' => SeesB w' (some a) (l.take 15) ∧ SeesB w' (some { block := a.block, off := a.off + 15 }) ((l.drop 15).take 4)) (first | exact ⟨hd15, hdv⟩ | exact ⟨hl15, hlv'⟩)
        (first | (go_at_call 35; refine (HSUM.out _ ?_).mono ?_; exact hd15; rintro e wb ⟨rfl, rfl⟩) | (go_at_call 36; refine (HVAL.out _ ?_).mono ?_; exact hdv; rintro e wb ⟨rfl, rfl⟩))
      have hrowx : wr.drew.heap[w.heap.size]? = some (.cells #[.int .i64 0, .int .i64 0, .int .i64 0, .int .i64 0, .int .i64 0, .int .i64 0] 27 (0, 0)) := hrow
      have hbwx : Below w.heap.size w wr.drew := ⟨hbw.os, hbw.tape, hbw.output, hbw.size, hbw.block⟩
      have hlwx : SeesB wr.drew (some a) l := hlw
      clear hrow hbw hlw hd15 hdv hl15 hlv' hsM HSUM HVAL
      generalize wr.drew = wx at *
      by_cases heqs : S = su
      · have dd : ((S : Int) != (su : Int)) = false := by rw [heqs]; simp
        have dd2 : (IntKind.u64.wrap (S : Int) != (su : Int)) = false := by
          rw [show IntKind.u64.wrap (S : Int) = (S : Int) by rw [IntKind.wrap_u64]; omega]; exact dd
        have HEQS := hid heqs
        clear heqs
        have b5 := hlwx.at (show 5 < l.length by omega)
        have b6 := hlwx.at (show 6 < l.length by omega)
        obtain ⟨a1, ha1, b5⟩ := b5
        obtain ⟨a2, ha2, b6⟩ := b6
        injection ha1 with ha1
        injection ha2 with ha2
        subst ha1
        subst ha2
        have q5 : wx.cell? { block := a.block, off := a.off + 5 } = some (.int .u8 (l[5].toNat : Int)) := b5
        have q6 : wx.cell? { block := a.block, off := a.off + 6 } = some (.int .u8 (l[6].toNat : Int)) := b6
        have n5 := World.new_ne wx _ q5
        have y5 : (5 : Int) < l.length := by omega
        have y6 : (6 : Int) < l.length := by omega
        have z8 : (8 : Int) ≤ 11 := by omega
        have z11 : (11 : Int) ≤ c := by omega
        have hc8 : ¬ c = 8 := by omega
        have hl8 : SeesB wx (some { block := a.block, off := a.off + 8 }) ((l.drop 8).take 3) := hlwx.cutTo 8 3
        have hv3 : ((l.drop 8).take 3).length = 3 := by simp; omega
        have hval := fun W (hl : SeesB W (some { block := a.block, off := a.off + 8 }) ((l.drop 8).take 3)) => rvalue_any (some { block := a.block, off := a.off + 8 }) (c - 8) ((l.drop 8).take 3) W hl (by omega)
        rw [hv3, show valLE ((l.drop 8).take 3) = fld l 8 3 from rfl] at hval
        obtain ⟨ra, hra⟩ : ∃ y, y = fld l 8 3 := ⟨_, rfl⟩
        have v8 := fld_lt l 8 3
        rw [← hra] at hval v8
        have HVAL3 := hid hval
        have HRA := hid hra
        clear hval hra hv3 b5 b6
        have hfb : ∀ (i : Nat) (h : i < l.length), fld l i 1 = l[i].toNat := fun i h => by
          unfold fld
          rw [List.drop_eq_getElem_cons h, List.take_succ_cons, List.take_zero, valLE_cons]
          simp [valLE]
        have hwr : ∀ (b : Nat), b < 4294967296 → IntKind.i64.wrap (b : Int) = (b : Int) := fun b h => by rw [IntKind.wrap_i64]; omega
        have HW5 : Hid (IntKind.i64.wrap (l[5].toNat : Int) = (fld l 5 1 : Nat)) := hid (by rw [hfb 5 (by omega)]; exact hwr _ (by have := byte_lt l[5]; omega))
        have HW6 : Hid (IntKind.i64.wrap (l[6].toNat : Int) = (fld l 6 1 : Nat)) := hid (by rw [hfb 6 (by omega)]; exact hwr _ (by have := byte_lt l[6]; omega))
        have HWR : Hid (IntKind.i64.wrap (ra : Int) = (ra : Int)) := hid (hwr _ (by omega))
        have HW4 : Hid (IntKind.i64.wrap (l[4].toNat : Int) = (fld l 4 1 : Nat)) := hid (by rw [hfb 4 (by omega)]; exact hwr _ (by have := byte_lt l[4]; omega))
        have HW7 : Hid (IntKind.i64.wrap (l[7].toNat : Int) = (fld l 7 1 : Nat)) := hid (by rw [hfb 7 (by omega)]; exact hwr _ (by have := byte_lt l[7]; omega))
        obtain ⟨a3, ha3, b4⟩ := hlwx.at (show 4 < l.length by omega)
        obtain ⟨a4, ha4, b7⟩ := hlwx.at (show 7 < l.length by omega)
        injection ha3 with ha3
        injection ha4 with ha4
        subst ha3
        subst ha4
        obtain ⟨bl, hbl⟩ : ∃ y, y = fld l 11 4 := ⟨_, rfl⟩
        have v11 := fld_lt l 11 4
        rw [← hbl] at v11
        have HBL := hid hbl
        clear hbl
        have HWB : Hid (IntKind.i64.wrap (bl : Int) = (bl : Int)) := hid (hwr _ (by omega))
        clear hfb hwr
        have hl8d : SeesB wx.drew (some { block := a.block, off := a.off + 8 }) ((l.drop 8).take 3) := hl8
        go_upto_region 11 with (fail)
        go_region_held3 (fun w' => w'.cell? { block := a.block, off := a.off + 5 } = some (.int .u8 (l[5].toNat : Int)) ∧ w'.cell? { block := a.block, off := a.off + 6 } = some (.int .u8 (l[6].toNat : Int))) (go_keep)
          (first | (go_at_call 36; refine (HVAL3.out _ ?_).mono ?_; (first | exact hl8d | exact SeesB.below hl8d ((Below.refl _ _).alloc (Nat.le_refl _) _)); rintro e wb ⟨rfl, rfl⟩))
        all_goals
          change Exit.then _ _ _ _ ((wx.alloc (.cells #[.int .i64 (IntKind.i64.wrap (l[5].toNat : Int)), .int .i64 (IntKind.i64.wrap (l[6].toNat : Int)), .int .i64 (IntKind.i64.wrap (ra : Int))] 25)).drew)
          simp only [HW5.out, HW6.out, HWR.out]
          have hb7 : Below wx.heap.size wx (wx.alloc (.cells #[.int .i64 (fld l 5 1 : Nat), .int .i64 (fld l 6 1 : Nat), .int .i64 (ra : Int)] 25)).drew := ((Below.refl _ _).alloc (Nat.le_refl _) _).drew
          have hF : (wx.alloc (.cells #[.int .i64 (fld l 5 1 : Nat), .int .i64 (fld l 6 1 : Nat), .int .i64 (ra : Int)] 25)).drew.heap[wx.heap.size]? = some (.cells #[.int .i64 (fld l 5 1 : Nat), .int .i64 (fld l 6 1 : Nat), .int .i64 (ra : Int)] 25 (0, 0)) := heap_alloc_new wx _
          have hbwy := hbwx.trans (hb7.mono hbwx.size)
          have hrowy := (hb7.block w.heap.size (Array.getElem?_eq_some_iff.1 hrowx).1).trans hrowx
          have hly := hlwx.below hb7
          have q4 : (wx.alloc (.cells #[.int .i64 (fld l 5 1 : Nat), .int .i64 (fld l 6 1 : Nat), .int .i64 (ra : Int)] 25)).drew.cell? { block := a.block, off := a.off + 4 } = some (.int .u8 (l[4].toNat : Int)) := keep1 hb7 b4
          have q7 : (wx.alloc (.cells #[.int .i64 (fld l 5 1 : Nat), .int .i64 (fld l 6 1 : Nat), .int .i64 (ra : Int)] 25)).drew.cell? { block := a.block, off := a.off + 7 } = some (.int .u8 (l[7].toNat : Int)) := keep1 hb7 b7
          clear hb7 hbwx hrowx hlwx b4 b7 q5 q6 hl8 hl8d n5
          generalize (wx.alloc (.cells #[.int .i64 (fld l 5 1 : Nat), .int .i64 (fld l 6 1 : Nat), .int .i64 (ra : Int)] 25)).drew = wy at *
          have g0 : wy.cell? ⟨wx.heap.size, 0, none⟩ = some (.int .i64 (fld l 5 1 : Nat)) := by rw [cell_of_row _ _ _ _ _ _ hF]; rfl
          have g1 : wy.cell? ⟨wx.heap.size, 1, none⟩ = some (.int .i64 (fld l 6 1 : Nat)) := by rw [cell_of_row _ _ _ _ _ _ hF]; rfl
          have g2' : wy.cell? ⟨wx.heap.size, 2, none⟩ = some (.int .i64 (ra : Int)) := by rw [cell_of_row _ _ _ _ _ _ hF]; rfl
          have n4 := World.new_ne wy _ q4
          have n6 := World.new_ne wy _ g0
          have y4 : (4 : Int) < l.length := by omega
          have y7 : (7 : Int) < l.length := by omega
          have z12 : (11 : Int) ≤ 15 := by omega
          have hc11 : ¬ c = 11 := by omega
          have hl11 : SeesB wy.drew (some { block := a.block, off := a.off + 11 }) ((l.drop 11).take 4) := hly.cutTo 11 4
          have hv4 : ((l.drop 11).take 4).length = 4 := by simp; omega
          have hval := fun W (hl : SeesB W (some { block := a.block, off := a.off + 11 }) ((l.drop 11).take 4)) => rvalue_any (some { block := a.block, off := a.off + 11 }) (c - 11) ((l.drop 11).take 4) W hl (by omega)
          rw [hv4, show valLE ((l.drop 11).take 4) = fld l 11 4 from rfl, ← HBL.out] at hval
          have HVAL4 := hid hval
          clear hval hv4 hF
          go_wp2_with fail
          go_region_held3 (fun w' => w'.cell? { block := a.block, off := a.off + 4 } = some (.int .u8 (l[4].toNat : Int)) ∧ w'.cell? { block := a.block, off := a.off + 7 } = some (.int .u8 (l[7].toNat : Int)) ∧ w'.cell? ⟨wx.heap.size, 0, none⟩ = some (.int .i64 (fld l 5 1 : Nat)) ∧ w'.cell? ⟨wx.heap.size, 1, none⟩ = some (.int .i64 (fld l 6 1 : Nat)) ∧ w'.cell? ⟨wx.heap.size, 2, none⟩ = some (.int .i64 (ra : Int))) (go_keep)
            (first | (go_at_call 36; refine (HVAL4.out _ ?_).mono ?_; (first | exact hl11 | exact SeesB.below hl11 ((Below.refl _ _).alloc (Nat.le_refl _) _)); rintro e wb ⟨rfl, rfl⟩))
          all_goals
            change Exit.then _ _ _ _ ((wy.alloc (.cells #[.int .i64 (IntKind.i64.wrap (l[4].toNat : Int)), .int .i64 (fld l 5 1 : Nat), .int .i64 (fld l 6 1 : Nat), .int .i64 (ra : Int), .int .i64 (IntKind.i64.wrap (bl : Int)), .int .i64 (IntKind.i64.wrap (l[7].toNat : Int))] 27)).drew)
            simp only [HW4.out, HW7.out, HWB.out]
            have hb9 : Below wy.heap.size wy (wy.alloc (.cells #[.int .i64 (fld l 4 1 : Nat), .int .i64 (fld l 5 1 : Nat), .int .i64 (fld l 6 1 : Nat), .int .i64 (ra : Int), .int .i64 (bl : Int), .int .i64 (fld l 7 1 : Nat)] 27)).drew := ((Below.refl _ _).alloc (Nat.le_refl _) _).drew
            have hI : (wy.alloc (.cells #[.int .i64 (fld l 4 1 : Nat), .int .i64 (fld l 5 1 : Nat), .int .i64 (fld l 6 1 : Nat), .int .i64 (ra : Int), .int .i64 (bl : Int), .int .i64 (fld l 7 1 : Nat)] 27)).drew.heap[wy.heap.size]? = some (.cells #[.int .i64 (fld l 4 1 : Nat), .int .i64 (fld l 5 1 : Nat), .int .i64 (fld l 6 1 : Nat), .int .i64 (ra : Int), .int .i64 (bl : Int), .int .i64 (fld l 7 1 : Nat)] 27 (0, 0)) := heap_alloc_new wy _
            have hbwz := hbwy.trans (hb9.mono hbwy.size)
            have hrowz := (hb9.block w.heap.size (Array.getElem?_eq_some_iff.1 hrowy).1).trans hrowy
            clear hb9 hbwy hrowy hly q4 q7 g0 g1 g2' n4 n6 hl11
            generalize (wy.alloc (.cells #[.int .i64 (fld l 4 1 : Nat), .int .i64 (fld l 5 1 : Nat), .int .i64 (fld l 6 1 : Nat), .int .i64 (ra : Int), .int .i64 (bl : Int), .int .i64 (fld l 7 1 : Nat)] 27)).drew = wz at *
            have hlz : w.heap.size < wz.heap.size := (Array.getElem?_eq_some_iff.1 hrowz).1
            have e0 : wz.cell? ⟨wy.heap.size, 0, none⟩ = some (.int .i64 (fld l 4 1 : Nat)) := by rw [cell_of_row _ _ _ _ _ _ hI]; rfl
            have e1 : wz.cell? ⟨wy.heap.size, 1, none⟩ = some (.int .i64 (fld l 5 1 : Nat)) := by rw [cell_of_row _ _ _ _ _ _ hI]; rfl
            have e2 : wz.cell? ⟨wy.heap.size, 2, none⟩ = some (.int .i64 (fld l 6 1 : Nat)) := by rw [cell_of_row _ _ _ _ _ _ hI]; rfl
            have e3 : wz.cell? ⟨wy.heap.size, 3, none⟩ = some (.int .i64 (ra : Int)) := by rw [cell_of_row _ _ _ _ _ _ hI]; rfl
            have e4 : wz.cell? ⟨wy.heap.size, 4, none⟩ = some (.int .i64 (bl : Int)) := by rw [cell_of_row _ _ _ _ _ _ hI]; rfl
            have e5 : wz.cell? ⟨wy.heap.size, 5, none⟩ = some (.int .i64 (fld l 7 1 : Nat)) := by rw [cell_of_row _ _ _ _ _ _ hI]; rfl
            go_wp2_with fail
            refine (riright_any (fld l 4 1) (fld l 5 1) (fld l 6 1) ra bl (fld l 7 1) _).mono ?_
            rintro e w8 ⟨rfl, hb8⟩
            have hbw8 := hbwz.trans (hb8.mono hbwz.size)
            have hrow8 := (hb8.block w.heap.size hlz).trans hrowz
            replace e0 := keep1 hb8 e0
            replace e1 := keep1 hb8 e1
            replace e2 := keep1 hb8 e2
            replace e3 := keep1 hb8 e3
            replace e4 := keep1 hb8 e4
            replace e5 := keep1 hb8 e5
            have hmid : Hid (∀ b, rightI (fld l 4 1) (fld l 5 1) (fld l 6 1) ra bl (fld l 7 1) = b → getI l = if b = false then (32, 0, 0, 0, 0, 0, 0) else (0, ((fld l 4 1 : Nat) : Int), ((fld l 5 1 : Nat) : Int), ((fld l 6 1 : Nat) : Int), (ra : Int), (bl : Int), ((fld l 7 1 : Nat) : Int))) := hid (fun b hb => by
              unfold getI saidI
              rw [if_neg (by rw [hend]; simp), if_neg hlt, if_neg (by rw [HS.out, HEQS.out, HSU.out]; simp), ← HRA.out, ← HBL.out, hb])
            clear hb8 hbwz hrowz
            cases hr : rightI (fld l 4 1) (fld l 5 1) (fld l 6 1) ra bl (fld l 7 1) with
            | false =>
              obtain rfl : R = (32, 0, 0, 0, 0, 0, 0) := by rw [HR.out, hmid.out false hr, if_pos rfl]
              clear hr hmid HR
              have c0 : w8.cell? ⟨w.heap.size, 0, none⟩ = some (.int .i64 0) := by rw [cell_of_row _ _ _ _ _ _ hrow8]; rfl
              have f0 : w8.frozen? ⟨w.heap.size, 0, none⟩ = false := frozen_of_row _ _ _ _ _ hrow8
              have c1 : w8.cell? ⟨w.heap.size, 1, none⟩ = some (.int .i64 0) := by rw [cell_of_row _ _ _ _ _ _ hrow8]; rfl
              have f1 : w8.frozen? ⟨w.heap.size, 1, none⟩ = false := frozen_of_row _ _ _ _ _ hrow8
              have c2 : w8.cell? ⟨w.heap.size, 2, none⟩ = some (.int .i64 0) := by rw [cell_of_row _ _ _ _ _ _ hrow8]; rfl
              have f2 : w8.frozen? ⟨w.heap.size, 2, none⟩ = false := frozen_of_row _ _ _ _ _ hrow8
              have c3 : w8.cell? ⟨w.heap.size, 3, none⟩ = some (.int .i64 0) := by rw [cell_of_row _ _ _ _ _ _ hrow8]; rfl
              have f3 : w8.frozen? ⟨w.heap.size, 3, none⟩ = false := frozen_of_row _ _ _ _ _ hrow8
              have c4 : w8.cell? ⟨w.heap.size, 4, none⟩ = some (.int .i64 0) := by rw [cell_of_row _ _ _ _ _ _ hrow8]; rfl
              have f4 : w8.frozen? ⟨w.heap.size, 4, none⟩ = false := frozen_of_row _ _ _ _ _ hrow8
              have c5 : w8.cell? ⟨w.heap.size, 5, none⟩ = some (.int .i64 0) := by rw [cell_of_row _ _ _ _ _ _ hrow8]; rfl
              have f5 : w8.frozen? ⟨w.heap.size, 5, none⟩ = false := frozen_of_row _ _ _ _ _ hrow8
              go_wp2_with fail
              have r0 := fun v => heap_setCell_same _ w.heap.size 0 _ _ v hrow8
              have b0 := fun v => Below.setCell hbw8 (p := ⟨w.heap.size, 0, none⟩) (Nat.le_refl _) v
              have r1 := fun v => heap_setCell_same _ w.heap.size 1 _ _ v (r0 (.int .i64 0))
              have b1 := fun v => Below.setCell (b0 (.int .i64 0)) (p := ⟨w.heap.size, 1, none⟩) (Nat.le_refl _) v
              have r2 := fun v => heap_setCell_same _ w.heap.size 2 _ _ v (r1 (.int .i64 0))
              have b2 := fun v => Below.setCell (b1 (.int .i64 0)) (p := ⟨w.heap.size, 2, none⟩) (Nat.le_refl _) v
              have r3 := fun v => heap_setCell_same _ w.heap.size 3 _ _ v (r2 (.int .i64 0))
              have b3 := fun v => Below.setCell (b2 (.int .i64 0)) (p := ⟨w.heap.size, 3, none⟩) (Nat.le_refl _) v
              have r4 := fun v => heap_setCell_same _ w.heap.size 4 _ _ v (r3 (.int .i64 0))
              have b4 := fun v => Below.setCell (b3 (.int .i64 0)) (p := ⟨w.heap.size, 4, none⟩) (Nat.le_refl _) v
              have r5 := fun v => heap_setCell_same _ w.heap.size 5 _ _ v (r4 (.int .i64 0))
              have b5 := fun v => Below.setCell (b4 (.int .i64 0)) (p := ⟨w.heap.size, 5, none⟩) (Nat.le_refl _) v
              exact bodyPost_ret (results_row_tmp rfl _ _ w.heap.size _ _ _ _ rfl (r5 (.int .i64 0)) Tryz.underlying27 rfl (by kernel_rfl)) rfl ⟨rfl, (b5 (.int .i64 0))⟩
            | true =>
              obtain rfl : R = (0, ((fld l 4 1 : Nat) : Int), ((fld l 5 1 : Nat) : Int), ((fld l 6 1 : Nat) : Int), (ra : Int), (bl : Int), ((fld l 7 1 : Nat) : Int)) := by rw [HR.out, hmid.out true hr, if_neg (by simp)]
              clear hr hmid HR
              have c0 : w8.cell? ⟨w.heap.size, 0, none⟩ = some (.int .i64 0) := by rw [cell_of_row _ _ _ _ _ _ hrow8]; rfl
              have f0 : w8.frozen? ⟨w.heap.size, 0, none⟩ = false := frozen_of_row _ _ _ _ _ hrow8
              have c1 : w8.cell? ⟨w.heap.size, 1, none⟩ = some (.int .i64 0) := by rw [cell_of_row _ _ _ _ _ _ hrow8]; rfl
              have f1 : w8.frozen? ⟨w.heap.size, 1, none⟩ = false := frozen_of_row _ _ _ _ _ hrow8
              have c2 : w8.cell? ⟨w.heap.size, 2, none⟩ = some (.int .i64 0) := by rw [cell_of_row _ _ _ _ _ _ hrow8]; rfl
              have f2 : w8.frozen? ⟨w.heap.size, 2, none⟩ = false := frozen_of_row _ _ _ _ _ hrow8
              have c3 : w8.cell? ⟨w.heap.size, 3, none⟩ = some (.int .i64 0) := by rw [cell_of_row _ _ _ _ _ _ hrow8]; rfl
              have f3 : w8.frozen? ⟨w.heap.size, 3, none⟩ = false := frozen_of_row _ _ _ _ _ hrow8
              have c4 : w8.cell? ⟨w.heap.size, 4, none⟩ = some (.int .i64 0) := by rw [cell_of_row _ _ _ _ _ _ hrow8]; rfl
              have f4 : w8.frozen? ⟨w.heap.size, 4, none⟩ = false := frozen_of_row _ _ _ _ _ hrow8
              have c5 : w8.cell? ⟨w.heap.size, 5, none⟩ = some (.int .i64 0) := by rw [cell_of_row _ _ _ _ _ _ hrow8]; rfl
              have f5 : w8.frozen? ⟨w.heap.size, 5, none⟩ = false := frozen_of_row _ _ _ _ _ hrow8
              go_wp2_with fail
              have r0 := fun v => heap_setCell_same _ w.heap.size 0 _ _ v hrow8
              have b0 := fun v => Below.setCell hbw8 (p := ⟨w.heap.size, 0, none⟩) (Nat.le_refl _) v
              have r1 := fun v => heap_setCell_same _ w.heap.size 1 _ _ v (r0 (.int .i64 ((fld l 4 1 : Nat) : Int)))
              have b1 := fun v => Below.setCell (b0 (.int .i64 ((fld l 4 1 : Nat) : Int))) (p := ⟨w.heap.size, 1, none⟩) (Nat.le_refl _) v
              have r2 := fun v => heap_setCell_same _ w.heap.size 2 _ _ v (r1 (.int .i64 ((fld l 5 1 : Nat) : Int)))
              have b2 := fun v => Below.setCell (b1 (.int .i64 ((fld l 5 1 : Nat) : Int))) (p := ⟨w.heap.size, 2, none⟩) (Nat.le_refl _) v
              have r3 := fun v => heap_setCell_same _ w.heap.size 3 _ _ v (r2 (.int .i64 ((fld l 6 1 : Nat) : Int)))
              have b3 := fun v => Below.setCell (b2 (.int .i64 ((fld l 6 1 : Nat) : Int))) (p := ⟨w.heap.size, 3, none⟩) (Nat.le_refl _) v
              have r4 := fun v => heap_setCell_same _ w.heap.size 4 _ _ v (r3 (.int .i64 (ra : Int)))
              have b4 := fun v => Below.setCell (b3 (.int .i64 (ra : Int))) (p := ⟨w.heap.size, 4, none⟩) (Nat.le_refl _) v
              have r5 := fun v => heap_setCell_same _ w.heap.size 5 _ _ v (r4 (.int .i64 (bl : Int)))
              have b5 := fun v => Below.setCell (b4 (.int .i64 (bl : Int))) (p := ⟨w.heap.size, 5, none⟩) (Nat.le_refl _) v
              exact bodyPost_ret (results_row_tmp rfl _ _ w.heap.size _ _ _ _ rfl (r5 (.int .i64 ((fld l 7 1 : Nat) : Int))) Tryz.underlying27 rfl (by kernel_rfl)) rfl ⟨rfl, (b5 (.int .i64 ((fld l 7 1 : Nat) : Int)))⟩
      · have dd : ((S : Int) != (su : Int)) = true := by simp; omega
        have dd2 : (IntKind.u64.wrap (S : Int) != (su : Int)) = true := by
          rw [show IntKind.u64.wrap (S : Int) = (S : Int) by rw [IntKind.wrap_u64]; omega]; exact dd
        obtain rfl : R = (33, 0, 0, 0, 0, 0, 0) := by
          rw [HR.out]; unfold getI
          rw [if_neg (by rw [hend]; simp), if_neg hlt, if_pos (by rw [HS.out, ← HSU.out]; omega)]
        clear hend HR heqs
        have c0 : wx.cell? ⟨w.heap.size, 0, none⟩ = some (.int .i64 0) := by rw [cell_of_row _ _ _ _ _ _ hrowx]; rfl
        have f0 : wx.frozen? ⟨w.heap.size, 0, none⟩ = false := frozen_of_row _ _ _ _ _ hrowx
        have c1 : wx.cell? ⟨w.heap.size, 1, none⟩ = some (.int .i64 0) := by rw [cell_of_row _ _ _ _ _ _ hrowx]; rfl
        have f1 : wx.frozen? ⟨w.heap.size, 1, none⟩ = false := frozen_of_row _ _ _ _ _ hrowx
        have c2 : wx.cell? ⟨w.heap.size, 2, none⟩ = some (.int .i64 0) := by rw [cell_of_row _ _ _ _ _ _ hrowx]; rfl
        have f2 : wx.frozen? ⟨w.heap.size, 2, none⟩ = false := frozen_of_row _ _ _ _ _ hrowx
        have c3 : wx.cell? ⟨w.heap.size, 3, none⟩ = some (.int .i64 0) := by rw [cell_of_row _ _ _ _ _ _ hrowx]; rfl
        have f3 : wx.frozen? ⟨w.heap.size, 3, none⟩ = false := frozen_of_row _ _ _ _ _ hrowx
        have c4 : wx.cell? ⟨w.heap.size, 4, none⟩ = some (.int .i64 0) := by rw [cell_of_row _ _ _ _ _ _ hrowx]; rfl
        have f4 : wx.frozen? ⟨w.heap.size, 4, none⟩ = false := frozen_of_row _ _ _ _ _ hrowx
        have c5 : wx.cell? ⟨w.heap.size, 5, none⟩ = some (.int .i64 0) := by rw [cell_of_row _ _ _ _ _ _ hrowx]; rfl
        have f5 : wx.frozen? ⟨w.heap.size, 5, none⟩ = false := frozen_of_row _ _ _ _ _ hrowx
        go_wp2_with fail
        have r0 := fun v => heap_setCell_same _ w.heap.size 0 _ _ v hrowx
        have b0 := fun v => Below.setCell hbwx (p := ⟨w.heap.size, 0, none⟩) (Nat.le_refl _) v
        have r1 := fun v => heap_setCell_same _ w.heap.size 1 _ _ v (r0 (.int .i64 0))
        have b1 := fun v => Below.setCell (b0 (.int .i64 0)) (p := ⟨w.heap.size, 1, none⟩) (Nat.le_refl _) v
        have r2 := fun v => heap_setCell_same _ w.heap.size 2 _ _ v (r1 (.int .i64 0))
        have b2 := fun v => Below.setCell (b1 (.int .i64 0)) (p := ⟨w.heap.size, 2, none⟩) (Nat.le_refl _) v
        have r3 := fun v => heap_setCell_same _ w.heap.size 3 _ _ v (r2 (.int .i64 0))
        have b3 := fun v => Below.setCell (b2 (.int .i64 0)) (p := ⟨w.heap.size, 3, none⟩) (Nat.le_refl _) v
        have r4 := fun v => heap_setCell_same _ w.heap.size 4 _ _ v (r3 (.int .i64 0))
        have b4 := fun v => Below.setCell (b3 (.int .i64 0)) (p := ⟨w.heap.size, 4, none⟩) (Nat.le_refl _) v
        have r5 := fun v => heap_setCell_same _ w.heap.size 5 _ _ v (r4 (.int .i64 0))
        have b5 := fun v => Below.setCell (b4 (.int .i64 0)) (p := ⟨w.heap.size, 5, none⟩) (Nat.le_refl _) v
        exact bodyPost_ret (results_row_tmp rfl _ _ w.heap.size _ _ _ _ rfl (r5 (.int .i64 0)) Tryz.underlying27 rfl (by kernel_rfl)) rfl ⟨rfl, (b5 (.int .i64 0))⟩
end Go.Proofs.YtkmhmehofipehaaGreatDoor
