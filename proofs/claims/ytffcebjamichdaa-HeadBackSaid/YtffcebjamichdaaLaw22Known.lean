/- How long a block is; the fixed calls of the statements of layer 22. -/
import Derived.Test.YtffcebjamichdaaHeadPut2
import Derived.Test.YtffcebjamichdaaConv
import Derived.Test.YtffcebjamichdaaTaker
import Derived.Deep.RegionHeld3
namespace Go.Proofs.Ytffcebjamichdaa
set_option linter.unusedVariables false
open Go.RowKit
def longH (k idx len stp bnd : Int) (lst : Bool) (lnk siz : Int) : Int := if rightH k idx len stp bnd lst lnk siz = true then 36 + siz else 0
set_option maxHeartbeats 2000000 in
theorem hlong_any (k idx len stp bnd : Int) (lst : Bool) (lnk siz : Int) (w : World) :
    Calls Try.prog 14 #[.agg #[.int .i64 k, .int .i64 idx, .int .i64 len, .int .i64 stp, .int .i64 bnd, .bool lst, .int .u32 lnk, .int .i64 siz]] w fun e w' => e = .returned (.int .i64 (longH k idx len stp bnd lst lnk siz)) ∧ Below w.heap.size w w' := by
  have hb : Below w.heap.size w (w.alloc (.cells #[.int .i64 k, .int .i64 idx, .int .i64 len, .int .i64 stp, .int .i64 bnd, .bool lst, .int .u32 lnk, .int .i64 siz] 24)) := (Below.refl _ w).alloc (Nat.le_refl _) _
  have hrow := heap_alloc_new w (.cells #[.int .i64 k, .int .i64 idx, .int .i64 len, .int .i64 stp, .int .i64 bnd, .bool lst, .int .u32 lnk, .int .i64 siz] 24)
  cases hr : rightH k idx len stp bnd lst lnk siz with
  | false =>
    go_enter Try.func14, Try.ntmps14
    go_wp2_with fail
    refine (hright_any k idx len stp bnd lst lnk siz _).mono ?_
    rintro e w1 ⟨rfl, hb1⟩
    rw [hr]
    go_wp2_with fail
    go_ret
    exact ⟨ret_int (by unfold longH; rw [hr]; rfl), hb.trans (hb1.mono hb.size)⟩
  | true =>
    have hr2 := (of_decide_eq_true hr).2.2.2.2.2.1
    go_enter Try.func14, Try.ntmps14
    go_wp2_with fail
    generalize w.alloc (.cells #[.int .i64 k, .int .i64 idx, .int .i64 len, .int .i64 stp, .int .i64 bnd, .bool lst, .int .u32 lnk, .int .i64 siz] 24) = w0 at *
    have hlt0 : w.heap.size < w0.heap.size := (Array.getElem?_eq_some_iff.1 hrow).1
    refine (hright_any k idx len stp bnd lst lnk siz _).mono ?_
    rintro e w1 ⟨rfl, hb1⟩
    rw [hr]
    have hrow1 := (hb1.block w.heap.size hlt0).trans hrow
    have c7 : w1.cell? ⟨w.heap.size, 7, none⟩ = some (.int .i64 siz) := by rw [cell_of_row _ _ _ _ _ _ hrow1]; rfl
    have hw1 : wrap64 (32 + siz) = 32 + siz := by unfold wrap64; omega
    have hw2 : wrap64 (32 + siz + 4) = 32 + siz + 4 := by unfold wrap64; omega
    have hw3 : wrap64 (36 + siz) = 36 + siz := by unfold wrap64; omega
    have HR := hid hr
    clear hr
    go_wp2_with fail
    go_ret
    exact ⟨ret_int (by unfold longH; rw [HR.out, if_pos rfl] <;> first | rfl | omega), hb.trans (hb1.mono hb.size)⟩
set_option maxHeartbeats 2000000 in
theorem hrlong_any (k idx len stp bnd : Int) (lst : Bool) (lnk siz : Int) (w : World) :
    Calls Try.prog 15 #[.agg #[.int .i64 k, .int .i64 idx, .int .i64 len, .int .i64 stp, .int .i64 bnd, .bool lst, .int .u32 lnk, .int .i64 siz]] w fun e w' => e = .returned (.int .i64 (longH k idx len stp bnd lst lnk siz)) ∧ Below w.heap.size w w' := by
  have hb : Below w.heap.size w (w.alloc (.cells #[.int .i64 k, .int .i64 idx, .int .i64 len, .int .i64 stp, .int .i64 bnd, .bool lst, .int .u32 lnk, .int .i64 siz] 24)) := (Below.refl _ w).alloc (Nat.le_refl _) _
  have hrow := heap_alloc_new w (.cells #[.int .i64 k, .int .i64 idx, .int .i64 len, .int .i64 stp, .int .i64 bnd, .bool lst, .int .u32 lnk, .int .i64 siz] 24)
  cases hr : rightH k idx len stp bnd lst lnk siz with
  | false =>
    go_enter Try.func15, Try.ntmps15
    go_wp2_with fail
    refine (hrright_any k idx len stp bnd lst lnk siz _).mono ?_
    rintro e w1 ⟨rfl, hb1⟩
    rw [hr]
    go_wp2_with fail
    go_ret
    exact ⟨ret_int (by unfold longH; rw [hr]; rfl), hb.trans (hb1.mono hb.size)⟩
  | true =>
    have hr2 := (of_decide_eq_true hr).2.2.2.2.2.1
    go_enter Try.func15, Try.ntmps15
    go_wp2_with fail
    generalize w.alloc (.cells #[.int .i64 k, .int .i64 idx, .int .i64 len, .int .i64 stp, .int .i64 bnd, .bool lst, .int .u32 lnk, .int .i64 siz] 24) = w0 at *
    have hlt0 : w.heap.size < w0.heap.size := (Array.getElem?_eq_some_iff.1 hrow).1
    refine (hrright_any k idx len stp bnd lst lnk siz _).mono ?_
    rintro e w1 ⟨rfl, hb1⟩
    rw [hr]
    have hrow1 := (hb1.block w.heap.size hlt0).trans hrow
    have c7 : w1.cell? ⟨w.heap.size, 7, none⟩ = some (.int .i64 siz) := by rw [cell_of_row _ _ _ _ _ _ hrow1]; rfl
    have hw1 : wrap64 (32 + siz) = 32 + siz := by unfold wrap64; omega
    have hw2 : wrap64 (32 + siz + 4) = 32 + siz + 4 := by unfold wrap64; omega
    have hw3 : wrap64 (36 + siz) = 36 + siz := by unfold wrap64; omega
    have HR := hid hr
    clear hr
    go_wp2_with fail
    go_ret
    exact ⟨ret_int (by unfold longH; rw [HR.out, if_pos rfl] <;> first | rfl | omega), hb.trans (hb1.mono hb.size)⟩
set_option maxHeartbeats 4000000 in
theorem known_any (w : World) :
    Calls Try.prog 16 #[] w fun e w' => e = .returned (.bool true) ∧ Below w.heap.size w w' := by
  have hrow := heap_alloc_new w (.cells #[.int .i64 3, .int .i64 0, .int .i64 1, .int .i64 1, .int .i64 0, .bool false, .int .u32 0, .int .i64 0] 24)
  have hbW : Below w.heap.size w (w.alloc (.cells #[.int .i64 3, .int .i64 0, .int .i64 1, .int .i64 1, .int .i64 0, .bool false, .int .u32 0, .int .i64 0] 24)) := (Below.refl _ w).alloc (Nat.le_refl _) _
  have h4 : (sealed (headHead 3 false 0 1 1 0 0 0)).take 4 = [222, 92, 3, 0] := by
    unfold sealed
    rw [List.take_append_of_le_length (by rw [headHead_len]; omega)]
    decide
  have h32 : (sealed (headHead 3 false 0 1 1 0 0 0)).length = 32 := by rw [sealed_len, headHead_len]
  have hput := hid (fun t W (h : Tab W t) => hPut_ok t 3 0 1 1 0 0 0 false W h (by decide) (by decide))
  generalize sealed (headHead 3 false 0 1 1 0 0 0) = L at *
  have H4 := hid h4
  have H32 := hid h32
  clear h4 h32
  go_enter Try.func16, Try.ntmps16
  go_wp2_with fail
  generalize w.alloc (.cells #[.int .i64 3, .int .i64 0, .int .i64 1, .int .i64 1, .int .i64 0, .bool false, .int .u32 0, .int .i64 0] 24) = W at *
  have c0 : W.cell? ⟨w.heap.size, 0, none⟩ = some (.int .i64 3) := by rw [cell_of_row _ _ _ _ _ _ hrow]; rfl
  have c1 : W.cell? ⟨w.heap.size, 1, none⟩ = some (.int .i64 0) := by rw [cell_of_row _ _ _ _ _ _ hrow]; rfl
  have c2 : W.cell? ⟨w.heap.size, 2, none⟩ = some (.int .i64 1) := by rw [cell_of_row _ _ _ _ _ _ hrow]; rfl
  have c3 : W.cell? ⟨w.heap.size, 3, none⟩ = some (.int .i64 1) := by rw [cell_of_row _ _ _ _ _ _ hrow]; rfl
  have c4 : W.cell? ⟨w.heap.size, 4, none⟩ = some (.int .i64 0) := by rw [cell_of_row _ _ _ _ _ _ hrow]; rfl
  have c5 : W.cell? ⟨w.heap.size, 5, none⟩ = some (.bool false) := by rw [cell_of_row _ _ _ _ _ _ hrow]; rfl
  have c6 : W.cell? ⟨w.heap.size, 6, none⟩ = some (.int .u32 0) := by rw [cell_of_row _ _ _ _ _ _ hrow]; rfl
  have c7 : W.cell? ⟨w.heap.size, 7, none⟩ = some (.int .i64 0) := by rw [cell_of_row _ _ _ _ _ _ hrow]; rfl
  clear hrow
  go_region_held3 (fun w' => w'.cell? ⟨w.heap.size, 0, none⟩ = some (.int .i64 3) ∧ w'.cell? ⟨w.heap.size, 1, none⟩ = some (.int .i64 0) ∧ w'.cell? ⟨w.heap.size, 2, none⟩ = some (.int .i64 1) ∧ w'.cell? ⟨w.heap.size, 3, none⟩ = some (.int .i64 1) ∧ w'.cell? ⟨w.heap.size, 4, none⟩ = some (.int .i64 0) ∧ w'.cell? ⟨w.heap.size, 5, none⟩ = some (.bool false) ∧ w'.cell? ⟨w.heap.size, 6, none⟩ = some (.int .u32 0) ∧ w'.cell? ⟨w.heap.size, 7, none⟩ = some (.int .i64 0)) (exact ⟨c0, c1, c2, c3, c4, c5, c6, c7⟩)
    (first | (go_at_call 11; refine (make_any _).mono ?_; rintro e wa ⟨rfl, hba, ht⟩; replace c0 := keep1 hba c0; replace c1 := keep1 hba c1; replace c2 := keep1 hba c2; replace c3 := keep1 hba c3; replace c4 := keep1 hba c4; replace c5 := keep1 hba c5; replace c6 := keep1 hba c6; replace c7 := keep1 hba c7; replace hbW := Below.trans hbW (Below.mono (w := _) ⟨hba.os, hba.tape, hba.output, hba.size, hba.block⟩ hbW.size); clear hba) | (go_at_call 10; refine (hput.out _ _ ht).mono ?_; rintro e wa ⟨v, rfl, hv⟩; obtain ⟨A, c, rfl, hs, hA, ho, hba⟩ := hv.parts; replace c0 := keep1 hba c0; replace c1 := keep1 hba c1; replace c2 := keep1 hba c2; replace c3 := keep1 hba c3; replace c4 := keep1 hba c4; replace c5 := keep1 hba c5; replace c6 := keep1 hba c6; replace c7 := keep1 hba c7; replace hbW := Below.trans hbW (Below.mono (w := _) ⟨hba.os, hba.tape, hba.output, hba.size, hba.block⟩ hbW.size); clear hba))
  have hcc := own_cap ho
  have f1 : (4 : Int) ≤ c := by have := H32.out; omega
  have hcv0 := conv_bs A c [222, 92, 3, 0] wa (by unfold SeesB; rw [← H4.out, List.map_take]; exact Sees.take hs 4)
  have hcv : (convert 25 9 (.slice A 4 c)).run Try.prog wa = .ok (.string ⟨#[222, 92, 3, 0]⟩) wa := hcv0
  clear ht hv ho hA hs hcv0 hput hcc
  rw [H32.out]
  go_wp2_with fail
  refine (hlong_any 3 0 1 1 0 false 0 0 _).mono ?_
  rintro e w3 ⟨rfl, hb3⟩
  rw [show longH 3 0 1 1 0 false 0 0 = 36 by decide]
  go_wp2_with fail
  go_ret
  exact ⟨rfl, hbW.trans (hb3.mono hbW.size)⟩
end Go.Proofs.Ytffcebjamichdaa
