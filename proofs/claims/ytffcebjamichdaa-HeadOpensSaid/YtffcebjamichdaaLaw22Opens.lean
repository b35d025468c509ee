/- The walk of HeadOpens. -/
import Derived.Test.YtffcebjamichdaaLaw22Known
import Derived.Test.YtffcebjamichdaaHeadRefOpen
import Derived.Test.YtffcebjamichdaaConv
namespace Go.Proofs.Ytffcebjamichdaa.headOpens
set_option linter.unusedVariables false
open Go.RowKit
set_option maxRecDepth 20000 in
set_option maxHeartbeats 4000000 in
theorem walk (A : Option Addr) (c : Nat) (l : List UInt8) (w : World) (hl : SeesB w A l ∧ l.length ≤ c ∧ c ≤ maxLen) :
    Calls Try.prog 6 #[.slice A l.length c] w fun e w' => e = .returned (.bool true) ∧ Below w.heap.size w w' := by
  obtain ⟨hl, hc, hcm⟩ := hl
  by_cases hbig : 400 < l.length
  · have d1 : decide (400 < (l.length : Int)) = true := by simp; omega
    go_enter Try.func6, Try.ntmps6
    go_wp2_with fail
    refine (known_any _).mono ?_
    rintro e w2 ⟨rfl, hb2⟩
    go_wp2_with fail
    go_ret
    exact ⟨rfl, hb2⟩
  have d1 : decide (400 < (l.length : Int)) = false := by simp; omega
  have hG1 := hid (fun t W (ht : Tab W t) (hl : SeesB W A l) => hopen_any t A c l W hl hc hcm (by omega) ht)
  have hG2 := hid (fun W (hl : SeesB W A l) => hropen_any A c l W hl hc hcm (by omega))
  generalize openH l = r at *
  obtain ⟨er, ⟨k, idx, len, stp, bnd, lst, lnk, siz⟩, p, sm⟩ := r
  unfold OpenPost HeadV.cells at hG1 hG2
  simp only at hG1 hG2
  have hq := fun W => eq_head k idx len stp bnd lst lnk siz W
  have hee : (er == er) = true := by simp
  have hss : (sm == sm) = true := by simp
  clear hbig
  go_enter Try.func6, Try.ntmps6
  go_wp2_with fail
  refine (make_any w).mono ?_
  rintro e w1 ⟨rfl, hb1, ht1⟩
  have hl1 := hl.below hb1
  go_wp2_with fail
  refine (hG1.out _ _ ht1 hl1).mono ?_
  rintro e w2 ⟨A1, c1, rfl, hs1, hp1, hm1, hb2⟩
  have hbw2 := hb1.trans (hb2.mono hb1.size)
  have hb3 : Below w2.heap.size w2 (w2.alloc (.cells #[.int .i64 k, .int .i64 idx, .int .i64 len, .int .i64 stp, .int .i64 bnd, .bool lst, .int .u32 lnk, .int .i64 siz] 24)) := (Below.refl _ _).alloc (Nat.le_refl _) _
  have hr3 := heap_alloc_new w2 (.cells #[.int .i64 k, .int .i64 idx, .int .i64 len, .int .i64 stp, .int .i64 bnd, .bool lst, .int .u32 lnk, .int .i64 siz] 24)
  have hbw3 := hbw2.trans (hb3.mono hbw2.size)
  have hl3 := hl.below hbw3
  have hs3 := hs1.below hb3
  clear hb1 ht1 hl1 hb2 hbw2 hb3 hs1 hp1 hm1
  go_wp2_with fail
  generalize w2.alloc (.cells #[.int .i64 k, .int .i64 idx, .int .i64 len, .int .i64 stp, .int .i64 bnd, .bool lst, .int .u32 lnk, .int .i64 siz] 24) = w3 at *
  have hlt3 : w2.heap.size < w3.heap.size := (Array.getElem?_eq_some_iff.1 hr3).1
  refine (hG2.out _ hl3).mono ?_
  rintro e w4 ⟨A2, c2, rfl, hs4, hp2, hm2, hb4⟩
  have hs3' := hs3.below hb4
  have hbw4 := hbw3.trans (hb4.mono hbw3.size)
  have hr4 := (hb4.block w2.heap.size hlt3).trans hr3
  have hlt4 := Nat.lt_of_lt_of_le hlt3 hb4.size
  have hb5 : Below w4.heap.size w4 (w4.alloc (.cells #[.int .i64 k, .int .i64 idx, .int .i64 len, .int .i64 stp, .int .i64 bnd, .bool lst, .int .u32 lnk, .int .i64 siz] 24)) := (Below.refl _ _).alloc (Nat.le_refl _) _
  have hr5 := (hb5.block w2.heap.size hlt4).trans hr4
  have hbw5 := hbw4.trans (hb5.mono hbw4.size)
  have hcv1 := conv_bs A1 c1 p (w4.alloc (.cells #[.int .i64 k, .int .i64 idx, .int .i64 len, .int .i64 stp, .int .i64 bnd, .bool lst, .int .u32 lnk, .int .i64 siz] 24)) (hs3'.below hb5)
  have hcv2 := conv_bs A2 c2 p (w4.alloc (.cells #[.int .i64 k, .int .i64 idx, .int .i64 len, .int .i64 stp, .int .i64 bnd, .bool lst, .int .u32 lnk, .int .i64 siz] 24)) (hs4.below hb5)
  have c0 : (w4.alloc (.cells #[.int .i64 k, .int .i64 idx, .int .i64 len, .int .i64 stp, .int .i64 bnd, .bool lst, .int .u32 lnk, .int .i64 siz] 24)).cell? ⟨w2.heap.size, 0, none⟩ = some (.int .i64 k) := by rw [cell_of_row _ _ _ _ _ _ hr5]; rfl
  have c1 : (w4.alloc (.cells #[.int .i64 k, .int .i64 idx, .int .i64 len, .int .i64 stp, .int .i64 bnd, .bool lst, .int .u32 lnk, .int .i64 siz] 24)).cell? ⟨w2.heap.size, 1, none⟩ = some (.int .i64 idx) := by rw [cell_of_row _ _ _ _ _ _ hr5]; rfl
  have c2 : (w4.alloc (.cells #[.int .i64 k, .int .i64 idx, .int .i64 len, .int .i64 stp, .int .i64 bnd, .bool lst, .int .u32 lnk, .int .i64 siz] 24)).cell? ⟨w2.heap.size, 2, none⟩ = some (.int .i64 len) := by rw [cell_of_row _ _ _ _ _ _ hr5]; rfl
  have c3 : (w4.alloc (.cells #[.int .i64 k, .int .i64 idx, .int .i64 len, .int .i64 stp, .int .i64 bnd, .bool lst, .int .u32 lnk, .int .i64 siz] 24)).cell? ⟨w2.heap.size, 3, none⟩ = some (.int .i64 stp) := by rw [cell_of_row _ _ _ _ _ _ hr5]; rfl
  have c4 : (w4.alloc (.cells #[.int .i64 k, .int .i64 idx, .int .i64 len, .int .i64 stp, .int .i64 bnd, .bool lst, .int .u32 lnk, .int .i64 siz] 24)).cell? ⟨w2.heap.size, 4, none⟩ = some (.int .i64 bnd) := by rw [cell_of_row _ _ _ _ _ _ hr5]; rfl
  have c5 : (w4.alloc (.cells #[.int .i64 k, .int .i64 idx, .int .i64 len, .int .i64 stp, .int .i64 bnd, .bool lst, .int .u32 lnk, .int .i64 siz] 24)).cell? ⟨w2.heap.size, 5, none⟩ = some (.bool lst) := by rw [cell_of_row _ _ _ _ _ _ hr5]; rfl
  have c6 : (w4.alloc (.cells #[.int .i64 k, .int .i64 idx, .int .i64 len, .int .i64 stp, .int .i64 bnd, .bool lst, .int .u32 lnk, .int .i64 siz] 24)).cell? ⟨w2.heap.size, 6, none⟩ = some (.int .u32 lnk) := by rw [cell_of_row _ _ _ _ _ _ hr5]; rfl
  have c7 : (w4.alloc (.cells #[.int .i64 k, .int .i64 idx, .int .i64 len, .int .i64 stp, .int .i64 bnd, .bool lst, .int .u32 lnk, .int .i64 siz] 24)).cell? ⟨w2.heap.size, 7, none⟩ = some (.int .i64 siz) := by rw [cell_of_row _ _ _ _ _ _ hr5]; rfl
  clear hr3 hr4 hr5 hb4 hb5 hbw3 hbw4 hl3 hs3 hs3' hs4 hp2 hm2
  go_wp2_with fail
  refine (known_any _).mono ?_
  rintro e w7 ⟨rfl, hb7⟩
  go_wp2_with fail
  go_ret
  exact ⟨rfl, hbw5.trans (hb7.mono hbw5.size)⟩
end Go.Proofs.Ytffcebjamichdaa.headOpens
