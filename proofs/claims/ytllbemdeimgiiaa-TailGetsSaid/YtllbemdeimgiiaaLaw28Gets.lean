/- The walk of TailGets. -/
import Derived.Test.YtllbemdeimgiiaaLaw28Known
import Derived.Test.YtllbemdeimgiiaaTailSame
import Derived.Test.YtllbemdeimgiiaaTailGetAny
import Derived.Test.YtllbemdeimgiiaaTailRefGetAny
namespace Go.Proofs.Ytllbemdeimgiiaa.tailGets
set_option linter.unusedVariables false
open Go.RowKit
theorem sameT_self (c s : Int) (l : List Int) : sameT c s l c s l = true := by unfold sameT; simp
set_option maxHeartbeats 4000000 in
theorem walk (A : Option Addr) (c : Nat) (l : List UInt8) (w : World) (hl : SeesB w A l ∧ l.length ≤ c ∧ c ≤ maxLen) :
    Calls Try.prog 6 #[.slice A l.length c] w fun e w' => e = .returned (.bool true) ∧ Below w.heap.size w w' := by
  obtain ⟨hl, hc, hcm⟩ := hl
  by_cases hbig : 1000 < l.length
  · have d1 : decide (1000 < (l.length : Int)) = true := by simp; omega
    go_enter Try.func6, Try.ntmps6
    go_wp2_with fail
    refine (known_any _).mono ?_
    rintro e w2 ⟨rfl, hb2⟩
    go_wp2_with fail
    go_ret
    exact ⟨rfl, hb2⟩
  have d1 : decide (1000 < (l.length : Int)) = false := by simp; omega
  have hG1 := hid (fun t W (ht : Tab W t) (hl : SeesB W A l) => tget_any t A c l W ht hl hc hcm (by omega))
  have hG2 := hid (fun W (hl : SeesB W A l) => rtget_any A c l W hl hc hcm (by omega))
  generalize getT l = r at *
  obtain ⟨er, n, cnt, sm, vs⟩ := r
  unfold GetTPost at hG1 hG2
  simp only at hG1 hG2
  have hSame := hid (fun A1 c1 A2 c2 W (h1 : SeesI W A1 vs) (h2 : SeesI W A2 vs) (h3 : vs.length ≤ maxLen) => rtsame_any cnt sm A1 c1 vs cnt sm A2 c2 vs W h1 h2 h3 h3)
  rw [sameT_self] at hSame
  have hee : (er == er) = true := by simp
  have hnn : (n == n) = true := by simp
  clear hbig
  go_enter Try.func6, Try.ntmps6
  go_wp2_with fail
  refine (make_any w).mono ?_
  rintro e w1 ⟨rfl, hb1, ht1⟩
  have hl1 := hl.below hb1
  go_wp2_with fail
  refine (hG1.out _ _ ht1 hl1).mono ?_
  rintro e w2 ⟨A1, c1, rfl, hs1, hp1, hm1, hb2⟩
  have hbw2 := hb1.trans (hb2.mono hb1.size)
  have hb3 : Below w2.heap.size w2 (w2.alloc (.cells #[.int .i64 cnt, .int .u32 sm, .slice A1 vs.length c1] 30)) := (Below.refl _ _).alloc (Nat.le_refl _) _
  have hr3 := heap_alloc_new w2 (.cells #[.int .i64 cnt, .int .u32 sm, .slice A1 vs.length c1] 30)
  have hbw3 := hbw2.trans (hb3.mono hbw2.size)
  have hl3 := hl.below hbw3
  have hs3 := hs1.below hb3
  clear hb1 ht1 hl1 hb2 hbw2 hb3 hs1
  go_wp2_with fail
  generalize (w2.alloc (.cells #[.int .i64 cnt, .int .u32 sm, .slice A1 vs.length c1] 30)) = w3 at *
  have hlt3 : w2.heap.size < w3.heap.size := (Array.getElem?_eq_some_iff.1 hr3).1
  refine (hG2.out _ hl3).mono ?_
  rintro e w4 ⟨A2, c2, rfl, hs4, hp2, hm2, hb4⟩
  have hs3' := hs3.below hb4
  have hbw4 := hbw3.trans (hb4.mono hbw3.size)
  have hr4 := (hb4.block w2.heap.size hlt3).trans hr3
  have hlt4 := Nat.lt_of_lt_of_le hlt3 hb4.size
  have hb5 : Below w4.heap.size w4 (w4.alloc (.cells #[.int .i64 cnt, .int .u32 sm, .slice A2 vs.length c2] 30)) := (Below.refl _ _).alloc (Nat.le_refl _) _
  have hr5 := (hb5.block w2.heap.size hlt4).trans hr4
  have hq5 := heap_alloc_new w4 (.cells #[.int .i64 cnt, .int .u32 sm, .slice A2 vs.length c2] 30)
  have hbw5 := hbw4.trans (hb5.mono hbw4.size)
  have hs5 := hs3'.below hb5
  have hs6 := hs4.below hb5
  have hvm : vs.length ≤ maxLen := by omega
  have c0 : (w4.alloc (.cells #[.int .i64 cnt, .int .u32 sm, .slice A2 vs.length c2] 30)).cell? ⟨w2.heap.size, 0, none⟩ = some (.int .i64 cnt) := by rw [cell_of_row _ _ _ _ _ _ hr5]; rfl
  have c1' : (w4.alloc (.cells #[.int .i64 cnt, .int .u32 sm, .slice A2 vs.length c2] 30)).cell? ⟨w2.heap.size, 1, none⟩ = some (.int .u32 sm) := by rw [cell_of_row _ _ _ _ _ _ hr5]; rfl
  have c2' : (w4.alloc (.cells #[.int .i64 cnt, .int .u32 sm, .slice A2 vs.length c2] 30)).cell? ⟨w2.heap.size, 2, none⟩ = some (.slice A1 vs.length c1) := by rw [cell_of_row _ _ _ _ _ _ hr5]; rfl
  have d0 : (w4.alloc (.cells #[.int .i64 cnt, .int .u32 sm, .slice A2 vs.length c2] 30)).cell? ⟨w4.heap.size, 0, none⟩ = some (.int .i64 cnt) := by rw [cell_of_row _ _ _ _ _ _ hq5]; rfl
  have d1' : (w4.alloc (.cells #[.int .i64 cnt, .int .u32 sm, .slice A2 vs.length c2] 30)).cell? ⟨w4.heap.size, 1, none⟩ = some (.int .u32 sm) := by rw [cell_of_row _ _ _ _ _ _ hq5]; rfl
  have d2' : (w4.alloc (.cells #[.int .i64 cnt, .int .u32 sm, .slice A2 vs.length c2] 30)).cell? ⟨w4.heap.size, 2, none⟩ = some (.slice A2 vs.length c2) := by rw [cell_of_row _ _ _ _ _ _ hq5]; rfl
  clear hr3 hr4 hb4 hb5 hbw3 hbw4 hl3 hs3 hs3' hs4 hr5 hq5 hp1 hm1 hp2 hm2
  go_wp2_with fail
  refine (hSame.out _ _ _ _ _ hs5 hs6 hvm).mono ?_
  rintro e w6 ⟨rfl, hb6⟩
  have hbw6 := hbw5.trans (hb6.mono hbw5.size)
  clear c0 c1' c2' d0 d1' d2'
  go_wp2_with fail
  refine (known_any _).mono ?_
  rintro e w7 ⟨rfl, hb7⟩
  go_wp2_with fail
  go_ret
  exact ⟨rfl, hbw6.trans (hb7.mono hbw6.size)⟩
end Go.Proofs.Ytllbemdeimgiiaa.tailGets
