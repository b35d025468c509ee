/- The walk of InfoGets. -/
import Derived.Test.YtafjjkcfndaclaaLaw27Known
import Derived.Test.YtafjjkcfndaclaaInfoRefGet
namespace Go.Proofs.Ytafjjkcfndaclaa.infoGets
set_option linter.unusedVariables false
open Go.RowKit
theorem iget_any (t : Nat) (A : Option Addr) (c : Nat) (l : List UInt8) (w : World) (ht : Tab w t) (hl : SeesB w A l) (hc : l.length ≤ c) (hcm : c ≤ maxLen) :
    Calls Try.prog 21 #[.pointer (some ⟨t, 0, none⟩), .slice A l.length c] w (GetPost w (getI l)) := by
  cases hs : startsI l with
  | false =>
    rw [show getI l = (31, 0, 0, 0, 0, 0, 0) by unfold getI; rw [if_pos hs]]
    exact iget_kind t A c l w hl hc hs
  | true =>
    by_cases hn : l.length < 19
    · rw [show getI l = (10, 0, 0, 0, 0, 0, 0) by unfold getI; rw [if_neg (by rw [hs]; simp), if_pos hn]]
      exact iget_end t A c l w hl hc hs hn
    · exact iget_long t A c l w ht hl hc hcm hs (by omega)
theorem sameI_self (k ch bi ra bl sh : Int) : sameI k ch bi ra bl sh k ch bi ra bl sh = true := by unfold sameI sameF; simp
set_option maxHeartbeats 4000000 in
theorem walk (A : Option Addr) (c : Nat) (l : List UInt8) (w : World) (hl : SeesB w A l ∧ l.length ≤ c ∧ c ≤ maxLen) :
    Calls Try.prog 6 #[.slice A l.length c] w fun e w' => e = .returned (.bool true) ∧ Below w.heap.size w w' := by
  obtain ⟨hl, hc, hcm⟩ := hl
  by_cases hbig : 300 < l.length
  · have d1 : decide (300 < (l.length : Int)) = true := by simp; omega
    go_enter Try.func6, Try.ntmps6
    go_wp2_with fail
    refine (known_any _).mono ?_
    rintro e w2 ⟨rfl, hb2⟩
    go_wp2_with fail
    go_ret
    exact ⟨rfl, hb2⟩
  have d1 : decide (300 < (l.length : Int)) = false := by simp; omega
  have hG1 := hid (fun t W (ht : Tab W t) (hl : SeesB W A l) => iget_any t A c l W ht hl hc hcm)
  have hG2 := hid (fun W (hl : SeesB W A l) => riget_any A c l W hl hc hcm)
  generalize getI l = r at *
  obtain ⟨er, k, ch, bi, ra, bl, sh⟩ := r
  have hq := fun W => eq_info k ch bi ra bl sh k ch bi ra bl sh W
  rw [sameI_self] at hq
  have hee : (er == er) = true := by simp
  clear hbig
  go_enter Try.func6, Try.ntmps6
  go_wp2_with fail
  refine (make_any w).mono ?_
  rintro e w1 ⟨rfl, hb1, ht1⟩
  have hl1 := hl.below hb1
  go_wp2_with fail
  refine (hG1.out _ _ ht1 hl1).mono ?_
  rintro e w2 ⟨rfl, hb2⟩
  have hbw2 := hb1.trans (hb2.mono hb1.size)
  have hb3 : Below w2.heap.size w2 (w2.alloc (.cells #[.int .i64 k, .int .i64 ch, .int .i64 bi, .int .i64 ra, .int .i64 bl, .int .i64 sh] 25)) := (Below.refl _ _).alloc (Nat.le_refl _) _
  have hr3 := heap_alloc_new w2 (.cells #[.int .i64 k, .int .i64 ch, .int .i64 bi, .int .i64 ra, .int .i64 bl, .int .i64 sh] 25)
  have hbw3 := hbw2.trans (hb3.mono hbw2.size)
  have hl3 := hl.below hbw3
  clear hb1 ht1 hl1 hb2 hbw2 hb3
  go_wp2_with fail
  generalize w2.alloc (.cells #[.int .i64 k, .int .i64 ch, .int .i64 bi, .int .i64 ra, .int .i64 bl, .int .i64 sh] 25) = w3 at *
  have hlt3 : w2.heap.size < w3.heap.size := (Array.getElem?_eq_some_iff.1 hr3).1
  refine (hG2.out _ hl3).mono ?_
  rintro e w4 ⟨rfl, hb4⟩
  have hbw4 := hbw3.trans (hb4.mono hbw3.size)
  have hr4 := (hb4.block w2.heap.size hlt3).trans hr3
  have hlt4 := Nat.lt_of_lt_of_le hlt3 hb4.size
  have hb5 : Below w4.heap.size w4 (w4.alloc (.cells #[.int .i64 k, .int .i64 ch, .int .i64 bi, .int .i64 ra, .int .i64 bl, .int .i64 sh] 25)) := (Below.refl _ _).alloc (Nat.le_refl _) _
  have hr5 := (hb5.block w2.heap.size hlt4).trans hr4
  have hbw5 := hbw4.trans (hb5.mono hbw4.size)
  have c0 : (w4.alloc (.cells #[.int .i64 k, .int .i64 ch, .int .i64 bi, .int .i64 ra, .int .i64 bl, .int .i64 sh] 25)).cell? ⟨w2.heap.size, 0, none⟩ = some (.int .i64 k) := by rw [cell_of_row _ _ _ _ _ _ hr5]; rfl
  have c1 : (w4.alloc (.cells #[.int .i64 k, .int .i64 ch, .int .i64 bi, .int .i64 ra, .int .i64 bl, .int .i64 sh] 25)).cell? ⟨w2.heap.size, 1, none⟩ = some (.int .i64 ch) := by rw [cell_of_row _ _ _ _ _ _ hr5]; rfl
  have c2 : (w4.alloc (.cells #[.int .i64 k, .int .i64 ch, .int .i64 bi, .int .i64 ra, .int .i64 bl, .int .i64 sh] 25)).cell? ⟨w2.heap.size, 2, none⟩ = some (.int .i64 bi) := by rw [cell_of_row _ _ _ _ _ _ hr5]; rfl
  have c3 : (w4.alloc (.cells #[.int .i64 k, .int .i64 ch, .int .i64 bi, .int .i64 ra, .int .i64 bl, .int .i64 sh] 25)).cell? ⟨w2.heap.size, 3, none⟩ = some (.int .i64 ra) := by rw [cell_of_row _ _ _ _ _ _ hr5]; rfl
  have c4 : (w4.alloc (.cells #[.int .i64 k, .int .i64 ch, .int .i64 bi, .int .i64 ra, .int .i64 bl, .int .i64 sh] 25)).cell? ⟨w2.heap.size, 4, none⟩ = some (.int .i64 bl) := by rw [cell_of_row _ _ _ _ _ _ hr5]; rfl
  have c5 : (w4.alloc (.cells #[.int .i64 k, .int .i64 ch, .int .i64 bi, .int .i64 ra, .int .i64 bl, .int .i64 sh] 25)).cell? ⟨w2.heap.size, 5, none⟩ = some (.int .i64 sh) := by rw [cell_of_row _ _ _ _ _ _ hr5]; rfl
  clear hr3 hr4 hr5 hb4 hb5 hbw3 hbw4 hl3
  go_wp2_with fail
  refine (known_any _).mono ?_
  rintro e w7 ⟨rfl, hb7⟩
  go_wp2_with fail
  go_ret
  exact ⟨rfl, hbw5.trans (hb7.mono hbw5.size)⟩
end Go.Proofs.Ytafjjkcfndaclaa.infoGets
