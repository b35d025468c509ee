/- Contract: Seek of the reference. -/
import Derived.Test.YtllbemdeimgiiaaTailSeek
import Derived.Test.YtllbemdeimgiiaaTailLength
import Derived.Test.YtllbemdeimgiiaaNumFloor
import Derived.Test.YtllbemdeimgiiaaHeld
import Derived.Deep.RegionHeld3
namespace Go.Proofs.Ytllbemdeimgiiaa
set_option linter.unusedVariables false
open Go.RowKit
set_option maxHeartbeats 4000000 in
set_option maxRecDepth 20000 in
theorem rseek_any (count sum : Int) (A : Option Addr) (c : Nat) (l : List Int) (b p : Int) (w : World) (hl : SeesI w A l) (hlen : l.length ≤ 9223372036854775807) :
    Calls Try.prog 16 #[.agg #[.int .i64 count, .int .u32 sum, .slice A l.length c], .int .i64 b, .int .i64 p] w (FourPost w (seekZ count l b p)) := by
  have hb0 : Below w.heap.size w (w.alloc (.cells #[.int .i64 count, .int .u32 sum, .slice A l.length c] 30)) := (Below.refl _ w).alloc (Nat.le_refl _) _
  by_cases h1 : b < 1
  · have d1 : decide (b < 1) = true := by simpa using h1
    have hs : seekZ count l b p = (0, 0, 0, 1) := if_pos (.inl h1)
    rw [hs]
    go_enter Try.func16, Try.ntmps16
    go_wp2_with fail
    exact bodyPost_ret (results_tmp4 rfl _ _) rfl ⟨rfl, hb0⟩
  have d1 : decide (b < 1) = false := by simpa using h1
  by_cases h2 : 65536 < b
  · have d2 : decide (65536 < b) = true := by simpa using h2
    have hs : seekZ count l b p = (0, 0, 0, 1) := if_pos (.inr h2)
    rw [hs]
    go_enter Try.func16, Try.ntmps16
    go_wp2_with fail
    exact bodyPost_ret (results_tmp4 rfl _ _) rfl ⟨rfl, hb0⟩
  have d2 : decide (65536 < b) = false := by simpa using h2
  have hl0 := hl.below hb0
  have hc0 : (w.alloc (.cells #[.int .i64 count, .int .u32 sum, .slice A l.length c] 30)).cell? ⟨w.heap.size, 0, none⟩ = some (.int .i64 count) := by rw [cell_of_row _ _ _ _ _ _ (heap_alloc_new _ _)]; rfl
  have hc1 : (w.alloc (.cells #[.int .i64 count, .int .u32 sum, .slice A l.length c] 30)).cell? ⟨w.heap.size, 1, none⟩ = some (.int .u32 sum) := by rw [cell_of_row _ _ _ _ _ _ (heap_alloc_new _ _)]; rfl
  have hc2 : (w.alloc (.cells #[.int .i64 count, .int .u32 sum, .slice A l.length c] 30)).cell? ⟨w.heap.size, 2, none⟩ = some (.slice A l.length c) := by rw [cell_of_row _ _ _ _ _ _ (heap_alloc_new _ _)]; rfl
  by_cases h3 : rightB count l = false
  · have hs : seekZ count l b p = (0, 0, 0, 60) := (if_neg (by omega)).trans (if_pos (.inl h3))
    rw [hs]
    go_enter Try.func16, Try.ntmps16
    go_wp2_with fail
    generalize hw0 : w.alloc (.cells #[.int .i64 count, .int .u32 sum, .slice A l.length c] 30) = w0 at *
    clear hw0
    refine wp_region_held (fun w' => w'.cell? ⟨w.heap.size, 0, none⟩ = some (.int .i64 count) ∧ w'.cell? ⟨w.heap.size, 1, none⟩ = some (.int .u32 sum) ∧ w'.cell? ⟨w.heap.size, 2, none⟩ = some (.slice A l.length c) ∧ Below w0.heap.size w0 w')
      (by kernel_rfl) (by kernel_rfl) ⟨hc0, hc1, hc2, (Below.refl _ _).drew⟩ ?_
    repeat (first
      | (refine held_no (by rfl) ?_; (try simp only [Act.put, List.setIfInBounds_toArray, List.set_cons_zero, List.set_cons_succ]))
      | (apply held_yes (by rfl); (· intro w' ⟨k0, k1, k2, kb⟩; go_simp; first | exact rfl | exact (rright_is count sum A c l _ (hl0.below kb) hlen false h3).mono (fun e w'' ⟨he, hb⟩ => ⟨he, keep3 ⟨k0, k1, k2, kb⟩ hb⟩)); (try simp only [Act.put, List.setIfInBounds_toArray, List.set_cons_zero, List.set_cons_succ])))
    refine held_nil fun w1 ⟨k0, k1, k2, kb⟩ => ?_
    go_wp2_with fail
    exact bodyPost_ret (results_tmp4 rfl _ _) rfl ⟨rfl, hb0.trans (kb.mono hb0.size)⟩
  have h3' : rightB count l = true := by simpa using h3
  have hbz : ∀ W, Calls Try.prog 10 #[.int .i64 count, .int .i64 b] W fun e w' => e = .returned (.int .i64 (blocksZ count b)) ∧ W = w' := fun W => rblocks_any count b W
  by_cases h4 : (l.length : Int) = blocksZ count b
  · have HZ := hid h4
    have hbn : ∀ W, Calls Try.prog 10 #[.int .i64 count, .int .i64 b] W fun e w' => e = .returned (.int .i64 (l.length : Int)) ∧ W = w' := by rw [h4]; exact hbz
    have HB := hid hbn
    have hcr := rightB_count h3'
    have hsb : ∀ x, (if b < 1 ∨ 65536 < b then (0, 0, 0, 1) else if rightB count l = false ∨ (l.length : Int) ≠ blocksZ count b then (0, 0, 0, 60) else x) = (x : Int × Int × Int × Int) := fun x => (if_neg (by omega)).trans (if_neg (by rw [h3']; simp [h4]))
    have HSB := hid hsb
    clear hsb h4 hbn hbz
    by_cases h5 : p < 0 ∨ count < p
    · have hs : seekZ count l b p = (0, 0, 0, 63) := (HSB.out _).trans (if_pos h5)
      rw [hs]
      clear hs
      by_cases h6 : p < 0
      · have d6 : decide (p < 0) = true := by simpa using h6
        go_enter Try.func16, Try.ntmps16
        go_wp2_with fail
        generalize hw0 : w.alloc (.cells #[.int .i64 count, .int .u32 sum, .slice A l.length c] 30) = w0 at *
        clear hw0
        refine wp_region_held (fun w' => w'.cell? ⟨w.heap.size, 0, none⟩ = some (.int .i64 count) ∧ w'.cell? ⟨w.heap.size, 1, none⟩ = some (.int .u32 sum) ∧ w'.cell? ⟨w.heap.size, 2, none⟩ = some (.slice A l.length c) ∧ Below w0.heap.size w0 w')
          (by kernel_rfl) (by kernel_rfl) ⟨hc0, hc1, hc2, (Below.refl _ _).drew⟩ ?_
        repeat (first
          | (refine held_no (by rfl) ?_; (try simp only [Act.put, List.setIfInBounds_toArray, List.set_cons_zero, List.set_cons_succ]))
          | (apply held_yes (by rfl); (· intro w' ⟨k0, k1, k2, kb⟩; go_simp; first | exact rfl | exact (rright_is count sum A c l _ (hl0.below kb) hlen true h3').mono (fun e w'' ⟨he, hb⟩ => ⟨he, keep3 ⟨k0, k1, k2, kb⟩ hb⟩) | exact (HB.out _).mono (fun e w'' ⟨he, hb⟩ => ⟨he, hb ▸ ⟨k0, k1, k2, kb⟩⟩)); (try simp only [Act.put, List.setIfInBounds_toArray, List.set_cons_zero, List.set_cons_succ])))
        refine held_nil fun w1 ⟨k0, k1, k2, kb⟩ => ?_
        go_wp2_with fail
        exact bodyPost_ret (results_tmp4 rfl _ _) rfl ⟨rfl, hb0.trans (kb.mono hb0.size)⟩
      · have d6 : decide (p < 0) = false := by simpa using h6
        have d7 : decide (count < p) = true := by simp; omega
        go_enter Try.func16, Try.ntmps16
        go_wp2_with fail
        generalize hw0 : w.alloc (.cells #[.int .i64 count, .int .u32 sum, .slice A l.length c] 30) = w0 at *
        clear hw0
        refine wp_region_held (fun w' => w'.cell? ⟨w.heap.size, 0, none⟩ = some (.int .i64 count) ∧ w'.cell? ⟨w.heap.size, 1, none⟩ = some (.int .u32 sum) ∧ w'.cell? ⟨w.heap.size, 2, none⟩ = some (.slice A l.length c) ∧ Below w0.heap.size w0 w')
          (by kernel_rfl) (by kernel_rfl) ⟨hc0, hc1, hc2, (Below.refl _ _).drew⟩ ?_
        repeat (first
          | (refine held_no (by rfl) ?_; (try simp only [Act.put, List.setIfInBounds_toArray, List.set_cons_zero, List.set_cons_succ]))
          | (apply held_yes (by rfl); (· intro w' ⟨k0, k1, k2, kb⟩; go_simp; first | exact rfl | exact (rright_is count sum A c l _ (hl0.below kb) hlen true h3').mono (fun e w'' ⟨he, hb⟩ => ⟨he, keep3 ⟨k0, k1, k2, kb⟩ hb⟩) | exact (HB.out _).mono (fun e w'' ⟨he, hb⟩ => ⟨he, hb ▸ ⟨k0, k1, k2, kb⟩⟩)); (try simp only [Act.put, List.setIfInBounds_toArray, List.set_cons_zero, List.set_cons_succ])))
        refine held_nil fun w1 ⟨k0, k1, k2, kb⟩ => ?_
        go_wp2_with fail
        exact bodyPost_ret (results_tmp4 rfl _ _) rfl ⟨rfl, hb0.trans (kb.mono hb0.size)⟩
    have d6 : decide (p < 0) = false := by simp; omega
    have d7 : decide (count < p) = false := by simp; omega
    by_cases h8 : p = count
    · have hs : seekZ count l b p = ((l.length : Int), 0, 0, 0) := ((HSB.out _).trans (if_neg h5)).trans (if_pos h8)
      rw [hs]
      clear hs
      have d8 : (p == count) = true := by simpa using h8
      clear h8
      go_enter Try.func16, Try.ntmps16
      go_wp2_with fail
      generalize hw0 : w.alloc (.cells #[.int .i64 count, .int .u32 sum, .slice A l.length c] 30) = w0 at *
      clear hw0
      refine wp_region_held (fun w' => w'.cell? ⟨w.heap.size, 0, none⟩ = some (.int .i64 count) ∧ w'.cell? ⟨w.heap.size, 1, none⟩ = some (.int .u32 sum) ∧ w'.cell? ⟨w.heap.size, 2, none⟩ = some (.slice A l.length c) ∧ Below w0.heap.size w0 w')
        (by kernel_rfl) (by kernel_rfl) ⟨hc0, hc1, hc2, (Below.refl _ _).drew⟩ ?_
      repeat (first
        | (refine held_no (by rfl) ?_; (try simp only [Act.put, List.setIfInBounds_toArray, List.set_cons_zero, List.set_cons_succ]))
        | (apply held_yes (by rfl); (· intro w' ⟨k0, k1, k2, kb⟩; go_simp; first | exact rfl | exact (rright_is count sum A c l _ (hl0.below kb) hlen true h3').mono (fun e w'' ⟨he, hb⟩ => ⟨he, keep3 ⟨k0, k1, k2, kb⟩ hb⟩) | exact (HB.out _).mono (fun e w'' ⟨he, hb⟩ => ⟨he, hb ▸ ⟨k0, k1, k2, kb⟩⟩)); (try simp only [Act.put, List.setIfInBounds_toArray, List.set_cons_zero, List.set_cons_succ])))
      refine held_nil fun w1 ⟨k0, k1, k2, kb⟩ => ?_
      go_wp2_with fail
      exact bodyPost_ret (results_tmp4 rfl _ _) rfl ⟨rfl, hb0.trans (kb.mono hb0.size)⟩
    · have hs : seekZ count l b p = (((p.toNat / b.toNat : Nat) : Int), l.getD (p.toNat / b.toNat) 0, ((p.toNat % b.toNat : Nat) : Int), 0) := ((HSB.out _).trans (if_neg h5)).trans (if_neg h8)
      have HS := hid hs
      clear hs
      have d8 : (p == count) = false := by simpa using h8
      obtain ⟨P, rfl⟩ := Int.eq_ofNat_of_zero_le (show 0 ≤ p by omega)
      obtain ⟨B, rfl⟩ := Int.eq_ofNat_of_zero_le (show 0 ≤ b by omega)
      obtain ⟨C, rfl⟩ := Int.eq_ofNat_of_zero_le hcr.1
      have hin : P / B < l.length := by
        have h := HZ.out
        rw [blocksZ, if_pos (by unfold KnownZ; omega)] at h
        have := seek_in (p := P) (c := C) (b := B) (by omega) (by omega)
        simp only [Int.toNat_natCast] at h
        omega
      have HF := hid (fun W => floor_nn P B W (by omega) (by omega))
      have HM := hid (fun W => mod_nn P B W (by omega) (by omega))
      simp only [Int.toNat_natCast] at HS
      have hB0 : ¬ B = 0 := by omega
      have hwq : IntKind.i64.wrap ((P : Int) / B) = ((P / B : Nat) : Int) := by
        have h1 := Nat.div_le_self P B
        rw [show (P : Int) / B = ((P / B : Nat) : Int) from rfl, IntKind.wrap_i64]
        generalize P / B = y at h1
        omega
      have hrq : (P : Int).tmod B = ((P % B : Nat) : Int) := (Int.tmod_eq_emod_of_nonneg (by omega)).trans rfl
      have hwr : IntKind.i64.wrap ((P % B : Nat) : Int) = ((P % B : Nat) : Int) := by
        have h1 := Nat.mod_le P B
        rw [IntKind.wrap_i64]
        generalize P % B = y at h1
        omega
      generalize P / B = q at hin HF HS hwq
      generalize P % B = r at HM HS hrq hwr
      have hql : (q : Int) < l.length := by omega
      obtain ⟨a, rfl, hx⟩ := hl0.at hin
      have hget : l.getD q 0 = l[q] := by simp [List.getD, hin]
      rw [hget] at HS
      generalize l[q] = x at hx HS
      rw [HS.out]
      clear hget h8
      go_enter Try.func16, Try.ntmps16
      go_wp2_with fail
      generalize hw0 : w.alloc (.cells #[.int .i64 (C : Int), .int .u32 sum, .slice (some a) l.length c] 30) = w0 at *
      clear hw0
      refine wp_region_held (fun w' => w'.cell? ⟨w.heap.size, 0, none⟩ = some (.int .i64 (C : Int)) ∧ w'.cell? ⟨w.heap.size, 1, none⟩ = some (.int .u32 sum) ∧ w'.cell? ⟨w.heap.size, 2, none⟩ = some (.slice (some a) l.length c) ∧ Below w0.heap.size w0 w')
        (by kernel_rfl) (by kernel_rfl) ⟨hc0, hc1, hc2, (Below.refl _ _).drew⟩ ?_
      repeat (first
        | (refine held_no (by rfl) ?_; (try simp only [Act.put, List.setIfInBounds_toArray, List.set_cons_zero, List.set_cons_succ]))
        | (apply held_yes (by rfl); (· intro w' ⟨k0, k1, k2, kb⟩; go_simp; first | exact rfl | exact (rright_is (C : Int) sum (some a) c l _ (hl0.below kb) hlen true h3').mono (fun e w'' ⟨he, hb⟩ => ⟨he, keep3 ⟨k0, k1, k2, kb⟩ hb⟩) | exact (HB.out _).mono (fun e w'' ⟨he, hb⟩ => ⟨he, hb ▸ ⟨k0, k1, k2, kb⟩⟩)); (try simp only [Act.put, List.setIfInBounds_toArray, List.set_cons_zero, List.set_cons_succ])))
      refine held_nil fun w1 ⟨k0, k1, k2, kb⟩ => ?_
      go_wp2_with fail
      have hx1 : w1.cell? (a.add q) = some (.int .i64 x) := (kb.cell (block_lt_of_cell hx)).trans hx
      refine wp_region_held (fun w' => w'.cell? ⟨w.heap.size, 2, none⟩ = some (.slice (some a) l.length c) ∧ w'.cell? (a.add q) = some (.int .i64 x) ∧ Below w0.heap.size w0 w')
        (by kernel_rfl) (by kernel_rfl) ⟨k2, hx1, kb.drew⟩ ?_
      repeat (first
        | (refine held_no (by rfl) ?_; (try simp only [Act.put, List.setIfInBounds_toArray, List.set_cons_zero, List.set_cons_succ]))
        | (apply held_yes (by rfl); (· intro w' ⟨k0, k1, k2⟩; go_simp; exact rfl); (try simp only [Act.put, List.setIfInBounds_toArray, List.set_cons_zero, List.set_cons_succ])))
      refine held_nil fun w3 ⟨j0, j1, j2⟩ => ?_
      go_wp2_with fail
      exact bodyPost_ret (results_tmp4 rfl _ _) rfl ⟨rfl, hb0.trans (j2.mono hb0.size)⟩
  · have hs : seekZ count l b p = (0, 0, 0, 60) := (if_neg (by omega)).trans (if_pos (.inr h4))
    rw [hs]
    have h4' : ((l.length : Int) != blocksZ count b) = true := by simpa using h4
    go_enter Try.func16, Try.ntmps16
    go_wp2_with fail
    generalize hw0 : w.alloc (.cells #[.int .i64 count, .int .u32 sum, .slice A l.length c] 30) = w0 at *
    clear hw0
    refine wp_region_held (fun w' => w'.cell? ⟨w.heap.size, 0, none⟩ = some (.int .i64 count) ∧ w'.cell? ⟨w.heap.size, 1, none⟩ = some (.int .u32 sum) ∧ w'.cell? ⟨w.heap.size, 2, none⟩ = some (.slice A l.length c) ∧ Below w0.heap.size w0 w')
      (by kernel_rfl) (by kernel_rfl) ⟨hc0, hc1, hc2, (Below.refl _ _).drew⟩ ?_
    repeat (first
      | (refine held_no (by rfl) ?_; (try simp only [Act.put, List.setIfInBounds_toArray, List.set_cons_zero, List.set_cons_succ]))
      | (apply held_yes (by rfl); (· intro w' ⟨k0, k1, k2, kb⟩; go_simp; first | exact rfl | exact (rright_is count sum A c l _ (hl0.below kb) hlen true h3').mono (fun e w'' ⟨he, hb⟩ => ⟨he, keep3 ⟨k0, k1, k2, kb⟩ hb⟩) | exact (hbz _).mono (fun e w'' ⟨he, hb⟩ => ⟨he, hb ▸ ⟨k0, k1, k2, kb⟩⟩)); (try simp only [Act.put, List.setIfInBounds_toArray, List.set_cons_zero, List.set_cons_succ])))
    refine held_nil fun w1 ⟨k0, k1, k2, kb⟩ => ?_
    go_wp2_with fail
    exact bodyPost_ret (results_tmp4 rfl _ _) rfl ⟨rfl, hb0.trans (kb.mono hb0.size)⟩
end Go.Proofs.Ytllbemdeimgiiaa
