/- The walk of TailSeeks. -/
import Derived.Test.YtllbemdeimgiiaaLaw28Known
import Derived.Test.YtllbemdeimgiiaaTailSeek2
namespace Go.Proofs.Ytllbemdeimgiiaa.tailSeeks
set_option linter.unusedVariables false
open Go.RowKit
theorem seek_len {p c b : Nat} (hb : 1 ≤ b) (h : p < c) : p % b < lengthN c b (p / b) := by
  have hin := seek_in hb h
  unfold lengthN
  rw [if_pos hin]
  have hm := Nat.mod_lt p (show 0 < b by omega)
  split
  · rename_i h2
    have e := Nat.div_add_mod c b
    have f := Nat.div_add_mod p b
    have hq : p / b = c / b := by
      have h3 := h2.1
      unfold blocksN at h3
      rw [if_pos h2.2] at h3
      omega
    rw [hq] at f; omega
  · exact hm
/-- what Seek gives, in the law's own words -/
theorem seek_cases (count : Int) (l : List Int) (b p : Int) :
    (seekZ count l b p).2.2.2 ≠ 0 ∨ p = count ∨ ((seekZ count l b p).2.2.2 = 0 ∧ p ≠ count ∧ (seekZ count l b p).1 * b + (seekZ count l b p).2.2.1 = p ∧ (seekZ count l b p).2.2.1 < lengthZ count b (seekZ count l b p).1 ∧ 0 ≤ (seekZ count l b p).1 * b ∧ (seekZ count l b p).1 * b ≤ 4294967295 ∧ 0 ≤ (seekZ count l b p).2.2.1 ∧ (seekZ count l b p).2.2.1 ≤ 4294967295) := by
  unfold seekZ
  by_cases h1 : b < 1 ∨ 65536 < b
  · rw [if_pos h1]; left; decide
  rw [if_neg h1]
  by_cases h2 : rightB count l = false ∨ (l.length : Int) ≠ blocksZ count b
  · rw [if_pos h2]; left; decide
  rw [if_neg h2]
  by_cases h3 : p < 0 ∨ count < p
  · rw [if_pos h3]; left; decide
  rw [if_neg h3]
  by_cases h4 : p = count
  · right; left; exact h4
  rw [if_neg h4]
  right; right
  have hr : rightB count l = true := by
    cases h : rightB count l with
    | true => rfl
    | false => exact absurd (Or.inl h) h2
  have hc := rightB_count hr
  obtain ⟨P, rfl⟩ := Int.eq_ofNat_of_zero_le (show 0 ≤ p by omega)
  obtain ⟨B, rfl⟩ := Int.eq_ofNat_of_zero_le (show 0 ≤ b by omega)
  obtain ⟨C, rfl⟩ := Int.eq_ofNat_of_zero_le hc.1
  simp only [Int.toNat_natCast]
  have e := Nat.div_add_mod P B
  have hl := @seek_len P C B (by omega) (by omega)
  have hm := Nat.mod_le P B
  have hz : lengthZ (C : Int) (B : Int) ((P / B : Nat) : Int) = (lengthN C B (P / B) : Nat) := if_pos ⟨by unfold KnownZ; omega, Int.natCast_nonneg _⟩
  have hmul : ((P / B : Nat) : Int) * (B : Int) = ((B * (P / B) : Nat) : Int) := by rw [Nat.mul_comm, Int.natCast_mul]
  refine ⟨trivial, h4, ?_, ?_, ?_, ?_, ?_, ?_⟩
  · rw [hmul]; omega
  · rw [hz]; omega
  · rw [hmul]; exact Int.natCast_nonneg _
  · rw [hmul]; omega
  · exact Int.natCast_nonneg _
  · omega
set_option maxHeartbeats 2000000 in
set_option maxRecDepth 20000 in
theorem walk (count sum : Int) (A : Option Addr) (c : Nat) (l : List Int) (b p : Int) (w : World) (hx : SeesI w A l ∧ l.length ≤ c ∧ c ≤ maxLen) (hb : -9223372036854775808 ≤ b ∧ b < 9223372036854775808) (hp : -9223372036854775808 ≤ p ∧ p < 9223372036854775808) :
    Calls Try.prog 4 #[.agg #[.int .i64 count, .int .u32 sum, .slice A l.length c], .int .i64 b, .int .i64 p] w fun e w' => e = .returned (.bool true) ∧ Below w.heap.size w w' := by
  obtain ⟨hl, hc1, hc2⟩ := hx
  unfold maxLen at hc2
  have hlen : l.length ≤ 9223372036854775807 := by omega
  clear hc1 hc2
  have hb0 : Below w.heap.size w (w.alloc (.cells #[.int .i64 count, .int .u32 sum, .slice A l.length c] 30)) := (Below.refl _ w).alloc (Nat.le_refl _) _
  have hl0 := hl.below hb0
  have hc0 : (w.alloc (.cells #[.int .i64 count, .int .u32 sum, .slice A l.length c] 30)).cell? ⟨w.heap.size, 0, none⟩ = some (.int .i64 count) := by rw [cell_of_row _ _ _ _ _ _ (heap_alloc_new _ _)]; rfl
  have hc1 : (w.alloc (.cells #[.int .i64 count, .int .u32 sum, .slice A l.length c] 30)).cell? ⟨w.heap.size, 1, none⟩ = some (.int .u32 sum) := by rw [cell_of_row _ _ _ _ _ _ (heap_alloc_new _ _)]; rfl
  have hc2 : (w.alloc (.cells #[.int .i64 count, .int .u32 sum, .slice A l.length c] 30)).cell? ⟨w.heap.size, 2, none⟩ = some (.slice A l.length c) := by rw [cell_of_row _ _ _ _ _ _ (heap_alloc_new _ _)]; rfl
  by_cases hbig : 200 < l.length
  · have hd : decide (200 < (l.length : Int)) = true := by simp; omega
    go_enter Try.func4, Try.ntmps4
    go_wp2_with fail
    refine (known_any _).mono ?_
    rintro e w2 ⟨rfl, hb2⟩
    go_wp2_with fail
    go_ret
    exact ⟨rfl, hb0.trans (hb2.mono hb0.size)⟩
  have hd : decide (200 < (l.length : Int)) = false := by simp; omega
  have hcs := seek_cases count l b p
  have HS1 := hid (fun W hl => seek_any count sum A c l b p W hl hlen)
  have HS2 := hid (fun W hl => rseek_any count sum A c l b p W hl hlen)
  generalize seekZ count l b p = z at hcs HS1 HS2
  obtain ⟨i, at_, sk, er⟩ := z
  simp only at hcs
  have hcs' : er ≠ 0 ∨ (er = 0 ∧ p = count) ∨ (er = 0 ∧ p ≠ count ∧ i * b + sk = p ∧ sk < lengthZ count b i ∧ 0 ≤ i * b ∧ i * b ≤ 4294967295 ∧ 0 ≤ sk ∧ sk ≤ 4294967295) := by
    by_cases h0 : er = 0
    · rcases hcs with he | he | he
      · exact absurd h0 he
      · exact .inr (.inl ⟨h0, he⟩)
      · exact .inr (.inr he)
    · exact .inl h0
  clear hcs
  rcases hcs' with he | ⟨rfl, rfl⟩ | ⟨rfl, hpc, hfin, hlt, m1, m2, m3, m4⟩
  · have d1 : (er != 0) = true := by simpa using he
    go_enter Try.func4, Try.ntmps4
    go_wp2_with fail
    generalize hw0 : w.alloc (.cells #[.int .i64 count, .int .u32 sum, .slice A l.length c] 30) = w0 at *
    clear hw0
    refine (HS1.out _ hl0).mono ?_
    rintro e w1 ⟨rfl, hb1⟩
    have hl1 := hl0.below hb1
    have k0 := (hb1.cell (block_lt_of_cell hc0)).trans hc0
    have k1 := (hb1.cell (block_lt_of_cell hc1)).trans hc1
    have k2 := (hb1.cell (block_lt_of_cell hc2)).trans hc2
    have hb01 := hb0.trans (hb1.mono hb0.size)
    unfold four
    go_wp2_with fail
    refine (HS2.out _ hl1).mono ?_
    rintro e w2 ⟨rfl, hb2⟩
    have j0 := (hb2.cell (block_lt_of_cell k0)).trans k0
    have j2 := (hb2.cell (block_lt_of_cell k2)).trans k2
    have hb02 := hb01.trans (hb2.mono hb01.size)
    clear hb1 hb2 k0 k1 k2 hb01
    unfold four
    go_wp2_with fail
    refine (known_any _).mono ?_
    rintro e w5 ⟨rfl, hb5⟩
    go_wp2_with fail
    go_ret
    exact ⟨rfl, hb02.trans (hb5.mono hb02.size)⟩
  · have d2 : (p == p) = true := by simp
    go_enter Try.func4, Try.ntmps4
    go_wp2_with fail
    generalize hw0 : w.alloc (.cells #[.int .i64 p, .int .u32 sum, .slice A l.length c] 30) = w0 at *
    clear hw0
    refine (HS1.out _ hl0).mono ?_
    rintro e w1 ⟨rfl, hb1⟩
    have hl1 := hl0.below hb1
    have k0 := (hb1.cell (block_lt_of_cell hc0)).trans hc0
    have k1 := (hb1.cell (block_lt_of_cell hc1)).trans hc1
    have k2 := (hb1.cell (block_lt_of_cell hc2)).trans hc2
    have hb01 := hb0.trans (hb1.mono hb0.size)
    unfold four
    go_wp2_with fail
    refine (HS2.out _ hl1).mono ?_
    rintro e w2 ⟨rfl, hb2⟩
    have j0 := (hb2.cell (block_lt_of_cell k0)).trans k0
    have j2 := (hb2.cell (block_lt_of_cell k2)).trans k2
    have hb02 := hb01.trans (hb2.mono hb01.size)
    clear hb1 hb2 k0 k1 k2 hb01
    unfold four
    go_wp2_with fail
    refine (known_any _).mono ?_
    rintro e w5 ⟨rfl, hb5⟩
    go_wp2_with fail
    go_ret
    exact ⟨rfl, hb02.trans (hb5.mono hb02.size)⟩
  · have d2 : (p == count) = false := by simpa using hpc
    have HF := hid hfin
    have HL := hid hlt
    clear hfin hlt hpc
    go_enter Try.func4, Try.ntmps4
    go_wp2_with fail
    generalize hw0 : w.alloc (.cells #[.int .i64 count, .int .u32 sum, .slice A l.length c] 30) = w0 at *
    clear hw0
    refine (HS1.out _ hl0).mono ?_
    rintro e w1 ⟨rfl, hb1⟩
    have hl1 := hl0.below hb1
    have k0 := (hb1.cell (block_lt_of_cell hc0)).trans hc0
    have k1 := (hb1.cell (block_lt_of_cell hc1)).trans hc1
    have k2 := (hb1.cell (block_lt_of_cell hc2)).trans hc2
    have hb01 := hb0.trans (hb1.mono hb0.size)
    unfold four
    go_wp2_with fail
    refine (HS2.out _ hl1).mono ?_
    rintro e w2 ⟨rfl, hb2⟩
    have j0 := (hb2.cell (block_lt_of_cell k0)).trans k0
    have j2 := (hb2.cell (block_lt_of_cell k2)).trans k2
    have hb02 := hb01.trans (hb2.mono hb01.size)
    clear hb1 hb2 k0 k1 k2 hb01
    unfold four
    have d3 : (i * b + sk == p) = true := by simpa using HF.out
    go_wp2_with fail
    refine (rlength_any _ _ _ _).mono ?_
    rintro e w3 ⟨rfl, rfl⟩
    have d4 : decide (sk < lengthZ count b i) = true := by simpa using HL.out
    go_wp2_with fail
    refine (known_any _).mono ?_
    rintro e w5 ⟨rfl, hb5⟩
    go_wp2_with fail
    go_ret
    exact ⟨rfl, hb02.trans (hb5.mono hb02.size)⟩
end Go.Proofs.Ytllbemdeimgiiaa.tailSeeks
