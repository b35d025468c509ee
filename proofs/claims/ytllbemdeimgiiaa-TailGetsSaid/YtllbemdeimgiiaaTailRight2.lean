/- Contract: the reference's Right. -/
import Derived.Test.YtllbemdeimgiiaaTailRight
import Derived.Deep.QuietTactic
import Derived.BigQuiet
namespace Go.Proofs.Ytllbemdeimgiiaa
set_option linter.unusedVariables false
open Go.RowKit
def lastOf (l : List Int) (k : Nat) : Int := if k = 0 then -1 else l.getD (k - 1) 0
theorem below_drewN {B : Nat} {a w : World} (h : Below B a w) (n : Nat) : Below B a (w.drewN n) := ⟨h.os, h.tape, h.output, h.size, h.block⟩
theorem rises_bad {la x : Int} {l : List Int} (h : fallB x la 1099511627776 = true) : risesB la 1099511627776 (x :: l) = false := by simp [risesB, h]
theorem rises_good {la x : Int} {l : List Int} (h : fallB x la 1099511627776 = false) : risesB la 1099511627776 (x :: l) = risesB x 1099511627776 l := by simp [risesB, h]
set_option maxHeartbeats 4000000 in
set_option maxRecDepth 20000 in
theorem rright_any (count sum : Int) (A : Option Addr) (c : Nat) (l : List Int) (w : World) (hl : SeesI w A l) (hlen : l.length ≤ 9223372036854775807) :
    Calls Try.prog 20 #[.agg #[.int .i64 count, .int .u32 sum, .slice A l.length c]] w (BoolPost w w.heap.size (rightB count l)) := by
  have hb0 : Below w.heap.size w (w.alloc (.cells #[.int .i64 count, .int .u32 sum, .slice A l.length c] 30)) := (Below.refl _ w).alloc (Nat.le_refl _) _
  by_cases h1 : count < 0
  · have d1 : decide (count < 0) = true := by simpa using h1
    go_enter Try.func20, Try.ntmps20
    go_wp2_with fail
    go_ret
    exact ⟨by rw [rightB]; simp; omega, hb0⟩
  have d1 : decide (count < 0) = false := by simpa using h1
  by_cases h2 : 4294967295 < count
  · have d2 : decide (4294967295 < count) = true := by simpa using h2
    go_enter Try.func20, Try.ntmps20
    go_wp2_with fail
    go_ret
    exact ⟨by rw [rightB]; simp; omega, hb0⟩
  have d2 : decide (4294967295 < count) = false := by simpa using h2
  by_cases h3 : 16777216 < l.length
  · have d3 : decide (16777216 < (l.length : Int)) = true := by simp; omega
    go_enter Try.func20, Try.ntmps20
    go_wp2_with fail
    go_ret
    exact ⟨by rw [rightB]; simp; omega, hb0⟩
  have d3 : decide (16777216 < (l.length : Int)) = false := by simp; omega
  have hR : rightB count l = risesB (-1) 1099511627776 l := by
    rw [rightB, show decide (0 ≤ count) = true by simp; omega, show decide (count ≤ 4294967295) = true by simp; omega, show decide (l.length ≤ 16777216) = true by simp; omega]; rfl
  rw [hR]
  clear hR
  have hcx0 : (w.alloc (.cells #[.int .i64 count, .int .u32 sum, .slice A l.length c] 30)).cell? ⟨w.heap.size, 2, none⟩ = some (.slice A l.length c) := by rw [cell_of_row _ _ _ _ _ _ (heap_alloc_new _ _)]; rfl
  have hl0 := hl.below hb0
  go_enter Try.func20, Try.ntmps20
  go_wp2_with fail
  generalize hw0 : w.alloc (.cells #[.int .i64 count, .int .u32 sum, .slice A l.length c] 30) = w0 at *
  clear hw0
  go_loopw [3] (fun i wr => ∃ k : Nat, k ≤ l.length ∧ i = .int .i64 k ∧ (∃ m, wr = w0.drewN m) ∧ risesB (-1) 1099511627776 l = risesB (lastOf l k) 1099511627776 (l.drop k) ∧ -1 ≤ lastOf l k) (fun i _ => l.length - (intOf i).toNat)
  case atStart => exact ⟨0, by omega, rfl, ⟨0, rfl⟩, rfl, by simp [lastOf]⟩
  case round =>
    obtain ⟨k, hk, rfl, ⟨m, rfl⟩, hr, hla⟩ := hrel
    have HR := hid hr
    clear hr
    have hcx : (w0.drewN m).cell? ⟨w.heap.size, 2, none⟩ = some (.slice A l.length c) := hcx0
    by_cases hlt : k < l.length
    · obtain ⟨a, rfl, hc⟩ := hl0.at hlt
      have hcw : (w0.drewN m).cell? (a.add k) = some (.int .i64 l[k]) := hc
      have hd : decide (k < l.length) = true := by simp; omega
      have hnext : lastOf l (k + 1) = l[k] := by simp [lastOf, List.getD, hlt]
      have HN := hid hnext
      have hdrop : l.drop k = l[k] :: l.drop (k + 1) := List.drop_eq_getElem_cons hlt
      have HD := hid hdrop
      clear hnext hdrop
      generalize l[k] = x at hc hcw HN HD
      have hstay : fallB x (lastOf l k) 1099511627776 = true ∨ fallB x (lastOf l k) 1099511627776 = false := by cases fallB x (lastOf l k) 1099511627776 <;> simp
      by_cases hx0 : x < 0
      · have e0 : decide (x < 0) = true := by simpa using hx0
        have hf : fallB x (lastOf l k) 1099511627776 = true := by simp [fallB]; omega
        have HF := hid (rises_bad (l := l.drop (k + 1)) hf)
        clear hf hstay
        go_wp2_with fail
        go_quiet (fail)
        go_wp2_with fail
        go_ret
        exact ⟨by rw [HR.out, HD.out, HF.out]; rfl, below_drewN (below_drewN hb0 _) _⟩
      have e0 : decide (x < 0) = false := by simpa using hx0
      by_cases hx1 : 1099511627776 ≤ x
      · have e1 : decide (1099511627776 ≤ x) = true := by simpa using hx1
        have hf : fallB x (lastOf l k) 1099511627776 = true := by simp [fallB]; omega
        have HF := hid (rises_bad (l := l.drop (k + 1)) hf)
        clear hf hstay
        go_wp2_with fail
        go_quiet (fail)
        go_wp2_with fail
        go_ret
        exact ⟨by rw [HR.out, HD.out, HF.out]; rfl, below_drewN (below_drewN hb0 _) _⟩
      have e1 : decide (1099511627776 ≤ x) = false := by simpa using hx1
      by_cases hk0 : 0 < k
      · have e2 : decide (0 < (k : Int)) = true := by simp; omega
        have e2' : decide (0 < k) = true := by simp; omega
        obtain ⟨a', ha', hcy⟩ := hl0.at (show k - 1 < l.length by omega)
        have hlast : lastOf l k = l[k - 1]'(by omega) := by
          rw [lastOf, if_neg (by omega)]; simp [List.getD, List.getElem?_eq_getElem (show k - 1 < l.length by omega)]
        rw [hlast] at hstay hla
        have HL := hid hlast
        clear hlast
        generalize l[k - 1] = y at hcy hstay hla HL
        injection ha' with ha'
        subst ha'
        have hcy' : (w0.drewN m).cell? (a.add (k - 1)) = some (.int .i64 y) := hcy
        have hw1 : IntKind.i64.wrap ((k : Int) - 1) = (k : Int) - 1 := by rw [IntKind.wrap_i64]; omega
        have hn1 : 0 ≤ (k : Int) - 1 := by omega
        have hn2 : (k : Int) - 1 < l.length := by omega
        have hn3 : ((k : Int) - 1).toNat = k - 1 := by omega
        by_cases hxy : x ≤ y
        · have e3 : decide (x ≤ y) = true := by simpa using hxy
          have hf : fallB x y 1099511627776 = true := by simp [fallB]; omega
          have HF := hid (rises_bad (l := l.drop (k + 1)) hf)
          clear hf hstay
          go_wp2_with fail
          go_quiet (fail)
          go_wp2_with fail
          go_ret
          exact ⟨by rw [HR.out, HD.out, HL.out, HF.out]; rfl, below_drewN (below_drewN hb0 _) _⟩
        · have e3 : decide (x ≤ y) = false := by simpa using hxy
          have hf : fallB x y 1099511627776 = false := by simp [fallB]; omega
          have HF := hid (rises_good (l := l.drop (k + 1)) hf)
          clear hf hstay
          go_wp2_with fail
          go_quiet (fail)
          clear hw1 hn3
          go_wp2_with fail
          go_roundw
          case rel => exact ⟨k + 1, by omega, by go_num, ⟨_, rfl⟩, by rw [HR.out, HD.out, HL.out, HF.out, HN.out], by rw [HN.out]; omega⟩
          case measure => simp [intOf]; omega
      · have e2 : decide (0 < (k : Int)) = false := by simp; omega
        have e2' : decide (0 < k) = false := by simp; omega
        have hf : fallB x (lastOf l k) 1099511627776 = false := by
          have : lastOf l k = -1 := by rw [lastOf, if_pos (by omega)]
          rw [this]; simp [fallB]; omega
        have HF := hid (rises_good (l := l.drop (k + 1)) hf)
        clear hf hstay
        go_wp2_with fail
        go_quiet (fail)
        go_wp2_with fail
        go_roundw
        case rel => exact ⟨k + 1, by omega, by go_num, ⟨_, rfl⟩, by rw [HR.out, HD.out, HF.out, HN.out], by rw [HN.out]; omega⟩
        case measure => simp [intOf]; omega
    · obtain rfl : k = l.length := by omega
      go_wp2_with fail
      go_ret
      exact ⟨by rw [HR.out, List.drop_length]; rfl, below_drewN hb0 _⟩
theorem rright_is (count sum : Int) (A : Option Addr) (c : Nat) (l : List Int) (w : World) (hl : SeesI w A l) (hlen : l.length ≤ 9223372036854775807) (v : Bool) (hv : rightB count l = v) :
    Calls Try.prog 20 #[.agg #[.int .i64 count, .int .u32 sum, .slice A l.length c]] w fun e w' => e = .returned (.bool v) ∧ Below w.heap.size w w' :=
  hv ▸ rright_any count sum A c l w hl hlen
end Go.Proofs.Ytllbemdeimgiiaa
