/- Whether sound has few samples. -/
import Derived.Test.YtfinefhebffpcaaPcmSees
namespace Go.Proofs.Ytfinefhebffpcaa
set_option linter.unusedVariables false
open Go.RowKit
def sumL (L : List Chan) : Nat := match L with | [] => 0 | x :: L => x.l.length + sumL L
theorem sumL_snoc (L : List Chan) (k : Nat) (h : k < L.length) : sumL (L.take (k + 1)) = sumL (L.take k) + L[k].l.length := by
  induction L generalizing k with
  | nil => simp at h
  | cons x L ih =>
    cases k with
    | zero => simp [sumL]
    | succ k =>
      have := ih k (by simpa using h)
      simp only [List.take_succ_cons, sumL, List.getElem_cons_succ]
      omega
def SmallOk (m : Nat) (L : List Chan) : Prop := L.length ≤ 9 ∧ sumL L ≤ m ∧ ∀ x ∈ L, x.l.length ≤ m
def SmallPost (w : World) (m : Nat) (L : List Chan) (e : Ending) (w' : World) : Prop := ∃ b : Bool, e = .returned (.bool b) ∧ (b = true → SmallOk m L) ∧ Below w.heap.size w w'
set_option maxRecDepth 20000 in
set_option maxHeartbeats 1000000 in
theorem rsmall_any (ch bi ra : Int) (A : Option Addr) (c : Nat) (L : List Chan) (m : Nat) (w : World) (h : SeesL w A L) (hlen : L.length ≤ maxLen) (hm : m ≤ 1000000) :
    Calls Try.prog 8 #[.agg #[.int .i64 ch, .int .i64 bi, .int .i64 ra, .slice A L.length c], .int .i64 (m : Int)] w (SmallPost w m L) := by
  unfold maxLen at hlen
  have hb := below_box w ch bi ra A L.length c
  have hs := SndAt.new w ch bi ra A L.length c
  have h0 := h.below hb
  clear h
  go_enter Try.func8, Try.ntmps8
  go_wp2_with fail
  generalize w.alloc (.cells #[.int .i64 ch, .int .i64 bi, .int .i64 ra, .slice A L.length c] 26) = w0 at *
  obtain ⟨s0, s1, s2, s3⟩ := hs
  go_loop [5, 6] (fun nv cv => ∃ k N : Nat, k ≤ L.length ∧ k ≤ 10 ∧ cv = .int .i64 (k : Int) ∧ nv = .int .i64 (N : Int) ∧ N ≤ k * m ∧ Hid (N = sumL (L.take k) ∧ ∀ x ∈ L.take k, x.l.length ≤ m)) (fun _ cv => L.length - (intOf cv).toNat)
  case atStart => exact ⟨0, 0, by omega, by omega, rfl, rfl, by omega, hid ⟨by simp [sumL], by simp⟩⟩
  case round =>
    obtain ⟨k, N, hk, hk10, rfl, rfl, hNm, hP⟩ := hrel
    have hkm : k * m ≤ 10 * m := Nat.mul_le_mul_right _ hk10
    by_cases hlt : k < L.length
    · have dk : decide ((k : Int) < (L.length : Int)) = true := decide_eq_true (by omega)
      by_cases hlt10 : k < 10
      · have dk10 : decide ((k : Int) < 10) = true := decide_eq_true (by omega)
        obtain ⟨a, hAa, hc⟩ := h0.at hlt
        have hsn := sumL_snoc L k hlt
        have htk : L.take (k + 1) = L.take k ++ [L[k]] := List.take_succ_eq_append_getElem hlt
        have HS := hid hsn
        have HT := hid htk
        clear hsn htk
        generalize L[k] = x at *
        have hc' : w0.cell? (a.add k) = some (.slice x.A x.l.length x.c) := hc
        subst hAa
        clear hc
        by_cases hbig : m < x.l.length
        · have dm : decide ((m : Int) < (x.l.length : Int)) = true := decide_eq_true (by omega)
          go_wp2_with fail
          go_ret
          exact ⟨false, rfl, fun h => by simp at h, hb⟩
        · have dm : decide ((m : Int) < (x.l.length : Int)) = false := decide_eq_false (by omega)
          go_wp2_with fail
          go_round
          case rel => exact ⟨k + 1, N + x.l.length, by omega, by omega, by go_num, by go_num, by rw [Nat.add_mul]; omega, hid ⟨by rw [HS.out, hP.out.1], by
            rw [HT.out]
            intro y hy
            rcases List.mem_append.1 hy with h | h
            · exact hP.out.2 y h
            · simp at h; subst h; omega⟩⟩
          case measure => simp [intOf]; omega
      · have dk10 : decide ((k : Int) < 10) = false := decide_eq_false (by omega)
        have d9 : decide ((L.length : Int) ≤ 9) = false := decide_eq_false (by omega)
        go_wp2_with fail
        go_ret
        exact ⟨false, rfl, fun h => by simp at h, hb⟩
    · obtain rfl : k = L.length := by omega
      have dk : decide ((L.length : Int) < (L.length : Int)) = false := decide_eq_false (by omega)
      by_cases h9 : L.length ≤ 9
      · have d9 : decide ((L.length : Int) ≤ 9) = true := decide_eq_true (by omega)
        by_cases hN : N ≤ m
        · have dN : decide ((N : Int) ≤ (m : Int)) = true := decide_eq_true (by omega)
          go_wp2_with fail
          go_ret
          refine ⟨true, rfl, fun _ => ⟨h9, ?_, ?_⟩, hb⟩
          · have := hP.out.1; rw [List.take_length] at this; omega
          · have := hP.out.2; rwa [List.take_length] at this
        · have dN : decide ((N : Int) ≤ (m : Int)) = false := decide_eq_false (by omega)
          go_wp2_with fail
          go_ret
          exact ⟨false, rfl, fun h => by simp at h, hb⟩
      · have d9 : decide ((L.length : Int) ≤ 9) = false := decide_eq_false (by omega)
        go_wp2_with fail
        go_ret
        exact ⟨false, rfl, fun h => by simp at h, hb⟩
end Go.Proofs.Ytfinefhebffpcaa
