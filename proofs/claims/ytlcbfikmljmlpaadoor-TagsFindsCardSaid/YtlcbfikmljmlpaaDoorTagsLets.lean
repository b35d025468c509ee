/- Letters counted, a text cut, and the reference's cut. -/
import Derived.Test.YtlcbfikmljmlpaaDoorTagsPre
import Derived.Test.YtlcbfikmljmlpaaDoorMakeB
namespace Go.Proofs.YtlcbfikmljmlpaaDoor
set_option linter.unusedVariables false
open Go.RowKit
theorem lenL_step (s : ByteArray) (p : Nat) (h : p < s.size) : lenL s (s.size - p) p = 1 + lenL s (s.size - (p + widL s p)) (p + widL s p) := by
  have hw := widL_le s p h
  have h1 := widL_pos s p h
  obtain ⟨m, hm⟩ : ∃ m, s.size - p = m + 1 := ⟨s.size - p - 1, by omega⟩
  rw [hm]
  show (if p < s.size then 1 + lenL s m (p + widL s p) else 0) = _
  rw [if_pos h, lenL_more s (s.size - (p + widL s p)) m _ (by omega) (by omega)]
theorem lenL_end (s : ByteArray) (k p : Nat) (h : s.size ≤ p) : lenL s k p = 0 := by
  cases k with
  | zero => rfl
  | succ k => unfold lenL; rw [if_neg (by omega)]
theorem posL_end (s : ByteArray) (k p : Nat) (h : s.size ≤ p) : posL s k p = p := by
  cases k with
  | zero => rfl
  | succ k => unfold posL; rw [if_neg (by omega)]
theorem below_iter (w : World) (s : ByteArray) (p : Nat) : Below w.heap.size w (w.iter s p) := (Below.refl _ _).alloc (Nat.le_refl _) _
theorem lenL_le (s : ByteArray) : ∀ (k p : Nat), lenL s k p ≤ s.size - p
  | 0, p => by unfold lenL; omega
  | k + 1, p => by
    unfold lenL
    split
    · have := lenL_le s k (p + widL s p)
      have := widL_pos s p ‹_›
      omega
    · omega
set_option maxRecDepth 20000 in
theorem letters_any (s : ByteArray) (w : World) (hs : s.size ≤ 140737488355328) :
    Calls Tryd.prog 28 #[.string s] w fun e w' => e = .returned (.int .i64 ((lenL s s.size 0 : Nat) : Int)) ∧ Below w.heap.size w w' := by
  obtain ⟨N, hN⟩ : ∃ N, N = lenL s s.size 0 := ⟨_, rfl⟩
  rw [← hN]
  have HN := hid hN
  clear hN
  go_enter Tryd.func28, Tryd.ntmps28
  go_wp2
  go_loopw [3] (fun n w' => ∃ (pos k : Nat), w' = w.iter s pos ∧ n = .int .i64 (k : Int) ∧ k + lenL s (s.size - pos) pos = N ∧ k ≤ pos) (fun _ w' => s.size - w'.iterPos w.heap.size)
  case atStart => exact ⟨0, 0, rfl, rfl, by rw [HN.out]; simp, by omega⟩
  case round =>
    obtain ⟨pos, k, rfl, rfl, hc, hkp⟩ := hrel
    by_cases hp : pos < s.size
    · have hnx : ∀ ty, (Instr.next (.pointer (some ⟨w.heap.size, 0, none⟩)) true ty).run Tryd.prog (w.iter s pos) = _ := fun ty => run_next_any w s pos ty hp
      have hwd := widL_pos s pos hp
      have hst := hid (lenL_step s pos hp)
      go_wp2
      go_roundw
      case rel => exact ⟨pos + widL s pos, k + 1, rfl, by go_num, by rw [← hc, hst.out]; omega, by omega⟩
      case measure =>
        have e : (Utf8.decode s pos).2 = widL s pos := rfl
        rw [e]
        simp
        omega
    · have hnx : ∀ ty, (Instr.next (.pointer (some ⟨w.heap.size, 0, none⟩)) true ty).run Tryd.prog (w.iter s pos) = _ := fun ty => run_next_end w s pos ty hp
      rw [lenL_end s _ pos (by omega), Nat.add_zero] at hc
      subst hc
      go_wp2
      go_ret
      exact ⟨rfl, below_iter w s pos⟩
theorem extract_all (s : ByteArray) : s.extract 0 s.size = s := by simp
theorem extract_zero (s : ByteArray) : s.extract 0 0 = ⟨#[]⟩ := by
  apply ByteArray.ext
  simp
set_option maxRecDepth 20000 in
set_option maxHeartbeats 1000000 in
theorem cut_any (s : ByteArray) (n : Int) (w : World) (hs : s.size ≤ 140737488355328) (hn : -9223372036854775808 ≤ n ∧ n ≤ 9223372036854775807) :
    Calls Tryd.prog 29 #[.string s, .int .i64 n] w fun e w' => e = .returned (.string (s.extract 0 (posL s n.toNat 0))) ∧ Below w.heap.size w w' := by
  by_cases h1 : n < 1
  · have d1 : decide (n < 1) = true := decide_eq_true h1
    have e : s.extract 0 (posL s n.toNat 0) = ⟨#[]⟩ := by
      rw [show n.toNat = 0 by omega]
      exact extract_zero s
    rw [e]
    go_enter Tryd.func29, Tryd.ntmps29
    go_wp2_with fail
    go_ret
    exact ⟨rfl, Below.refl _ _⟩
  · have d1 : decide (n < 1) = false := decide_eq_false h1
    obtain ⟨N, rfl⟩ : ∃ N : Nat, n = (N : Int) := ⟨n.toNat, by omega⟩
    rw [Int.toNat_natCast]
    obtain ⟨C, hC⟩ : ∃ C, C = posL s N 0 := ⟨_, rfl⟩
    rw [← hC]
    have HC := hid hC
    clear hC
    obtain ⟨R, hR⟩ : ∃ R, R = s.extract 0 C := ⟨_, rfl⟩
    rw [← hR]
    have HR := hid hR
    clear hR
    go_enter Tryd.func29, Tryd.ntmps29
    go_wp2
    go_loopw [1] (fun nv w' => ∃ (pos k : Nat), w' = w.iter s pos ∧ nv = .int .i64 (k : Int) ∧ k ≤ N ∧ pos ≤ s.size ∧ Hid (posL s k pos = C)) (fun _ w' => s.size - w'.iterPos w.heap.size)
    case atStart => exact ⟨0, N, rfl, rfl, by omega, by omega, hid HC.out.symm⟩
    case round =>
      obtain ⟨pos, k, rfl, rfl, hkN, hps, hP⟩ := hrel
      by_cases hp : pos < s.size
      · have hnx : ∀ ty, (Instr.next (.pointer (some ⟨w.heap.size, 0, none⟩)) true ty).run Tryd.prog (w.iter s pos) = _ := fun ty => run_next_any w s pos ty hp
        have hwd := widL_pos s pos hp
        have hwl := widL_le s pos hp
        have hbi := below_iter w s (pos + widL s pos)
        have hsz : w.heap.size ≤ (w.iter s (pos + widL s pos)).heap.size := hbi.size
        by_cases hk : k = 0
        · have dk : decide ((k : Int) = 0) = true := decide_eq_true (by omega)
          obtain rfl : pos = C := by rw [← hP.out, hk]; rfl
          obtain rfl : R = s.extract 0 pos := HR.out
          clear hP HC HR
          subst hk
          go_wp2_with fail
          refine (clone_str (s.extract 0 pos) _ (by simp; omega)).mono ?_
          rintro e w2 ⟨rfl, hb2⟩
          go_wp2_with fail
          go_ret
          exact ⟨rfl, hbi.trans (hb2.mono hsz)⟩
        · have dk : decide ((k : Int) = 0) = false := decide_eq_false (by omega)
          have HS := hid (show posL s k pos = posL s (k - 1) (pos + widL s pos) by
            obtain ⟨m, rfl⟩ : ∃ m, k = m + 1 := ⟨k - 1, by omega⟩
            show (if pos < s.size then posL s m (pos + widL s pos) else pos) = _
            rw [if_pos hp]; rfl)
          clear hbi hsz
          go_wp2
          go_roundw
          case rel => exact ⟨pos + widL s pos, k - 1, rfl, by go_num, by omega, by omega, hid (by rw [← HS.out]; exact hP.out)⟩
          case measure =>
            have e : (Utf8.decode s pos).2 = widL s pos := rfl
            rw [e]
            simp
            omega
      · have hnx : ∀ ty, (Instr.next (.pointer (some ⟨w.heap.size, 0, none⟩)) true ty).run Tryd.prog (w.iter s pos) = _ := fun ty => run_next_end w s pos ty hp
        obtain rfl : pos = C := by rw [← hP.out, posL_end s _ pos (by omega)]
        obtain rfl : pos = s.size := by omega
        obtain rfl : R = s := by rw [HR.out, extract_all]
        clear hP HC HR
        go_wp2
        go_ret
        exact ⟨rfl, below_iter w _ _⟩
end Go.Proofs.YtlcbfikmljmlpaaDoor
