/- A tail read, at any bytes: the program's Get. -/
import Derived.Test.YtkmhmehofipehaaGreatDoorPz17
import Derived.Test.YtkmhmehofipehaaGreatDoorPz5
import Derived.Deep.QuietTactic
import Derived.BigQuiet
import Derived.Test.YtkmhmehofipehaaGreatDoorPz13
namespace Go.Proofs.YtkmhmehofipehaaGreatDoor
set_option linter.unusedVariables false
open Go.RowKit
theorem hu_of {l : List UInt8} (hlen : l.length ≤ 140737488355328) {e e' : Int} {p p' : Nat} {b : List UInt8} (h : takeU (e, p) l 4 = ((e', p'), b)) :
    ∀ g W, Tk W g e p l → Calls Tryz.prog 55 #[.pointer (some ⟨g, 0, none⟩), .int .i64 4] W fun x w' => x = .returned (.int .u64 (valLE b : Nat)) ∧ Tk w' g e' p' l ∧ But (Only g) W w' := fun g W hT => by
  have h1 := takerU_any g e p 4 l W hT hlen
  rw [h] at h1
  exact h1
theorem hraw_of {l : List UInt8} (hlen : l.length ≤ 140737488355328) {e' : Int} {p' : Nat} {b : List UInt8} (h : takeRaw (0, 0) l 2 = ((e', p'), b)) :
    ∀ g W, Tk W g 0 0 l → Calls Tryz.prog 58 #[.pointer (some ⟨g, 0, none⟩), .int .i64 2] W fun x w' => (∃ v, x = .returned v) ∧ Tk w' g e' p' l ∧ But (Only g) W w' := fun g W hT => by
  have h1 := traw_any g 0 0 2 l W hT hlen (by omega)
  rw [h] at h1
  refine h1.mono ?_
  rintro x w' ⟨A, c, rfl, _, _, _, _, hT', hB⟩
  exact ⟨⟨_, rfl⟩, hT', hB⟩
theorem tgetF_any (t : Nat) (A : Option Addr) (c : Nat) (l : List UInt8) (w : World) (ht : Tab w t) (hl : SeesB w A l) (hc : l.length ≤ c) (hcm : c ≤ maxLen) (hlen : l.length ≤ 140737488355328) :
    Calls Tryz.prog 33 #[.pointer (some ⟨t, 0, none⟩), .slice A l.length c] w (GetTPostF w (getT l)) := by
  cases hs : startsT l with
  | false =>
    rw [show getT l = (31, 0, 0, 0, []) by unfold getT; rw [if_pos hs]]
    exact tget_kind t A c l w ht hl hc hcm hlen hs
  | true =>
    by_cases h14 : l.length < 14
    · rw [show getT l = (10, 0, 0, 0, []) by unfold getT; rw [if_neg (by rw [hs]; simp), if_pos h14]]
      by_cases h2 : l.length < 2
      · exact tget_few t A c l w ht hl hc hcm hlen hs 10 10 10 10 0 0 0 0 0 0 0 (by omega) (by omega) (by omega) (hraw_of hlen (takeRaw2_end l h2)) (hu_of hlen (takeU_err 10 0 4 l (by decide))) (hu_of hlen (takeU_err 10 0 4 l (by decide))) (hu_of hlen (takeU_err 10 0 4 l (by decide))) rfl rfl
      · by_cases h6 : l.length < 6
        · exact tget_few t A c l w ht hl hc hcm hlen hs 0 10 10 10 2 2 2 2 0 0 0 (by omega) (by omega) (by omega) (hraw_of hlen (takeRaw2_ok l (by omega))) (hu_of hlen (takeU_end 2 4 l (by omega) (by omega))) (hu_of hlen (takeU_err 10 2 4 l (by decide))) (hu_of hlen (takeU_err 10 2 4 l (by decide))) rfl rfl
        · by_cases h10 : l.length < 10
          · exact tget_few t A c l w ht hl hc hcm hlen hs 0 0 10 10 2 6 6 6 (fldT l 2 4) 0 0 (fldT_lt l 2 4) (by omega) (by omega) (hraw_of hlen (takeRaw2_ok l (by omega))) (hu_of hlen (takeUt_at 2 4 l (by omega) (by omega))) (hu_of hlen (takeU_end 6 4 l (by omega) (by omega))) (hu_of hlen (takeU_err 10 6 4 l (by decide))) rfl rfl
          · exact tget_few t A c l w ht hl hc hcm hlen hs 0 0 0 10 2 6 10 10 (fldT l 2 4) (fldT l 6 4) 0 (fldT_lt l 2 4) (fldT_lt l 6 4) (by omega) (hraw_of hlen (takeRaw2_ok l (by omega))) (hu_of hlen (takeUt_at 2 4 l (by omega) (by omega))) (hu_of hlen (takeUt_at 6 4 l (by omega) (by omega))) (hu_of hlen (takeU_end 10 4 l (by omega) (by omega))) rfl rfl
    · have hr := hraw_of hlen (takeRaw2_ok l (by omega))
      have u1 := hu_of hlen (takeUt_at 2 4 l (by omega) (by omega))
      have u2 := hu_of hlen (takeUt_at 6 4 l (by omega) (by omega))
      have u3 := hu_of hlen (takeUt_at 10 4 l (by omega) (by omega))
      by_cases hbig : 16777216 < fldT l 10 4
      · rw [show getT l = (60, 0, 0, 0, []) by unfold getT; rw [if_neg (by rw [hs]; simp), if_neg h14, if_pos hbig]]
        exact tget_many t A c l w ht hl hc hcm hlen hs 0 0 0 0 2 6 10 14 (fldT l 2 4) (fldT l 6 4) (fldT l 10 4) (fldT_lt l 2 4) (fldT_lt l 6 4) (fldT_lt l 10 4) hr u1 u2 u3 hbig
      · exact tget_long t A c l w ht hl hc hcm hlen hs 0 0 0 0 2 6 10 14 (fldT l 2 4) (fldT l 6 4) (fldT l 10 4) (fldT_lt l 2 4) (fldT_lt l 6 4) (fldT_lt l 10 4) hr u1 u2 u3 (by omega) rfl rfl (by omega) rfl rfl rfl
end Go.Proofs.YtkmhmehofipehaaGreatDoor
/- Slices of whole numbers compared. -/
namespace Go.Proofs.YtkmhmehofipehaaGreatDoor
set_option linter.unusedVariables false
open Go.RowKit
theorem drewBelow {B : Nat} {w0 w : World} (h : Below B w0 w) (n : Nat) : Below B w0 (w.drewN n) := ⟨h.os, h.tape, h.output, h.size, h.block⟩
set_option maxHeartbeats 1000000 in
theorem equalI_any (A B : Option Addr) (c d : Nat) (l m : List Int) (w : World) (hl : SeesI w A l) (hm : SeesI w B m) (h1 : l.length ≤ maxLen) (h2 : m.length ≤ maxLen) :
    Calls Tryz.prog 34 #[.slice A l.length c, .slice B m.length d] w fun e w' => e = .returned (.bool (decide (l = m))) ∧ Below w.heap.size w w' := by
  unfold maxLen at h1 h2
  by_cases hlen : l.length = m.length
  · have d1 : ((l.length : Int) != m.length) = false := by simp [hlen]
    have HLEN := hid hlen
    clear hlen
    go_enter Tryz.func34, Tryz.ntmps34
    go_wp2_with fail
    go_loopw [5, 13] (fun x i wr => ∃ k : Nat, k ≤ l.length ∧ i = .int .i64 k ∧ l.take k = m.take k ∧ Below w.heap.size w wr) (fun x i _ => l.length - (intOf i).toNat)
    case atStart => exact ⟨0, by omega, rfl, by simp, Below.refl _ _⟩
    case round =>
      obtain ⟨k, hk, rfl, he, hbw⟩ := hrel
      have HE := hid he
      clear he
      by_cases hlt : k < l.length
      · have hd : decide (k < l.length) = true := by simpa using hlt
        have hltm : k < m.length := by rw [← HLEN.out]; exact hlt
        have f1 : (k : Int) < m.length := by omega
        obtain ⟨a, rfl, ca⟩ := (hl.below hbw).at hlt
        obtain ⟨b, rfl, cb⟩ := (hm.below hbw).at hltm
        have f2 : (k : Int) < l.length := by omega
        by_cases heq : l[k] = m[k]
        · have d2 : (l[k] != m[k]) = false := by rw [heq]; simp
          have HEQ := hid heq
          clear heq
          go_wp2_with fail
          go_quiet (fail)
          go_wp2_with fail
          refine ⟨⟨k + 1, hlt, by go_num, by rw [List.take_succ_eq_append_getElem hlt, List.take_succ_eq_append_getElem hltm, HE.out, HEQ.out], drewBelow hbw _⟩, by simp [intOf]; omega⟩
        · have d2 : (l[k] != m[k]) = true := by simpa using heq
          have hne : decide (l = m) = false := by
            simp only [decide_eq_false_iff_not]
            rintro rfl
            exact heq rfl
          have HNE := hid hne
          clear heq hne
          go_wp2_with fail
          go_quiet (fail)
          go_wp2_with fail
          go_ret
          exact ⟨ret_bool HNE.out.symm, drewBelow hbw _⟩
      · obtain rfl : k = l.length := by omega
        have hd : decide (l.length < l.length) = false := by simp
        have : l = m := by
          have he := HE.out
          rw [List.take_length] at he
          rw [he, HLEN.out, List.take_length]
        have HT := hid this
        clear this
        go_wp2_with fail
        go_ret
        exact ⟨ret_bool (decide_eq_true HT.out).symm, hbw⟩
  · have d1 : ((l.length : Int) != m.length) = true := by simp; omega
    have hne : decide (l = m) = false := by
      simp only [decide_eq_false_iff_not]
      rintro rfl
      exact hlen rfl
    have HNE := hid hne
    clear hlen hne
    go_enter Tryz.func34, Tryz.ntmps34
    go_wp2_with fail
    go_ret
    exact ⟨ret_bool HNE.out.symm, Below.refl _ _⟩
set_option maxHeartbeats 1000000 in
theorem rints_any (A B : Option Addr) (c d : Nat) (l m : List Int) (w : World) (hl : SeesI w A l) (hm : SeesI w B m) (h1 : l.length ≤ maxLen) (h2 : m.length ≤ maxLen) :
    Calls Tryz.prog 22 #[.slice A l.length c, .slice B m.length d] w fun e w' => e = .returned (.bool (decide (l = m))) ∧ Below w.heap.size w w' := by
  unfold maxLen at h1 h2
  by_cases hlen : l.length = m.length
  · have d1 : ((l.length : Int) != m.length) = false := by simp [hlen]
    have HLEN := hid hlen
    clear hlen
    go_enter Tryz.func22, Tryz.ntmps22
    go_wp2_with fail
    go_loopw [5] (fun i wr => ∃ k : Nat, k ≤ l.length ∧ i = .int .i64 k ∧ l.take k = m.take k ∧ Below w.heap.size w wr) (fun i _ => l.length - (intOf i).toNat)
    case atStart => exact ⟨0, by omega, rfl, by simp, Below.refl _ _⟩
    case round =>
      obtain ⟨k, hk, rfl, he, hbw⟩ := hrel
      have HE := hid he
      clear he
      by_cases hlt : k < l.length
      · have hd : decide (k < l.length) = true := by simpa using hlt
        have hltm : k < m.length := by rw [← HLEN.out]; exact hlt
        have f1 : (k : Int) < m.length := by omega
        obtain ⟨a, rfl, ca⟩ := (hl.below hbw).at hlt
        obtain ⟨b, rfl, cb⟩ := (hm.below hbw).at hltm
        have f2 : (k : Int) < l.length := by omega
        by_cases heq : l[k] = m[k]
        · have d2 : (l[k] != m[k]) = false := by rw [heq]; simp
          have HEQ := hid heq
          clear heq
          go_wp2_with fail
          go_quiet (fail)
          go_wp2_with fail
          refine ⟨⟨k + 1, hlt, by go_num, by rw [List.take_succ_eq_append_getElem hlt, List.take_succ_eq_append_getElem hltm, HE.out, HEQ.out], drewBelow hbw _⟩, by simp [intOf]; omega⟩
        · have d2 : (l[k] != m[k]) = true := by simpa using heq
          have hne : decide (l = m) = false := by
            simp only [decide_eq_false_iff_not]
            rintro rfl
            exact heq rfl
          have HNE := hid hne
          clear heq hne
          go_wp2_with fail
          go_quiet (fail)
          go_wp2_with fail
          go_ret
          exact ⟨ret_bool HNE.out.symm, drewBelow hbw _⟩
      · obtain rfl : k = l.length := by omega
        have hd : decide (l.length < l.length) = false := by simp
        have : l = m := by
          have he := HE.out
          rw [List.take_length] at he
          rw [he, HLEN.out, List.take_length]
        have HT := hid this
        clear this
        go_wp2_with fail
        go_ret
        exact ⟨ret_bool (decide_eq_true HT.out).symm, hbw⟩
  · have d1 : ((l.length : Int) != m.length) = true := by simp; omega
    have hne : decide (l = m) = false := by
      simp only [decide_eq_false_iff_not]
      rintro rfl
      exact hlen rfl
    have HNE := hid hne
    clear hlen hne
    go_enter Tryz.func22, Tryz.ntmps22
    go_wp2_with fail
    go_ret
    exact ⟨ret_bool HNE.out.symm, Below.refl _ _⟩
end Go.Proofs.YtkmhmehofipehaaGreatDoor
/- Files that were built, taken apart, cut, or with more behind them: in plain Lean. -/
namespace Go.Proofs.YtkmhmehofipehaaGreatDoor
set_option linter.unusedVariables false
open Go.RowKit
/-! tags -/
/-! the tail -/
end Go.Proofs.YtkmhmehofipehaaGreatDoor
