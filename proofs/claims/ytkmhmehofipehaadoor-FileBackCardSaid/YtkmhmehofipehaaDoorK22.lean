/- A tail read, at any bytes: the program's Get. -/
import Derived.Test.YtkmhmehofipehaaDoorK21
import Derived.Test.YtkmhmehofipehaaDoorK6
import Derived.Deep.QuietTactic
import Derived.BigQuiet
import Derived.Test.YtkmhmehofipehaaDoorK17
namespace Go.Proofs.YtkmhmehofipehaaDoor
set_option linter.unusedVariables false
open Go.RowKit
theorem hu_of {l : List UInt8} (hlen : l.length ≤ 140737488355328) {e e' : Int} {p p' : Nat} {b : List UInt8} (h : takeU (e, p) l 4 = ((e', p'), b)) :
    ∀ g W, Tk W g e p l → Calls Tryd.prog 69 #[.pointer (some ⟨g, 0, none⟩), .int .i64 4] W fun x w' => x = .returned (.int .u64 (valLE b : Nat)) ∧ Tk w' g e' p' l ∧ But (Only g) W w' := fun g W hT => by
  have h1 := takerU_any g e p 4 l W hT hlen
  rw [h] at h1
  exact h1
theorem hraw_of {l : List UInt8} (hlen : l.length ≤ 140737488355328) {e' : Int} {p' : Nat} {b : List UInt8} (h : takeRaw (0, 0) l 2 = ((e', p'), b)) :
    ∀ g W, Tk W g 0 0 l → Calls Tryd.prog 70 #[.pointer (some ⟨g, 0, none⟩), .int .i64 2] W fun x w' => (∃ v, x = .returned v) ∧ Tk w' g e' p' l ∧ But (Only g) W w' := fun g W hT => by
  have h1 := traw_any g 0 0 2 l W hT hlen (by omega)
  rw [h] at h1
  refine h1.mono ?_
  rintro x w' ⟨A, c, rfl, _, _, _, _, hT', hB⟩
  exact ⟨⟨_, rfl⟩, hT', hB⟩
theorem tgetF_any (t : Nat) (A : Option Addr) (c : Nat) (l : List UInt8) (w : World) (ht : Tab w t) (hl : SeesB w A l) (hc : l.length ≤ c) (hcm : c ≤ maxLen) (hlen : l.length ≤ 140737488355328) :
    Calls Tryd.prog 59 #[.pointer (some ⟨t, 0, none⟩), .slice A l.length c] w (GetTPostF w (getT l)) := by
  cases hs : startsT l with
  | false =>
    rw [show getT l = (31, 0, 0, 0, []) by unfold getT; rw [if_pos hs]]
    exact tget_kind t A c l w ht hl hc hcm hlen hs
  | true =>
    by_cases h14 : l.length < 14
    · rw [show getT l = (10, 0, 0, 0, []) by unfold getT; rw [if_neg (by rw [hs]; simp), if_pos h14]]
      by_cases h2 : l.length < 2
      · exact tget_few t A c l w ht hl hc hcm hlen hs 10 10 10 10 0 0 0 0 0 0 0 (by omega) (by omega) (by omega) (hraw_of hlen (takeRaw2_end l h2)) (hu_of hlen (takeU_err 10 0 4 l (by decide))) (hu_of hlen (takeU_err 10 0 4 l (by decide))) (hu_of hlen (takeU_err 10 0 4 l (by decide))) rfl rfl
      · by_cases h6 : l.length < 6
        · exact tget_few t A c l w ht hl hc hcm hlen hs 0 10 10 10 2 2 2 2 0 0 0 (by omega) (by omega) (by omega) (hraw_of hlen (takeRaw2_ok l (by omega))) (hu_of hlen (takeU_end 2 4 l (by omega) (by omega))) (hu_of hlen (takeU_err 10 2 4 l (by decide))) (hu_of hlen (takeU_err 10 2 4 l (by decide))) rfl rfl
        · by_cases h10 : l.length < 10
          · exact tget_few t A c l w ht hl hc hcm hlen hs 0 0 10 10 2 6 6 6 (fldT l 2 4) 0 0 (fldT_lt l 2 4) (by omega) (by omega) (hraw_of hlen (takeRaw2_ok l (by omega))) (hu_of hlen (takeUt_at 2 4 l (by omega) (by omega))) (hu_of hlen (takeU_end 6 4 l (by omega) (by omega))) (hu_of hlen (takeU_err 10 6 4 l (by decide))) rfl rfl
          · exact tget_few t A c l w ht hl hc hcm hlen hs 0 0 0 10 2 6 10 10 (fldT l 2 4) (fldT l 6 4) 0 (fldT_lt l 2 4) (fldT_lt l 6 4) (by omega) (hraw_of hlen (takeRaw2_ok l (by omega))) (hu_of hlen (takeUt_at 2 4 l (by omega) (by omega))) (hu_of hlen (takeUt_at 6 4 l (by omega) (by omega))) (hu_of hlen (takeU_end 10 4 l (by omega) (by omega))) rfl rfl
    · have hr := hraw_of hlen (takeRaw2_ok l (by omega))
      have u1 := hu_of hlen (takeUt_at 2 4 l (by omega) (by omega))
      have u2 := hu_of hlen (takeUt_at 6 4 l (by omega) (by omega))
      have u3 := hu_of hlen (takeUt_at 10 4 l (by omega) (by omega))
      by_cases hbig : 16777216 < fldT l 10 4
      · rw [show getT l = (60, 0, 0, 0, []) by unfold getT; rw [if_neg (by rw [hs]; simp), if_neg h14, if_pos hbig]]
        exact tget_many t A c l w ht hl hc hcm hlen hs 0 0 0 0 2 6 10 14 (fldT l 2 4) (fldT l 6 4) (fldT l 10 4) (fldT_lt l 2 4) (fldT_lt l 6 4) (fldT_lt l 10 4) hr u1 u2 u3 hbig
      · exact tget_long t A c l w ht hl hc hcm hlen hs 0 0 0 0 2 6 10 14 (fldT l 2 4) (fldT l 6 4) (fldT l 10 4) (fldT_lt l 2 4) (fldT_lt l 6 4) (fldT_lt l 10 4) hr u1 u2 u3 (by omega) rfl rfl (by omega) rfl rfl rfl
theorem tget_any (t : Nat) (A : Option Addr) (c : Nat) (l : List UInt8) (w : World) (ht : Tab w t) (hl : SeesB w A l) (hc : l.length ≤ c) (hcm : c ≤ maxLen) (hlen : l.length ≤ 140737488355328) :
    Calls Tryd.prog 59 #[.pointer (some ⟨t, 0, none⟩), .slice A l.length c] w (GetTPost w (getT l)) := (tgetF_any t A c l w ht hl hc hcm hlen).mono fun _ _ h => h.post
end Go.Proofs.YtkmhmehofipehaaDoor
/- Slices of whole numbers compared. -/
namespace Go.Proofs.YtkmhmehofipehaaDoor
set_option linter.unusedVariables false
open Go.RowKit
theorem drewBelow {B : Nat} {w0 w : World} (h : Below B w0 w) (n : Nat) : Below B w0 (w.drewN n) := ⟨h.os, h.tape, h.output, h.size, h.block⟩
set_option maxHeartbeats 1000000 in
theorem equalI_any (A B : Option Addr) (c d : Nat) (l m : List Int) (w : World) (hl : SeesI w A l) (hm : SeesI w B m) (h1 : l.length ≤ maxLen) (h2 : m.length ≤ maxLen) :
    Calls Tryd.prog 60 #[.slice A l.length c, .slice B m.length d] w fun e w' => e = .returned (.bool (decide (l = m))) ∧ Below w.heap.size w w' := by
  unfold maxLen at h1 h2
  by_cases hlen : l.length = m.length
  · have d1 : ((l.length : Int) != m.length) = false := by simp [hlen]
    have HLEN := hid hlen
    clear hlen
    go_enter Tryd.func60, Tryd.ntmps60
    go_wp2_with fail
    go_loopw [5, 13] (fun x i wr => ∃ k : Nat, k ≤ l.length ∧ i = .int .i64 k ∧ l.take k = m.take k ∧ Below w.heap.size w wr) (fun x i _ => l.length - (intOf i).toNat)
    case atStart => exact ⟨0, by omega, rfl, by simp, Below.refl _ _⟩
    case round =>
      obtain ⟨k, hk, rfl, he, hbw⟩ := hrel
      have HE := hid he
      clear he
      by_cases hlt : k < l.length
      · have hd : decide (k < l.length) = true := by simpa using hlt
        have hltm : k < m.length := by rw [← HLEN.out]; exact hlt
        have f1 : (k : Int) < m.length := by omega
        obtain ⟨a, rfl, ca⟩ := (hl.below hbw).at hlt
        obtain ⟨b, rfl, cb⟩ := (hm.below hbw).at hltm
        have f2 : (k : Int) < l.length := by omega
        by_cases heq : l[k] = m[k]
        · have d2 : (l[k] != m[k]) = false := by rw [heq]; simp
          have HEQ := hid heq
          clear heq
          go_wp2_with fail
          go_quiet (fail)
          go_wp2_with fail
          refine ⟨⟨k + 1, hlt, by go_num, by rw [List.take_succ_eq_append_getElem hlt, List.take_succ_eq_append_getElem hltm, HE.out, HEQ.out], drewBelow hbw _⟩, by simp [intOf]; omega⟩
        · have d2 : (l[k] != m[k]) = true := by simpa using heq
          have hne : decide (l = m) = false := by
            simp only [decide_eq_false_iff_not]
            rintro rfl
            exact heq rfl
          have HNE := hid hne
          clear heq hne
          go_wp2_with fail
          go_quiet (fail)
          go_wp2_with fail
          go_ret
          exact ⟨ret_bool HNE.out.symm, drewBelow hbw _⟩
      · obtain rfl : k = l.length := by omega
        have hd : decide (l.length < l.length) = false := by simp
        have : l = m := by
          have he := HE.out
          rw [List.take_length] at he
          rw [he, HLEN.out, List.take_length]
        have HT := hid this
        clear this
        go_wp2_with fail
        go_ret
        exact ⟨ret_bool (decide_eq_true HT.out).symm, hbw⟩
  · have d1 : ((l.length : Int) != m.length) = true := by simp; omega
    have hne : decide (l = m) = false := by
      simp only [decide_eq_false_iff_not]
      rintro rfl
      exact hlen rfl
    have HNE := hid hne
    clear hlen hne
    go_enter Tryd.func60, Tryd.ntmps60
    go_wp2_with fail
    go_ret
    exact ⟨ret_bool HNE.out.symm, Below.refl _ _⟩
set_option maxHeartbeats 1000000 in
theorem rints_any (A B : Option Addr) (c d : Nat) (l m : List Int) (w : World) (hl : SeesI w A l) (hm : SeesI w B m) (h1 : l.length ≤ maxLen) (h2 : m.length ≤ maxLen) :
    Calls Tryd.prog 62 #[.slice A l.length c, .slice B m.length d] w fun e w' => e = .returned (.bool (decide (l = m))) ∧ Below w.heap.size w w' := by
  unfold maxLen at h1 h2
  by_cases hlen : l.length = m.length
  · have d1 : ((l.length : Int) != m.length) = false := by simp [hlen]
    have HLEN := hid hlen
    clear hlen
    go_enter Tryd.func62, Tryd.ntmps62
    go_wp2_with fail
    go_loopw [5] (fun i wr => ∃ k : Nat, k ≤ l.length ∧ i = .int .i64 k ∧ l.take k = m.take k ∧ Below w.heap.size w wr) (fun i _ => l.length - (intOf i).toNat)
    case atStart => exact ⟨0, by omega, rfl, by simp, Below.refl _ _⟩
    case round =>
      obtain ⟨k, hk, rfl, he, hbw⟩ := hrel
      have HE := hid he
      clear he
      by_cases hlt : k < l.length
      · have hd : decide (k < l.length) = true := by simpa using hlt
        have hltm : k < m.length := by rw [← HLEN.out]; exact hlt
        have f1 : (k : Int) < m.length := by omega
        obtain ⟨a, rfl, ca⟩ := (hl.below hbw).at hlt
        obtain ⟨b, rfl, cb⟩ := (hm.below hbw).at hltm
        have f2 : (k : Int) < l.length := by omega
        by_cases heq : l[k] = m[k]
        · have d2 : (l[k] != m[k]) = false := by rw [heq]; simp
          have HEQ := hid heq
          clear heq
          go_wp2_with fail
          go_quiet (fail)
          go_wp2_with fail
          refine ⟨⟨k + 1, hlt, by go_num, by rw [List.take_succ_eq_append_getElem hlt, List.take_succ_eq_append_getElem hltm, HE.out, HEQ.out], drewBelow hbw _⟩, by simp [intOf]; omega⟩
        · have d2 : (l[k] != m[k]) = true := by simpa using heq
          have hne : decide (l = m) = false := by
            simp only [decide_eq_false_iff_not]
            rintro rfl
            exact heq rfl
          have HNE := hid hne
          clear heq hne
          go_wp2_with fail
          go_quiet (fail)
          go_wp2_with fail
          go_ret
          exact ⟨ret_bool HNE.out.symm, drewBelow hbw _⟩
      · obtain rfl : k = l.length := by omega
        have hd : decide (l.length < l.length) = false := by simp
        have : l = m := by
          have he := HE.out
          rw [List.take_length] at he
          rw [he, HLEN.out, List.take_length]
        have HT := hid this
        clear this
        go_wp2_with fail
        go_ret
        exact ⟨ret_bool (decide_eq_true HT.out).symm, hbw⟩
  · have d1 : ((l.length : Int) != m.length) = true := by simp; omega
    have hne : decide (l = m) = false := by
      simp only [decide_eq_false_iff_not]
      rintro rfl
      exact hlen rfl
    have HNE := hid hne
    clear hlen hne
    go_enter Tryd.func62, Tryd.ntmps62
    go_wp2_with fail
    go_ret
    exact ⟨ret_bool HNE.out.symm, Below.refl _ _⟩
end Go.Proofs.YtkmhmehofipehaaDoor
/- Files that were built, taken apart, cut, or with more behind them: in plain Lean. -/
namespace Go.Proofs.YtkmhmehofipehaaDoor
set_option linter.unusedVariables false
open Go.RowKit
theorem getI_built {i : InfoV} (h : i.right = true) (M : List UInt8) : getI (infoB i ++ M) = (0, i.k, i.ch, i.bi, i.ra, i.bl, i.sh) := by
  obtain ⟨h1, h2, h3, h4, h5, h6⟩ := InfoV.range h
  obtain ⟨k, ch, bi, ra, bl, sh⟩ := i
  unfold InfoV.right at h
  simp only at h h1 h2 h3 h4 h5 h6 ⊢
  obtain ⟨k, rfl⟩ := Int.eq_ofNat_of_zero_le (show 0 ≤ k by omega)
  obtain ⟨ch, rfl⟩ := Int.eq_ofNat_of_zero_le (show 0 ≤ ch by omega)
  obtain ⟨bi, rfl⟩ := Int.eq_ofNat_of_zero_le (show 0 ≤ bi by omega)
  obtain ⟨ra, rfl⟩ := Int.eq_ofNat_of_zero_le (show 0 ≤ ra by omega)
  obtain ⟨bl, rfl⟩ := Int.eq_ofNat_of_zero_le (show 0 ≤ bl by omega)
  obtain ⟨sh, rfl⟩ := Int.eq_ofNat_of_zero_le (show 0 ≤ sh by omega)
  exact getI_sealed k ch bi ra bl sh M h (by omega)
theorem startsI_cut {l : List UInt8} (h : startsI l = true) (h4 : 4 ≤ l.length) (n : Nat) : startsI (l.take n) = true := by
  unfold startsI at h ⊢
  have h1 := of_decide_eq_true h
  rw [List.take_of_length_le (l := ([68, 83, 67, 49] : List UInt8)) (by simp; omega)] at h1
  refine decide_eq_true ?_
  rw [List.take_take, List.length_take, Nat.min_comm, ← List.take_take, h1]
  by_cases hn : n ≤ l.length
  · rw [Nat.min_eq_left hn]
  · rw [Nat.min_eq_right (by omega), List.take_of_length_le (by simp; omega), List.take_of_length_le (by simp; omega)]
theorem getI_cut {l : List UInt8} (h : (getI l).1 = 0) {n : Nat} (hn : n < 19) : (getI (l.take n)).1 = 10 := by
  have hs : startsI l = true ∧ 19 ≤ l.length := by
    unfold getI at h
    by_cases h1 : startsI l = false
    · rw [if_pos h1] at h; exact absurd h (by decide)
    · rw [if_neg h1] at h
      by_cases h2 : l.length < 19
      · rw [if_pos h2] at h; exact absurd h (by decide)
      · exact ⟨by simpa using h1, by omega⟩
  unfold getI
  rw [if_neg (by rw [startsI_cut hs.1 (by omega)]; simp), if_pos (by simp; omega)]
theorem fld_take (l : List UInt8) (m p n : Nat) (h : p + n ≤ m) : fld (l.take m) p n = fld l p n := by
  unfold fld
  rw [List.drop_take, List.take_take, Nat.min_eq_left (by omega)]
/-! tags -/
theorem textR_is (b : List UInt8) (p n : Nat) (hn : 1 ≤ n ∧ n ≤ 8) : textR (0, p) b (n : Int) =
    if b.length - p < n then ((10, p), []) else if b.length - (p + n) < valLE ((b.drop p).take n) then ((10, p), []) else ((0, p + n + valLE ((b.drop p).take n)), (b.drop (p + n)).take (valLE ((b.drop p).take n))) := by
  unfold textR takeU tnext
  simp only [ne_eq, not_true_eq_false, if_false, Int.toNat_natCast]
  rw [if_neg (show ¬ ((n : Int) < 1 ∨ 8 < (n : Int)) by omega)]
  by_cases h : b.length - p < n
  · rw [if_pos h, if_pos h]; simp
  · rw [if_neg h, if_neg h]; simp
theorem textR_cut {b t : List UInt8} {p p2 n : Nat} (hn : 1 ≤ n ∧ n ≤ 8) (h : textR (0, p) b (n : Int) = ((0, p2), t)) (m : Nat) :
    p < p2 ∧ p2 ≤ b.length ∧ (p2 ≤ m → textR (0, p) (b.take m) (n : Int) = ((0, p2), t)) ∧ (m < p2 → textR (0, p) (b.take m) (n : Int) = ((10, p), [])) := by
  rw [textR_is b p n hn] at h
  rw [textR_is (b.take m) p n hn]
  by_cases h1 : b.length - p < n
  · rw [if_pos h1] at h; simp at h
  rw [if_neg h1] at h
  by_cases h2 : b.length - (p + n) < valLE ((b.drop p).take n)
  · rw [if_pos h2] at h; simp at h
  rw [if_neg h2] at h
  simp only [Prod.mk.injEq, true_and] at h
  obtain ⟨h3, h4⟩ := h
  refine ⟨by omega, by omega, fun hm => ?_, fun hm => ?_⟩
  · have e : ((b.take m).drop p).take n = (b.drop p).take n := by rw [List.drop_take, List.take_take, Nat.min_eq_left (by omega)]
    rw [e, List.length_take, if_neg (by omega), if_neg (by omega), h3, ← h4, List.drop_take, List.take_take, Nat.min_eq_left (by omega)]
  · rw [List.length_take]
    by_cases h5 : min m b.length - p < n
    · rw [if_pos h5]
    · rw [if_neg h5]
      have e : ((b.take m).drop p).take n = (b.drop p).take n := by rw [List.drop_take, List.take_take, Nat.min_eq_left (by omega)]
      rw [e, if_pos (by omega)]
theorem textR_ten (p : Nat) (b : List UInt8) (n : Int) : textR (10, p) b n = ((10, p), []) := by
  unfold textR
  rw [if_pos (by simp)]
theorem stepG_cut {b : List UInt8} {p p2 : Nat} {x : TagV} (h : stepG b (0, p) = ((0, p2), x)) (m : Nat) :
    p ≤ p2 ∧ p2 ≤ b.length ∧ (p2 ≤ m → stepG (b.take m) (0, p) = ((0, p2), x)) ∧ (m < p2 → (stepG (b.take m) (0, p)).1.1 = 10) := by
  unfold stepG at h ⊢
  obtain ⟨⟨⟨e1, p1⟩, x1⟩, hr1⟩ : ∃ r, textR (0, p) b 1 = r := ⟨_, rfl⟩
  rw [hr1] at h
  simp only at h
  obtain ⟨⟨⟨e2, q2⟩, x2⟩, hr2⟩ : ∃ r, textR (e1, p1) b 2 = r := ⟨_, rfl⟩
  rw [hr2] at h
  simp only [Prod.mk.injEq] at h
  obtain ⟨⟨rfl, rfl⟩, hx⟩ := h
  have he1 : e1 = 0 := by
    by_cases he : e1 = 0
    · exact he
    · have h3 : textR (e1, p1) b 2 = ((e1, p1), []) := by unfold textR; rw [if_pos he]
      rw [h3] at hr2
      simp only [Prod.mk.injEq] at hr2
      exact hr2.1.1
  subst he1
  obtain ⟨a1, a2, a3, a4⟩ := textR_cut (n := 1) (by omega) hr1 m
  obtain ⟨c1, c2, c3, c4⟩ := textR_cut (n := 2) (by omega) hr2 m
  refine ⟨by omega, c2, fun hm => ?_, fun hm => ?_⟩
  · have k1 : textR (0, p) (b.take m) 1 = ((0, p1), x1) := a3 (by omega)
    have k2 : textR (0, p1) (b.take m) 2 = ((0, q2), x2) := c3 hm
    rw [k1]
    simp only
    rw [k2]
    simp only [Prod.mk.injEq, true_and]
    exact hx
  · by_cases hm1 : p1 ≤ m
    · have k1 : textR (0, p) (b.take m) 1 = ((0, p1), x1) := a3 hm1
      have k2 : textR (0, p1) (b.take m) 2 = ((10, p1), []) := c4 hm
      rw [k1]
      simp only
      rw [k2]
    · have k1 : textR (0, p) (b.take m) 1 = ((10, p), []) := a4 (by omega)
      rw [k1]
      simp only
      rw [textR_ten]
theorem loopG_cut {b : List UInt8} (m : Nat) : ∀ (n p : Nat) (acc l : List TagV) (p2 : Nat), loopG b n (0, p) acc = ((0, p2), l) →
    p ≤ p2 ∧ (p2 ≤ m → loopG (b.take m) n (0, p) acc = ((0, p2), l)) ∧ (m < p2 → m < p ∨ (loopG (b.take m) n (0, p) acc).1.1 = 10)
  | 0, p, acc, l, p2, h => by
    simp only [loopG, Prod.mk.injEq, true_and] at h
    exact ⟨by omega, fun _ => by simp only [loopG, Prod.mk.injEq, true_and]; exact h, fun hm => .inl (by omega)⟩
  | n + 1, p, acc, l, p2, h => by
    unfold loopG at h ⊢
    obtain ⟨⟨⟨e1, p1⟩, x1⟩, hr1⟩ : ∃ r, stepG b (0, p) = r := ⟨_, rfl⟩
    rw [hr1] at h
    simp only at h
    by_cases he : e1 ≠ 0
    · rw [if_pos he] at h
      simp only [Prod.mk.injEq] at h
      exact absurd h.1.1 he
    · rw [if_neg he] at h
      obtain rfl : e1 = 0 := by simpa using he
      obtain ⟨a1, a2, a3, a4⟩ := stepG_cut hr1 m
      obtain ⟨b1, b2, b3⟩ := loopG_cut m n p1 (acc ++ [x1]) l p2 h
      refine ⟨by omega, fun hm => ?_, fun hm => .inr ?_⟩
      · rw [a3 (by omega), if_neg (by simp)]
        exact b2 hm
      · by_cases h1 : m < p1
        · rw [if_pos (by rw [a4 h1]; decide)]
          exact a4 h1
        · rw [a3 (by omega), if_neg (by simp)]
          rcases b3 hm with h2 | h2
          · exact absurd h2 h1
          · exact h2
theorem takeU_cut {b x : List UInt8} {p p2 n : Nat} (hn : 1 ≤ n ∧ n ≤ 8) (hb : b.length < p + n) : takeU (0, p) b (n : Int) = ((10, p), []) := by
  unfold takeU tnext
  rw [if_neg (by simp), if_neg (by omega), Int.toNat_natCast, if_pos (by show b.length - p < n; omega)]
/-- of tags that are cut, something is missing -/
theorem getG_cut {l : List TagV} (hS : Short l) {m : Nat} (hm : m < (sealed (tagsB l)).length) : (getG ((sealed (tagsB l)).take m)).1 = 10 := by
  have h64 := hS.1
  have e1 : sealed (tagsB l) = headB l ++ (itemsB l ++ bytesLE (sumI (tagsB l)).toNat 4) := by unfold sealed tagsB; simp
  have hsl : (sealed (tagsB l)).length = (tagsB l).length + 4 := by unfold sealed; rw [List.length_append, bytesLE_length]
  have hst : startsG ((sealed (tagsB l)).take m) = true := by
    rw [e1]
    unfold startsG headB
    rcases m with _ | _ | m <;> simp
  have hT : 3 + (itemsB l).length = (tagsB l).length := by unfold tagsB headB; simp only [List.length_append, List.length_cons, List.length_nil]
  unfold getG
  rw [if_neg (by rw [hst]; simp)]
  by_cases h3 : m < 3
  · rw [if_pos (by rw [List.length_take]; omega)]
  rw [if_neg (by rw [List.length_take]; omega)]
  have hcn : countG ((sealed (tagsB l)).take m) = l.length := by
    unfold countG
    rw [List.drop_take, List.take_take, Nat.min_eq_left (by omega), e1]
    unfold headB
    show valLE [UInt8.ofNat l.length] = l.length
    simp [valLE]
    omega
  have hlp := loopG_here (bytesLE (sumI (tagsB l)).toNat 4) l (headB l) 3 [] rfl hS.2
  rw [← e1, List.nil_append, hT] at hlp
  obtain ⟨_, q1, q2⟩ := loopG_cut m _ _ _ _ _ hlp
  rw [hcn]
  unfold finG endG
  by_cases hmt : (tagsB l).length ≤ m
  · rw [q1 hmt]
    simp only
    have hu : takeU (0, (tagsB l).length) ((sealed (tagsB l)).take m) 4 = ((10, (tagsB l).length), []) := takeU_cut (x := []) (p2 := 0) (n := 4) (by omega) (by rw [List.length_take]; omega)
    rw [hu, if_pos (by simp)]
  · rcases q2 (by omega) with h | h
    · omega
    · obtain ⟨⟨⟨e, p⟩, x⟩, hr⟩ : ∃ r, loopG ((sealed (tagsB l)).take m) l.length (0, 3) [] = r := ⟨_, rfl⟩
      rw [hr] at h ⊢
      simp only at h ⊢
      subst h
      have hu : takeU (10, p) ((sealed (tagsB l)).take m) 4 = ((10, p), []) := by unfold takeU; rw [if_pos (by simp)]
      rw [hu, if_pos (by simp)]
/-! the tail -/
theorem fldT_take (l : List UInt8) (m p n : Nat) (h : p + n ≤ m) : fldT (l.take m) p n = fldT l p n := by
  unfold fldT
  rw [List.drop_take, List.take_take, Nat.min_eq_left (by omega)]
theorem startsT_cut {l : List UInt8} (h : startsT l = true) (h2 : 2 ≤ l.length) (n : Nat) : startsT (l.take n) = true := by
  unfold startsT at h ⊢
  have e0 : 0 < l.length := by omega
  have e1 : 1 < l.length := by omega
  rw [List.getElem?_eq_getElem e0, List.getElem?_eq_getElem e1] at h
  rcases n with _ | _ | n
  · simp
  · rw [List.getElem?_take_of_lt (by omega), List.getElem?_eq_getElem e0, List.getElem?_eq_none (by rw [List.length_take]; omega)]
    simp at h ⊢
    exact h.1
  · rw [List.getElem?_take_of_lt (by omega), List.getElem?_take_of_lt (by omega), List.getElem?_eq_getElem e0, List.getElem?_eq_getElem e1]
    exact h
theorem getT_cut {l : List UInt8} (h : (getT l).1 = 0) (hlen : (getT l).2.1 = l.length) {n : Nat} (hn : n < l.length) : (getT (l.take n)).1 = 10 := by
  unfold getT at h hlen
  by_cases h1 : startsT l = false
  · rw [if_pos h1] at h; exact absurd h (by decide)
  rw [if_neg h1] at h hlen
  by_cases h2 : l.length < 14
  · rw [if_pos h2] at h; exact absurd h (by decide)
  rw [if_neg h2] at h hlen
  by_cases h3 : 16777216 < fldT l 10 4
  · rw [if_pos h3] at h; exact absurd h (by decide)
  rw [if_neg h3] at h hlen
  by_cases h4 : l.length < 18 + 5 * fldT l 10 4
  · rw [if_pos h4] at h; exact absurd h (by decide)
  rw [if_neg h4] at h hlen
  by_cases h5 : sumI (l.take (14 + 5 * fldT l 10 4)) ≠ (fldT l (14 + 5 * fldT l 10 4) 4 : Int)
  · rw [if_pos h5] at h; exact absurd h (by decide)
  rw [if_neg h5] at h hlen
  by_cases h6 : rightB (fldT l 2 4 : Nat) (plcT l (fldT l 10 4)) = false
  · rw [if_pos h6] at h; exact absurd h (by decide)
  rw [if_neg h6] at hlen
  simp only at hlen
  unfold getT
  rw [if_neg (by rw [startsT_cut (by simpa using h1) (by omega)]; simp)]
  by_cases h7 : n < 14
  · rw [if_pos (by rw [List.length_take]; omega)]
  · rw [if_neg (by rw [List.length_take]; omega), fldT_take l n 10 4 (by omega), if_neg h3, if_pos (by rw [List.length_take]; omega)]
theorem getT_first {l : List UInt8} (h : (getT l).1 = 0) : l[0]? = some 69 := by
  unfold getT at h
  by_cases h1 : startsT l = false
  · rw [if_pos h1] at h; exact absurd h (by decide)
  rw [if_neg h1] at h
  by_cases h2 : l.length < 14
  · rw [if_pos h2] at h; exact absurd h (by decide)
  have h3 : startsT l = true := by simpa using h1
  unfold startsT at h3
  rw [List.getElem?_eq_getElem (show 0 < l.length by omega)] at h3 ⊢
  simp at h3
  rw [h3.1]
theorem addAll_many {i : InfoV} : ∀ (bs : List (List UInt8)) (s : FileS), (addAll i bs s).1 = 0 → bs.length ≤ bs.flatten.length
  | [], s, _ => by simp
  | b :: bs, s, he => by
    unfold addAll at he
    by_cases h1 : (addE i s b).1 = 0
    · rw [if_neg (by rw [h1]; simp)] at he
      have h2 := addAll_many bs _ he
      obtain ⟨h3, h4, _, _⟩ := addE_ok h1
      have h5 := (openH_fine h3).2.2
      simp only [List.length_cons, List.flatten_cons, List.length_append]
      omega
    · rw [if_pos h1] at he
      exact absurd he h1
/-- what a file that was built is -/
structure Built (i : InfoV) (l : List TagV) (bs : List (List UInt8)) (sum : Nat) (B : List UInt8) (s : FileS) : Prop where
  right : i.right = true
  ok : (checkT l).2 = 0
  short : Short l
  all : addAll i bs (startF i l) = (0, s)
  is : B = infoB i ++ (sealed (tagsB l) ++ (bs.flatten ++ tailB s sum))
  out : s.out = (startF i l).out ++ bs.flatten
  tail : ∀ M, getT (tailB s sum ++ M) = (0, (((tailB s sum).length : Nat) : Int), s.cnt, (sum : Int), s.pl)
theorem built_of {i : InfoV} {l : List TagV} {bs : List (List UInt8)} {sum : Nat} (hb : (buildF i l bs sum).1 = 0) (h12 : bs.length ≤ 12) (h300 : ∀ b ∈ bs, b.length ≤ 300) (hsum : sum < 4294967296) :
    ∃ s, Built i l bs sum (buildF i l bs sum).2 s := by
  unfold buildF at hb ⊢
  cases hr : i.right with
  | false => rw [if_pos hr] at hb; exact absurd hb (by decide)
  | true =>
    rw [if_neg (by simp [hr])] at hb
    rw [if_neg (by simp)]
    by_cases hz : (checkT l).2 = 0
    case neg => rw [if_pos hz] at hb; exact absurd hb hz
    rw [if_neg (by rw [hz]; simp)] at hb ⊢
    have hS := short_of hz
    obtain ⟨⟨E, s⟩, hs⟩ : ∃ r, addAll i bs (startF i l) = r := ⟨_, rfl⟩
    unfold endF at hb ⊢
    rw [hs] at hb ⊢
    simp only at hb ⊢
    by_cases hE : E = 0
    case neg => rw [if_pos hE] at hb; exact absurd hb hE
    subst hE
    rw [if_neg (by simp)] at hb ⊢
    have h0 : (addAll i bs (startF i l)).1 = 0 := by rw [hs]
    have ho := addAll_out bs (startF i l) h0
    have hok := addAll_ok bs (startF i l) 0 (startF_ok i hS) h300 h0
    have hri := addAll_rise bs (startF i l) 0 (start_rise i l) (startF_ok i hS) (by omega) h300 h0
    rw [hs] at ho hok hri
    simp only at ho hok hri
    rw [Nat.zero_add] at hok
    have hrt := rise_right hri hok h12
    have hc := hok.cnt
    refine ⟨s, hr, hz, hS, hs, ?_, ho, fun M => ?_⟩
    · rw [ho]; unfold startF; simp
    · have h1 := getT_put s.cnt.toNat sum s.pl M (by omega) hsum hrt
      unfold tailB
      rw [h1, Int.toNat_of_nonneg hc.1]
theorem Built.start {i : InfoV} {l : List TagV} {bs : List (List UInt8)} {sum : Nat} {B : List UInt8} {s : FileS} (h : Built i l bs sum B s) (M : List UInt8) :
    B ++ M = (startF i l).out ++ (bs.flatten ++ (tailB s sum ++ M)) := by
  rw [h.is]; unfold startF; simp
theorem Built.info {i : InfoV} {l : List TagV} {bs : List (List UInt8)} {sum : Nat} {B : List UInt8} {s : FileS} (h : Built i l bs sum B s) (M : List UInt8) :
    (getI (B ++ M)).1 = 0 ∧ infoOf (B ++ M) = i := by
  have e : B ++ M = infoB i ++ (sealed (tagsB l) ++ (bs.flatten ++ tailB s sum) ++ M) := by rw [h.is]; simp
  unfold infoOf
  rw [e, getI_built h.right]
  exact ⟨rfl, rfl⟩
theorem Built.tags {i : InfoV} {l : List TagV} {bs : List (List UInt8)} {sum : Nat} {B : List UInt8} {s : FileS} (h : Built i l bs sum B s) (M : List UInt8) :
    getG ((B ++ M).drop 19) = (0, (sealed (tagsB l)).length, l) := by
  have e : B ++ M = infoB i ++ (sealed (tagsB l) ++ (bs.flatten ++ tailB s sum ++ M)) := by rw [h.is]; simp
  rw [e, List.drop_left' (infoB_len i)]
  exact getG_put l _ h.ok h.short
theorem PS_start (i : InfoV) (l : List TagV) : begP (sealed (tagsB l)).length = PS.of (startF i l) [] := by
  unfold begP PS.of startF
  simp only [List.length_append, infoB_len]
def FileV.built (i : InfoV) (l : List TagV) (bs : List (List UInt8)) (sum : Nat) (s : FileS) : FileV := ⟨i, l, readB bs (startF i l).out.length, s.cnt, sum, s.pl⟩
/-- what is built is parsed as it was; more behind it is told -/
theorem parse_built {i : InfoV} {l : List TagV} {bs : List (List UInt8)} {sum : Nat} {B : List UInt8} {s : FileS} (h : Built i l bs sum B s) (M : List UInt8) :
    parseF (B ++ M) = if M = [] then (0, FileV.built i l bs sum s) else (62, FileV.zero) := by
  obtain ⟨h1, h2⟩ := h.info M
  have h3 := h.tags M
  have hall : (addAll i bs (startF i l)).1 = 0 := by rw [h.all]
  have hst := h.start M
  have hsz := addAll_many bs _ hall
  have hT := h.tail M
  obtain ⟨n, hn⟩ : ∃ n, (B ++ M).length + 1 = bs.length + (n + 1) := ⟨(B ++ M).length - bs.length, by rw [hst]; simp only [List.length_append]; omega⟩
  have hat : (PS.of s (readB bs (startF i l).out.length)).at_ = s.out.length := rfl
  have hd : (B ++ M).drop s.out.length = tailB s sum ++ M := by
    rw [hst, h.out, ← List.append_assoc]
    exact List.drop_left
  have hT0 : (getT (tailB s sum ++ M)).1 = 0 := by rw [hT]
  have h69 : (B ++ M)[s.out.length]? = some 69 := by
    have := getT_first hT0
    rw [← hd] at this
    rw [List.getElem?_drop] at this
    simpa using this
  have hlen : (B ++ M).length = s.out.length + ((tailB s sum).length + M.length) := by rw [hst, h.out]; simp only [List.length_append]; omega
  unfold parseF
  rw [if_neg (by rw [h1]; simp), h3]
  simp only
  rw [if_neg (by simp), h2, PS_start i l, hn]
  rw [show loopP i (B ++ M) (bs.length + (n + 1)) (PS.of (startF i l) []) = (0, PS.of s (readB bs (startF i l).out.length)) by
    rw [hst, loop_here bs _ _ _ _ hall, ← hst, h.all, List.nil_append, loopP, hat, if_pos h69]]
  unfold finP
  simp only
  rw [if_neg (by simp)]
  have ht : tailE (B ++ M) (PS.of s (readB bs (startF i l).out.length)) = if M = [] then 0 else 62 := by
    unfold tailE
    rw [hat, hd, hT]
    simp only [ne_eq, not_true_eq_false, if_false]
    rw [Int.toNat_natCast, hlen]
    by_cases hM : M = []
    · subst hM
      rw [if_pos rfl, if_neg (by simp)]
      have e1 : (PS.of s (readB bs (startF i l).out.length)).cnt = s.cnt := rfl
      have e2 : (PS.of s (readB bs (startF i l).out.length)).pl = s.pl := rfl
      rw [e1, e2]
      simp
    · have : 0 < M.length := List.length_pos_iff.2 hM
      rw [if_neg hM, if_pos (by omega)]
  rw [ht]
  by_cases hM : M = []
  · rw [if_pos hM, if_pos hM, if_neg (by simp), hat, hd, hT]
    rfl
  · rw [if_neg hM, if_neg hM, if_pos (by decide)]
/-- nothing that is cut off at its end is a file -/
theorem parse_cut {i : InfoV} {l : List TagV} {bs : List (List UInt8)} {sum : Nat} {B : List UInt8} {s : FileS} (h : Built i l bs sum B s) {m : Nat} (hm : m < B.length) : (parseF (B.take m)).1 = 10 := by
  obtain ⟨h1, h2⟩ := h.info []
  have h3 := h.tags []
  have hst := h.start []
  rw [List.append_nil] at h1 h2 h3 hst
  rw [List.append_nil] at hst
  have hall : (addAll i bs (startF i l)).1 = 0 := by rw [h.all]
  have hsz := addAll_many bs _ hall
  have hI := infoB_len i
  unfold parseF
  by_cases hm1 : m < 19
  · rw [if_pos (by rw [getI_cut h1 hm1]; decide)]
    exact getI_cut h1 hm1
  have eI : B.take m = infoB i ++ (sealed (tagsB l) ++ (bs.flatten ++ tailB s sum)).take (m - 19) := by
    rw [h.is, List.take_append, List.take_of_length_le (by omega), hI]
  have gI : getI (B.take m) = (0, i.k, i.ch, i.bi, i.ra, i.bl, i.sh) := by rw [eI]; exact getI_built h.right _
  have fI : infoOf (B.take m) = i := by unfold infoOf; rw [gI]
  rw [if_neg (by rw [gI]; simp)]
  have eD : (B.take m).drop 19 = (sealed (tagsB l) ++ (bs.flatten ++ tailB s sum)).take (m - 19) := by rw [eI]; exact List.drop_left' hI
  rw [eD, fI]
  by_cases hm2 : m - 19 < (sealed (tagsB l)).length
  · have e2 : (sealed (tagsB l) ++ (bs.flatten ++ tailB s sum)).take (m - 19) = (sealed (tagsB l)).take (m - 19) := List.take_append_of_le_length (by omega)
    rw [e2, if_pos (by rw [getG_cut h.short hm2]; decide)]
    exact getG_cut h.short hm2
  have e2 : (sealed (tagsB l) ++ (bs.flatten ++ tailB s sum)).take (m - 19) = sealed (tagsB l) ++ (bs.flatten ++ tailB s sum).take (m - 19 - (sealed (tagsB l)).length) := by
    rw [List.take_append, List.take_of_length_le (by omega)]
  have hSO : (startF i l).out.length = 19 + (sealed (tagsB l)).length := by unfold startF; simp only [List.length_append, hI]
  obtain ⟨k, rfl⟩ : ∃ k, m = (startF i l).out.length + k := ⟨m - (startF i l).out.length, by omega⟩
  rw [e2, getG_put l _ h.ok h.short]
  simp only
  rw [if_neg (by simp), PS_start i l]
  have hBl : B.length = (startF i l).out.length + (bs.flatten.length + (tailB s sum).length) := by rw [hst]; simp only [List.length_append]
  have hfin : ∀ E : Int × PS, E.1 = 10 → (finP i l (B.take ((startF i l).out.length + k)) E).1 = 10 := by
    intro E hE
    unfold finP
    rw [if_pos (by rw [hE]; decide)]
    exact hE
  by_cases hk : k < bs.flatten.length
  · refine hfin _ ?_
    have hb : k ≤ (B.take ((startF i l).out.length + k)).length := by rw [List.length_take]; omega
    rw [hst] at hb ⊢
    exact loop_cut bs (startF i l) [] (tailB s sum) _ k hall hk hb
  · obtain ⟨j, rfl⟩ : ∃ j, k = bs.flatten.length + j := ⟨k - bs.flatten.length, by omega⟩
    have et : B.take ((startF i l).out.length + (bs.flatten.length + j)) = (startF i l).out ++ (bs.flatten ++ (tailB s sum).take j) := by
      rw [hst, List.take_length_add_append, List.take_length_add_append]
    have hT := h.tail []
    rw [List.append_nil] at hT
    have hjl : j < (tailB s sum).length := by omega
    have hcut := getT_cut (l := tailB s sum) (by rw [hT]) (by rw [hT]) hjl
    have hat : (PS.of s (readB bs (startF i l).out.length)).at_ = s.out.length := rfl
    have hd : ((startF i l).out ++ (bs.flatten ++ (tailB s sum).take j)).drop s.out.length = (tailB s sum).take j := by
      rw [h.out, ← List.append_assoc]
      exact List.drop_left
    rw [et]
    obtain ⟨n, hn⟩ : ∃ n, ((startF i l).out ++ (bs.flatten ++ (tailB s sum).take j)).length + 1 = bs.length + (n + 1) := ⟨((startF i l).out ++ (bs.flatten ++ (tailB s sum).take j)).length - bs.length, by simp only [List.length_append]; omega⟩
    rw [hn, loop_here bs _ _ _ _ hall, h.all, List.nil_append]
    simp only
    rw [loopP, hat]
    by_cases hj : j = 0
    · subst hj
      have hn69 : ((startF i l).out ++ (bs.flatten ++ (tailB s sum).take 0))[s.out.length]? ≠ some 69 := by
        rw [h.out]; simp
      have hb : blkE i ((startF i l).out ++ (bs.flatten ++ (tailB s sum).take 0)) (PS.of s (readB bs (startF i l).out.length)) = 10 := by
        unfold blkE
        rw [hat, if_pos (by rw [h.out]; simp)]
      rw [if_neg hn69, if_pos (by rw [hb]; decide), hb]
      unfold finP
      rw [if_pos (by show (10 : Int) ≠ 0; decide)]
    · have h69 : ((startF i l).out ++ (bs.flatten ++ (tailB s sum).take j))[s.out.length]? = some 69 := by
        have h0 : (getT (tailB s sum)).1 = 0 := by rw [hT]
        have h1 := getT_first h0
        rw [h.out, List.length_append, ← List.append_assoc, List.getElem?_append_right (by simp), ← List.length_append, Nat.sub_self, List.getElem?_take_of_lt (by omega)]
        exact h1
      rw [if_pos h69]
      unfold finP tailE
      rw [hat, hd]
      simp only [ne_eq, not_true_eq_false, if_false]
      rw [if_pos (show ¬ (getT ((tailB s sum).take j)).1 = 0 by rw [hcut]; decide), if_pos (show ¬ (getT ((tailB s sum).take j)).1 = 0 by rw [hcut]; decide)]
      exact hcut
end Go.Proofs.YtkmhmehofipehaaDoor
