/- A tail read, at any bytes: the program's Get. -/
import Derived.Test.YtllbemdeimgiiaaTailGet
namespace Go.Proofs.Ytllbemdeimgiiaa
set_option linter.unusedVariables false
open Go.RowKit
theorem hu_of {l : List UInt8} (hlen : l.length ≤ 140737488355328) {e e' : Int} {p p' : Nat} {b : List UInt8} (h : takeU (e, p) l 4 = ((e', p'), b)) :
    ∀ g W, Tk W g e p l → Calls Try.prog 42 #[.pointer (some ⟨g, 0, none⟩), .int .i64 4] W fun x w' => x = .returned (.int .u64 (valLE b : Nat)) ∧ Tk w' g e' p' l ∧ But (Only g) W w' := fun g W hT => by
  have h1 := takerU_any g e p 4 l W hT hlen
  rw [h] at h1
  exact h1
theorem hraw_of {l : List UInt8} (hlen : l.length ≤ 140737488355328) {e' : Int} {p' : Nat} {b : List UInt8} (h : takeRaw (0, 0) l 2 = ((e', p'), b)) :
    ∀ g W, Tk W g 0 0 l → Calls Try.prog 41 #[.pointer (some ⟨g, 0, none⟩), .int .i64 2] W fun x w' => (∃ v, x = .returned v) ∧ Tk w' g e' p' l ∧ But (Only g) W w' := fun g W hT => by
  have h1 := traw_any g 0 0 2 l W hT hlen (by omega)
  rw [h] at h1
  refine h1.mono ?_
  rintro x w' ⟨A, c, rfl, _, _, _, _, hT', hB⟩
  exact ⟨⟨_, rfl⟩, hT', hB⟩
theorem tget_any (t : Nat) (A : Option Addr) (c : Nat) (l : List UInt8) (w : World) (ht : Tab w t) (hl : SeesB w A l) (hc : l.length ≤ c) (hcm : c ≤ maxLen) (hlen : l.length ≤ 140737488355328) :
    Calls Try.prog 24 #[.pointer (some ⟨t, 0, none⟩), .slice A l.length c] w (GetTPost w (getT l)) := by
  cases hs : startsT l with
  | false =>
    rw [show getT l = (31, 0, 0, 0, []) by unfold getT; rw [if_pos hs]]
    exact tget_kind t A c l w ht hl hc hcm hlen hs
  | true =>
    by_cases h14 : l.length < 14
    · rw [show getT l = (10, 0, 0, 0, []) by unfold getT; rw [if_neg (by rw [hs]; simp), if_pos h14]]
      by_cases h2 : l.length < 2
      · exact tget_few t A c l w ht hl hc hcm hlen hs 10 10 10 10 0 0 0 0 0 0 0 (by omega) (by omega) (by omega) (hraw_of hlen (takeRaw2_end l h2)) (hu_of hlen (takeU_err 10 0 4 l (by decide))) (hu_of hlen (takeU_err 10 0 4 l (by decide))) (hu_of hlen (takeU_err 10 0 4 l (by decide))) rfl rfl
      · by_cases h6 : l.length < 6
        · exact tget_few t A c l w ht hl hc hcm hlen hs 0 10 10 10 2 2 2 2 0 0 0 (by omega) (by omega) (by omega) (hraw_of hlen (takeRaw2_ok l (by omega))) (hu_of hlen (takeU_end 2 4 l (by omega) (by omega))) (hu_of hlen (takeU_err 10 2 4 l (by decide))) (hu_of hlen (takeU_err 10 2 4 l (by decide))) rfl rfl
        · by_cases h10 : l.length < 10
          · exact tget_few t A c l w ht hl hc hcm hlen hs 0 0 10 10 2 6 6 6 (fldT l 2 4) 0 0 (fldT_lt l 2 4) (by omega) (by omega) (hraw_of hlen (takeRaw2_ok l (by omega))) (hu_of hlen (takeU_at 2 4 l (by omega) (by omega))) (hu_of hlen (takeU_end 6 4 l (by omega) (by omega))) (hu_of hlen (takeU_err 10 6 4 l (by decide))) rfl rfl
          · exact tget_few t A c l w ht hl hc hcm hlen hs 0 0 0 10 2 6 10 10 (fldT l 2 4) (fldT l 6 4) 0 (fldT_lt l 2 4) (fldT_lt l 6 4) (by omega) (hraw_of hlen (takeRaw2_ok l (by omega))) (hu_of hlen (takeU_at 2 4 l (by omega) (by omega))) (hu_of hlen (takeU_at 6 4 l (by omega) (by omega))) (hu_of hlen (takeU_end 10 4 l (by omega) (by omega))) rfl rfl
    · have hr := hraw_of hlen (takeRaw2_ok l (by omega))
      have u1 := hu_of hlen (takeU_at 2 4 l (by omega) (by omega))
      have u2 := hu_of hlen (takeU_at 6 4 l (by omega) (by omega))
      have u3 := hu_of hlen (takeU_at 10 4 l (by omega) (by omega))
      by_cases hbig : 16777216 < fldT l 10 4
      · rw [show getT l = (60, 0, 0, 0, []) by unfold getT; rw [if_neg (by rw [hs]; simp), if_neg h14, if_pos hbig]]
        exact tget_many t A c l w ht hl hc hcm hlen hs 0 0 0 0 2 6 10 14 (fldT l 2 4) (fldT l 6 4) (fldT l 10 4) (fldT_lt l 2 4) (fldT_lt l 6 4) (fldT_lt l 10 4) hr u1 u2 u3 hbig
      · exact tget_long t A c l w ht hl hc hcm hlen hs 0 0 0 0 2 6 10 14 (fldT l 2 4) (fldT l 6 4) (fldT l 10 4) (fldT_lt l 2 4) (fldT_lt l 6 4) (fldT_lt l 10 4) hr u1 u2 u3 (by omega) rfl rfl (by omega) rfl rfl rfl
end Go.Proofs.Ytllbemdeimgiiaa
