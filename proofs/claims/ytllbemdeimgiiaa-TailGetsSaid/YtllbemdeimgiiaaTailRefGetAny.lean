/- A tail read, at any bytes: the reference's Get. -/
import Derived.Test.YtllbemdeimgiiaaTailRefGet
namespace Go.Proofs.Ytllbemdeimgiiaa
set_option linter.unusedVariables false
open Go.RowKit
theorem rtget_any (A : Option Addr) (c : Nat) (l : List UInt8) (w : World) (hl : SeesB w A l) (hc : l.length ≤ c) (hcm : c ≤ maxLen) (hlen : l.length ≤ 140737488355328) :
    Calls Try.prog 25 #[.slice A l.length c] w (GetTPost w (getT l)) := by
  by_cases h0 : 0 < l.length
  · have g0 : l[0]?.getD 69 = l[0] := by rw [List.getElem?_eq_getElem h0]; rfl
    have b0 : ((l[0].toNat : Int) != 69) = !(l[0] == 69) := congrArg not (byte_is l[0] 69 (by omega))
    cases hx : (l[0] == 69) with
    | false =>
      rw [hx] at b0
      have hs : startsT l = false := by unfold startsT; rw [g0, hx]; rfl
      rw [show getT l = (31, 0, 0, 0, []) by unfold getT; rw [if_pos hs]]
      exact rtget_sync0 A c l w hl h0 b0
    | true =>
      rw [hx] at b0
      by_cases h1 : 1 < l.length
      · have g1 : l[1]?.getD 78 = l[1] := by rw [List.getElem?_eq_getElem h1]; rfl
        have b1 : ((l[1].toNat : Int) != 78) = !(l[1] == 78) := congrArg not (byte_is l[1] 78 (by omega))
        cases hy : (l[1] == 78) with
        | false =>
          rw [hy] at b1
          have hs : startsT l = false := by unfold startsT; rw [g0, g1, hx, hy]; rfl
          rw [show getT l = (31, 0, 0, 0, []) by unfold getT; rw [if_pos hs]]
          exact rtget_sync1 A c l w hl h1 b0 b1
        | true =>
          rw [hy] at b1
          have hs : startsT l = true := by unfold startsT; rw [g0, g1, hx, hy]; rfl
          by_cases hn : l.length < 14
          · rw [show getT l = (10, 0, 0, 0, []) by unfold getT; rw [if_neg (by rw [hs]; simp), if_pos hn]]
            exact rtget_end2 A c l w hl h1 b0 b1 hn
          · by_cases hbig : 16777216 < fldT l 10 4
            · rw [show getT l = (60, 0, 0, 0, []) by unfold getT; rw [if_neg (by rw [hs]; simp), if_neg hn, if_pos hbig]]
              exact rtget_many A c l w hl hc hcm hlen (by omega) b0 b1 hbig
            · by_cases hcut : l.length < 18 + 5 * fldT l 10 4
              · rw [show getT l = (10, 0, 0, 0, []) by unfold getT; rw [if_neg (by rw [hs]; simp), if_neg hn, if_neg hbig, if_pos hcut]]
                exact rtget_cut A c l w hl hc hcm hlen (by omega) b0 b1 (by omega) hcut
              · exact rtget_long A c l w hl hc hcm hlen (by omega) b0 b1 hs (by omega) (by omega)
      · have g1 : l[1]?.getD 78 = 78 := by rw [List.getElem?_eq_none (by omega)]; rfl
        have hs : startsT l = true := by unfold startsT; rw [g0, g1, hx]; rfl
        rw [show getT l = (10, 0, 0, 0, []) by unfold getT; rw [if_neg (by rw [hs]; simp), if_pos (by omega)]]
        exact rtget_end1 A c l w hl h0 h1 b0
  · have e0 : l.length = 0 := by omega
    have hs : startsT l = true := by obtain rfl := List.length_eq_zero_iff.1 e0; rfl
    rw [show getT l = (10, 0, 0, 0, []) by unfold getT; rw [if_neg (by rw [hs]; simp), if_pos (by omega)]]
    exact rtget_end0 A c l w hl e0
end Go.Proofs.Ytllbemdeimgiiaa
