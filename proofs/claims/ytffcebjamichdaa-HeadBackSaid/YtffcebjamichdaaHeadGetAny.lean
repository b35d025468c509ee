/- Both ways to read a head, at any bytes; a head is like itself. -/
import Derived.Test.YtffcebjamichdaaHeadRefGet2
import Derived.Laws.StructEq
import Derived.WalkSpells
import Derived.WalkLawsBesides
namespace Go.Proofs.Ytffcebjamichdaa
set_option linter.unusedVariables false
open Go.RowKit
theorem eq_head (k idx len stp bnd : Int) (lst : Bool) (lnk siz : Int) (w : World) : (Op.equalIn 10000 24 (.agg #[.int .i64 k, .int .i64 idx, .int .i64 len, .int .i64 stp, .int .i64 bnd, .bool lst, .int .u32 lnk, .int .i64 siz]) (.agg #[.int .i64 k, .int .i64 idx, .int .i64 len, .int .i64 stp, .int .i64 bnd, .bool lst, .int .u32 lnk, .int .i64 siz])).run Try.prog w = .ok true w := by
  have u3 := Try.underlying3
  have a3 := Try.isAgg3
  have z3 := Try.sizeOf3
  have u4 := Try.underlying4
  have a4 := Try.isAgg4
  have z4 := Try.sizeOf4
  have u5 := Try.underlying22
  have a5 := Try.isAgg22
  have z5 := Try.sizeOf22
  have hS : Try.prog.underlying 24 = some (.struct (Try.prog.fieldsOf 24)) := by kernel_rfl
  have hp : Try.prog.stoodInHeld 24 = false := by kernel_rfl
  rw [show (10000 : Nat) = 9999 + 1 from rfl, run_equalIn_agg w 9999 24 _ _ hS hp]
  simp only [Program.fieldsOf, Try.underlying24]
  go_simp
theorem hget_any (t : Nat) (A : Option Addr) (c : Nat) (l : List UInt8) (w : World) (ht : Tab w t) (hl : SeesB w A l) (hc : l.length ≤ c) (hcm : c ≤ maxLen) (hlen : l.length ≤ 140737488355328) :
    Calls Try.prog 20 #[.pointer (some ⟨t, 0, none⟩), .slice A l.length c] w (GetHPost w (getH l)) := by
  cases hs : startsH l with
  | false =>
    rw [show getH l = (30, HeadV.zero) by unfold getH; rw [if_pos hs]]
    exact hget_sync t A c l w hl hs
  | true =>
    by_cases hn : l.length < 32
    · rw [show getH l = (10, HeadV.zero) by unfold getH; rw [if_neg (by rw [hs]; simp), if_pos hn]]
      exact hget_end t A c l w hl hs hn
    · exact hget_long t A c l w ht hl hc hcm hlen hs (by omega)
theorem hrget_any (A : Option Addr) (c : Nat) (l : List UInt8) (w : World) (hl : SeesB w A l) (hc : l.length ≤ c) (hcm : c ≤ maxLen) (hlen : l.length ≤ 140737488355328) :
    Calls Try.prog 21 #[.slice A l.length c] w (GetHPost w (getH l)) := by
  by_cases h0 : 0 < l.length
  · have g0 : l[0]?.getD 222 = l[0] := by rw [List.getElem?_eq_getElem h0]; rfl
    have b0 := byte_eq l[0] 222 (by omega)
    cases hx : (l[0] == UInt8.ofNat 222) with
    | false =>
      rw [hx] at b0
      have hs : startsH l = false := by unfold startsH; rw [g0, show (l[0] == 222) = false from hx]; rfl
      rw [show getH l = (30, HeadV.zero) by unfold getH; rw [if_pos hs]]
      exact hrget_sync0 A c l w hl h0 b0
    | true =>
      rw [hx] at b0
      by_cases h1 : 1 < l.length
      · have g1 : l[1]?.getD 92 = l[1] := by rw [List.getElem?_eq_getElem h1]; rfl
        have b1 := byte_eq l[1] 92 (by omega)
        cases hy : (l[1] == UInt8.ofNat 92) with
        | false =>
          rw [hy] at b1
          have hs : startsH l = false := by unfold startsH; rw [g0, g1, show (l[0] == 222) = true from hx, show (l[1] == 92) = false from hy]; rfl
          rw [show getH l = (30, HeadV.zero) by unfold getH; rw [if_pos hs]]
          exact hrget_sync1 A c l w hl h1 b0 b1
        | true =>
          rw [hy] at b1
          have hs : startsH l = true := by unfold startsH; rw [g0, g1, show (l[0] == 222) = true from hx, show (l[1] == 92) = true from hy]; rfl
          by_cases hn : l.length < 32
          · rw [show getH l = (10, HeadV.zero) by unfold getH; rw [if_neg (by rw [hs]; simp), if_pos hn]]
            exact hrget_end2 A c l w hl h1 b0 b1 hn
          · exact hrget_long A c l w hl hc hcm hlen (by omega) b0 b1 hs
      · have g1 : l[1]?.getD 92 = 92 := by rw [List.getElem?_eq_none (by omega)]; rfl
        have hs : startsH l = true := by unfold startsH; rw [g0, g1, show (l[0] == 222) = true from hx]; rfl
        rw [show getH l = (10, HeadV.zero) by unfold getH; rw [if_neg (by rw [hs]; simp), if_pos (by omega)]]
        exact hrget_end1 A c l w hl h0 h1 b0
  · have e0 : l.length = 0 := by omega
    have hs : startsH l = true := by obtain rfl := List.length_eq_zero_iff.1 e0; rfl
    rw [show getH l = (10, HeadV.zero) by unfold getH; rw [if_neg (by rw [hs]; simp), if_pos (by omega)]]
    exact hrget_end0 A c l w hl e0
end Go.Proofs.Ytffcebjamichdaa
