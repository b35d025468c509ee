/- How the bytes of a tail begin; the fields of a tail, as bytes say them. -/
import Derived.Test.YtllbemdeimgiiaaField3
import Derived.Test.YtllbemdeimgiiaaBack
import Derived.Test.YtllbemdeimgiiaaTakerRaw
import Derived.Test.YtllbemdeimgiiaaTailRight
import Derived.Test.YtllbemdeimgiiaaCrcWalks2
namespace Go.Proofs.Ytllbemdeimgiiaa
set_option linter.unusedVariables false
open Go.RowKit
/-- the number that stands at a place of bytes -/
def fldT (l : List UInt8) (p n : Nat) : Nat := valLE ((l.drop p).take n)
theorem fldT_lt (l : List UInt8) (p n : Nat) : fldT l p n < 256 ^ n := by
  have h1 := valLE_lt ((l.drop p).take n)
  have h2 : ((l.drop p).take n).length ≤ n := by simp; omega
  exact Nat.lt_of_lt_of_le h1 (Nat.pow_le_pow_right (by omega) h2)
theorem takeU_at (p n : Nat) (T : List UInt8) (h : p + n ≤ T.length) (hn : 1 ≤ n ∧ n ≤ 8) : takeU (0, p) T (n : Int) = ((0, p + n), (T.drop p).take n) := by
  unfold takeU tnext
  rw [if_neg (by simp), if_neg (by omega), Int.toNat_natCast, if_neg (by omega)]
theorem takeU_end (p n : Nat) (T : List UInt8) (h : T.length < p + n) (hn : 1 ≤ n ∧ n ≤ 8) : takeU (0, p) T (n : Int) = ((10, p), []) := by
  unfold takeU tnext
  rw [if_neg (by simp), if_neg (by omega), Int.toNat_natCast, if_pos (by omega)]
theorem takeU_err (e : Int) (p n : Nat) (T : List UInt8) (h : e ≠ 0) : takeU (e, p) T (n : Int) = ((e, p), []) := by
  unfold takeU
  rw [if_pos h]
theorem takeRaw2_ok (T : List UInt8) (h : 2 ≤ T.length) : takeRaw (0, 0) T 2 = ((0, 2), T.take 2) := by
  unfold takeRaw tnext
  rw [if_neg (by simp), if_neg (by omega), if_neg (by show ¬ T.length - 0 < 2; omega)]; rfl
theorem takeRaw2_end (T : List UInt8) (h : T.length < 2) : takeRaw (0, 0) T 2 = ((10, 0), []) := by
  unfold takeRaw tnext
  rw [if_neg (by simp), if_neg (by omega), if_pos (by show T.length - 0 < 2; omega)]
def startsT (l : List UInt8) : Bool := (l[0]?.getD 69 == 69) && (l[1]?.getD 78 == 78)
theorem byte_is (x : UInt8) (n : Nat) (hn : n < 256) : ((x.toNat : Int) == (n : Int)) = (x == UInt8.ofNat n) := by
  have h : ((x.toNat : Int) = (n : Int)) ↔ x = UInt8.ofNat n := by
    constructor
    · intro h
      have h2 : x.toNat = n := by omega
      rw [← h2]; simp
    · intro h
      rw [h]; simp; omega
  rw [Bool.eq_iff_iff]
  simp [h]
def plcT (l : List UInt8) (n : Nat) : List Int := (List.range n).map fun i => (fldT l (14 + 5 * i) 5 : Int)
theorem plcT_succ (l : List UInt8) (n : Nat) : plcT l (n + 1) = plcT l n ++ [(fldT l (14 + 5 * n) 5 : Int)] := by
  unfold plcT; rw [List.range_succ, List.map_append]; rfl
theorem plcT_len (l : List UInt8) (n : Nat) : (plcT l n).length = n := by simp [plcT]
/-- the code, how many bytes, the count, the sum, the places -/
def getT (l : List UInt8) : Int × Int × Int × Int × List Int :=
  if startsT l = false then (31, 0, 0, 0, []) else if l.length < 14 then (10, 0, 0, 0, []) else if 16777216 < fldT l 10 4 then (60, 0, 0, 0, [])
  else if l.length < 18 + 5 * fldT l 10 4 then (10, 0, 0, 0, []) else if sumI (l.take (14 + 5 * fldT l 10 4)) ≠ (fldT l (14 + 5 * fldT l 10 4) 4 : Int) then (33, 0, 0, 0, [])
  else if rightB (fldT l 2 4 : Nat) (plcT l (fldT l 10 4)) = false then (60, 0, 0, 0, [])
  else (0, (18 + 5 * fldT l 10 4 : Nat), (fldT l 2 4 : Nat), (fldT l 6 4 : Nat), plcT l (fldT l 10 4))
def GetTPost (w : World) (r : Int × Int × Int × Int × List Int) (e : Ending) (w' : World) : Prop :=
  ∃ (A : Option Addr) (c : Nat), e = .returned (.tuple #[.agg #[.int .i64 r.2.2.1, .int .u32 r.2.2.2.1, .slice A r.2.2.2.2.length c], .int .i64 r.2.1, .int .i64 r.1]) ∧ SeesI w' A r.2.2.2.2 ∧ r.2.2.2.2.length ≤ c ∧ c ≤ maxLen ∧ Below w.heap.size w w'
set_option maxHeartbeats 1000000 in
theorem tstarts_any (A : Option Addr) (c : Nat) (l : List UInt8) (w : World) (hl : SeesB w A l) :
    Calls Try.prog 39 #[.slice A l.length c] w fun e w' => e = .returned (.bool (startsT l)) ∧ w = w' := by
  by_cases h0 : 0 < l.length
  · obtain ⟨a, rfl, ca⟩ := hl.at h0
    have ca0 : w.cell? a = some (.int .u8 (l[0].toNat : Int)) := ca
    have g0 : l[0]?.getD 69 = l[0] := by rw [List.getElem?_eq_getElem h0]; rfl
    have b0 : ((l[0].toNat : Int) == 69) = (l[0] == 69) := byte_is l[0] 69 (by omega)
    have d0 : decide ((l.length : Int) < 1) = false := decide_eq_false (by omega)
    have d0' : (0 : Int) < (l.length : Int) := by omega
    cases hx : (l[0] == 69) with
    | false =>
      rw [hx] at b0
      rw [show startsT l = false by unfold startsT; rw [g0, hx]; rfl]
      clear g0 hx ca
      go_enter Try.func39, Try.ntmps39
      go_wp2_with fail
      go_ret
      exact ⟨rfl, rfl⟩
    | true =>
      rw [hx] at b0
      by_cases h1 : 1 < l.length
      · obtain ⟨a', ha, cb⟩ := hl.at h1
        injection ha with ha
        subst ha
        have ca1 : w.cell? { block := a.block, off := a.off + 1 } = some (.int .u8 (l[1].toNat : Int)) := cb
        have g1 : l[1]?.getD 78 = l[1] := by rw [List.getElem?_eq_getElem h1]; rfl
        have b1 : ((l[1].toNat : Int) == 78) = (l[1] == 78) := byte_is l[1] 78 (by omega)
        have d1 : decide ((l.length : Int) < 2) = false := decide_eq_false (by omega)
        have d1' : (1 : Int) < (l.length : Int) := by omega
        have e : startsT l = (l[1] == 78) := by unfold startsT; rw [g0, g1, hx]; rfl
        cases hy : (l[1] == 78)
        all_goals
          rw [hy] at b1 e
          rw [e]
          clear g0 g1 hx hy e ca cb
          go_enter Try.func39, Try.ntmps39
          go_wp2_with fail
          go_ret
          exact ⟨rfl, rfl⟩
      · have d1 : decide ((l.length : Int) < 2) = true := decide_eq_true (by omega)
        have g1 : l[1]?.getD 78 = 78 := by rw [List.getElem?_eq_none (by omega)]; rfl
        rw [show startsT l = true by unfold startsT; rw [g0, g1, hx]; rfl]
        clear g0 g1 hx ca
        go_enter Try.func39, Try.ntmps39
        go_wp2_with fail
        go_ret
        exact ⟨rfl, rfl⟩
  · obtain rfl : l = [] := List.length_eq_zero_iff.1 (by omega)
    go_enter Try.func39, Try.ntmps39
    go_wp2_with fail
    go_ret
    exact ⟨rfl, rfl⟩
end Go.Proofs.Ytllbemdeimgiiaa
