/- Which head may be, by the reference. -/
import Derived.Test.YtkmhmehofipehaaDoorFileBuildsM5
import Derived.Test.YtkmhmehofipehaaDoorFileBuildsM3
namespace Go.Proofs.YtkmhmehofipehaaDoor
set_option linter.unusedVariables false
open Go.RowKit
set_option maxHeartbeats 4000000 in
theorem hrright_any (k idx len stp bnd : Int) (lst : Bool) (lnk siz : Int) (w : World) :
    Calls Tryd.prog 33 #[.agg #[.int .i64 k, .int .i64 idx, .int .i64 len, .int .i64 stp, .int .i64 bnd, .bool lst, .int .u32 lnk, .int .i64 siz]] w fun e w' => e = .returned (.bool (rightH k idx len stp bnd lst lnk siz)) ∧ Below w.heap.size w w' := by
  have hb : Below w.heap.size w (w.alloc (.cells #[.int .i64 k, .int .i64 idx, .int .i64 len, .int .i64 stp, .int .i64 bnd, .bool lst, .int .u32 lnk, .int .i64 siz] 52)) := (Below.refl _ w).alloc (Nat.le_refl _) _
  by_cases a0 : k < 1
  · have e0 : decide (k < 1) = true := by simpa using a0
    have HX : Hid (rightH k idx len stp bnd lst lnk siz = false) := hid (decide_eq_false (fun h => by have := (h.1).1; omega))
    clear a0
    go_enter Tryd.func33, Tryd.ntmps33
    go_wp2_with fail
    go_ret
    exact ⟨ret_bool HX.out.symm, hb⟩
  have e0 : decide (k < 1) = false := by simpa using a0
  by_cases b0 : 3 < k
  · have g0 : decide (3 < k) = true := by simpa using b0
    have HX : Hid (rightH k idx len stp bnd lst lnk siz = false) := hid (decide_eq_false (fun h => by have := (h.1).2; omega))
    clear b0
    go_enter Tryd.func33, Tryd.ntmps33
    go_wp2_with fail
    go_ret
    exact ⟨ret_bool HX.out.symm, hb⟩
  have g0 : decide (3 < k) = false := by simpa using b0
  have H0 : Hid (1 ≤ k ∧ k ≤ 3) := hid (by omega)
  clear a0 b0
  by_cases a1 : idx < 0
  · have e1 : decide (idx < 0) = true := by simpa using a1
    have HX : Hid (rightH k idx len stp bnd lst lnk siz = false) := hid (decide_eq_false (fun h => by have := (h.2.1).1; omega))
    clear a1
    go_enter Tryd.func33, Tryd.ntmps33
    go_wp2_with fail
    go_ret
    exact ⟨ret_bool HX.out.symm, hb⟩
  have e1 : decide (idx < 0) = false := by simpa using a1
  by_cases b1 : 4294967295 < idx
  · have g1 : decide (4294967295 < idx) = true := by simpa using b1
    have HX : Hid (rightH k idx len stp bnd lst lnk siz = false) := hid (decide_eq_false (fun h => by have := (h.2.1).2; omega))
    clear b1
    go_enter Tryd.func33, Tryd.ntmps33
    go_wp2_with fail
    go_ret
    exact ⟨ret_bool HX.out.symm, hb⟩
  have g1 : decide (4294967295 < idx) = false := by simpa using b1
  have H1 : Hid (0 ≤ idx ∧ idx ≤ 4294967295) := hid (by omega)
  clear a1 b1
  by_cases a2 : len < 1
  · have e2 : decide (len < 1) = true := by simpa using a2
    have HX : Hid (rightH k idx len stp bnd lst lnk siz = false) := hid (decide_eq_false (fun h => by have := (h.2.2.1).1; omega))
    clear a2
    go_enter Tryd.func33, Tryd.ntmps33
    go_wp2_with fail
    go_ret
    exact ⟨ret_bool HX.out.symm, hb⟩
  have e2 : decide (len < 1) = false := by simpa using a2
  by_cases b2 : 65536 < len
  · have g2 : decide (65536 < len) = true := by simpa using b2
    have HX : Hid (rightH k idx len stp bnd lst lnk siz = false) := hid (decide_eq_false (fun h => by have := (h.2.2.1).2; omega))
    clear b2
    go_enter Tryd.func33, Tryd.ntmps33
    go_wp2_with fail
    go_ret
    exact ⟨ret_bool HX.out.symm, hb⟩
  have g2 : decide (65536 < len) = false := by simpa using b2
  have H2 : Hid (1 ≤ len ∧ len ≤ 65536) := hid (by omega)
  clear a2 b2
  by_cases a3 : stp < 1
  · have e3 : decide (stp < 1) = true := by simpa using a3
    have HX : Hid (rightH k idx len stp bnd lst lnk siz = false) := hid (decide_eq_false (fun h => by have := (h.2.2.2.1).1; omega))
    clear a3
    go_enter Tryd.func33, Tryd.ntmps33
    go_wp2_with fail
    go_ret
    exact ⟨ret_bool HX.out.symm, hb⟩
  have e3 : decide (stp < 1) = false := by simpa using a3
  by_cases b3 : 2147483648 < stp
  · have g3 : decide (2147483648 < stp) = true := by simpa using b3
    have HX : Hid (rightH k idx len stp bnd lst lnk siz = false) := hid (decide_eq_false (fun h => by have := (h.2.2.2.1).2; omega))
    clear b3
    go_enter Tryd.func33, Tryd.ntmps33
    go_wp2_with fail
    go_ret
    exact ⟨ret_bool HX.out.symm, hb⟩
  have g3 : decide (2147483648 < stp) = false := by simpa using b3
  have H3 : Hid (1 ≤ stp ∧ stp ≤ 2147483648) := hid (by omega)
  by_cases a4 : bnd < 0
  · have e4 : decide (bnd < 0) = true := by simpa using a4
    have HX : Hid (rightH k idx len stp bnd lst lnk siz = false) := hid (decide_eq_false (fun h => by have := (h.2.2.2.2.1).1; omega))
    clear a4
    go_enter Tryd.func33, Tryd.ntmps33
    go_wp2_with fail
    go_ret
    exact ⟨ret_bool HX.out.symm, hb⟩
  have e4 : decide (bnd < 0) = false := by simpa using a4
  by_cases b4 : stp / 2 < bnd
  · have g4 : decide (stp / 2 < bnd) = true := by simpa using b4
    have HX : Hid (rightH k idx len stp bnd lst lnk siz = false) := hid (decide_eq_false (fun h => by have := (h.2.2.2.2.1).2; omega))
    clear b4
    go_enter Tryd.func33, Tryd.ntmps33
    go_wp2_with fail
    go_ret
    exact ⟨ret_bool HX.out.symm, hb⟩
  have g4 : decide (stp / 2 < bnd) = false := by simpa using b4
  have H4 : Hid (0 ≤ bnd ∧ bnd ≤ (stp / 2)) := hid (by omega)
  clear a4 b4
  by_cases a5 : siz < 0
  · have e5 : decide (siz < 0) = true := by simpa using a5
    have HX : Hid (rightH k idx len stp bnd lst lnk siz = false) := hid (decide_eq_false (fun h => by have := (h.2.2.2.2.2.1).1; omega))
    clear a5
    go_enter Tryd.func33, Tryd.ntmps33
    go_wp2_with fail
    go_ret
    exact ⟨ret_bool HX.out.symm, hb⟩
  have e5 : decide (siz < 0) = false := by simpa using a5
  by_cases b5 : 16777216 < siz
  · have g5 : decide (16777216 < siz) = true := by simpa using b5
    have HX : Hid (rightH k idx len stp bnd lst lnk siz = false) := hid (decide_eq_false (fun h => by have := (h.2.2.2.2.2.1).2; omega))
    clear b5
    go_enter Tryd.func33, Tryd.ntmps33
    go_wp2_with fail
    go_ret
    exact ⟨ret_bool HX.out.symm, hb⟩
  have g5 : decide (16777216 < siz) = false := by simpa using b5
  have H5 : Hid (0 ≤ siz ∧ siz ≤ 16777216) := hid (by omega)
  clear a5 b5
  cases lst with
  | false =>
    by_cases n0 : lnk = 0
    · have f4 : (lnk == 0) = true := by simpa using n0
      have N0 := hid n0
      clear n0
      by_cases s1 : stp = 1
      · have f5 : (stp == 1) = true := by simpa using s1
        have S1 := hid s1
        clear s1
        have HX : Hid (rightH k idx len stp bnd false lnk siz = true) := hid (decide_eq_true (⟨H0.out, H1.out, H2.out, H3.out, H4.out, H5.out, (fun h => absurd h (by decide)), (fun h => absurd N0.out h), (fun h => absurd S1.out h)⟩))
        go_enter Tryd.func33, Tryd.ntmps33
        go_wp2_with fail
        go_ret
        exact ⟨ret_bool HX.out.symm, hb⟩
      have f5 : (stp == 1) = false := by simpa using s1
      by_cases s3 : k = 3
      · have f3 : (k != 3) = false := by simpa using s3
        have S3 := hid s3
        have S1 := hid s1
        clear s3 s1
        have HX : Hid (rightH k idx len stp bnd false lnk siz = false) := hid (decide_eq_false (fun h => h.2.2.2.2.2.2.2.2 S1.out S3.out))
        go_enter Tryd.func33, Tryd.ntmps33
        go_wp2_with fail
        go_ret
        exact ⟨ret_bool HX.out.symm, hb⟩
      · have f3 : (k != 3) = true := by simpa using s3
        have S3 := hid s3
        clear s3 s1
        have HX : Hid (rightH k idx len stp bnd false lnk siz = true) := hid (decide_eq_true (⟨H0.out, H1.out, H2.out, H3.out, H4.out, H5.out, (fun h => absurd h (by decide)), (fun h => absurd N0.out h), (fun _ => S3.out)⟩))
        go_enter Tryd.func33, Tryd.ntmps33
        go_wp2_with fail
        go_ret
        exact ⟨ret_bool HX.out.symm, hb⟩
    have f4 : (lnk == 0) = false := by simpa using n0
    by_cases n2 : k = 2
    · have f2 : (k == 2) = true := by simpa using n2
      have N2 := hid n2
      clear n2 n0
      by_cases s1 : stp = 1
      · have f5 : (stp == 1) = true := by simpa using s1
        have S1 := hid s1
        clear s1
        have HX : Hid (rightH k idx len stp bnd false lnk siz = true) := hid (decide_eq_true (⟨H0.out, H1.out, H2.out, H3.out, H4.out, H5.out, (fun h => absurd h (by decide)), (fun _ => N2.out), (fun h => absurd S1.out h)⟩))
        go_enter Tryd.func33, Tryd.ntmps33
        go_wp2_with fail
        go_ret
        exact ⟨ret_bool HX.out.symm, hb⟩
      have f5 : (stp == 1) = false := by simpa using s1
      by_cases s3 : k = 3
      · have f3 : (k != 3) = false := by simpa using s3
        have S3 := hid s3
        have S1 := hid s1
        clear s3 s1
        have HX : Hid (rightH k idx len stp bnd false lnk siz = false) := hid (decide_eq_false (fun h => h.2.2.2.2.2.2.2.2 S1.out S3.out))
        go_enter Tryd.func33, Tryd.ntmps33
        go_wp2_with fail
        go_ret
        exact ⟨ret_bool HX.out.symm, hb⟩
      · have f3 : (k != 3) = true := by simpa using s3
        have S3 := hid s3
        clear s3 s1
        have HX : Hid (rightH k idx len stp bnd false lnk siz = true) := hid (decide_eq_true (⟨H0.out, H1.out, H2.out, H3.out, H4.out, H5.out, (fun h => absurd h (by decide)), (fun _ => N2.out), (fun _ => S3.out)⟩))
        go_enter Tryd.func33, Tryd.ntmps33
        go_wp2_with fail
        go_ret
        exact ⟨ret_bool HX.out.symm, hb⟩
    · have f2 : (k == 2) = false := by simpa using n2
      have N2 := hid n2
      have N0 := hid n0
      clear n2 n0
      have HX : Hid (rightH k idx len stp bnd false lnk siz = false) := hid (decide_eq_false (fun h => N2.out (h.2.2.2.2.2.2.2.1 N0.out)))
      go_enter Tryd.func33, Tryd.ntmps33
      go_wp2_with fail
      go_ret
      exact ⟨ret_bool HX.out.symm, hb⟩
  | true =>
    by_cases l1 : k = 1
    · have f1 : (k == 1) = true := by simpa using l1
      have L1 := hid l1
      clear l1
      by_cases n0 : lnk = 0
      · have f4 : (lnk == 0) = true := by simpa using n0
        have N0 := hid n0
        clear n0
        by_cases s1 : stp = 1
        · have f5 : (stp == 1) = true := by simpa using s1
          have S1 := hid s1
          clear s1
          have HX : Hid (rightH k idx len stp bnd true lnk siz = true) := hid (decide_eq_true (⟨H0.out, H1.out, H2.out, H3.out, H4.out, H5.out, (fun _ => L1.out), (fun h => absurd N0.out h), (fun h => absurd S1.out h)⟩))
          go_enter Tryd.func33, Tryd.ntmps33
          go_wp2_with fail
          go_ret
          exact ⟨ret_bool HX.out.symm, hb⟩
        have f5 : (stp == 1) = false := by simpa using s1
        by_cases s3 : k = 3
        · have f3 : (k != 3) = false := by simpa using s3
          have S3 := hid s3
          have S1 := hid s1
          clear s3 s1
          have HX : Hid (rightH k idx len stp bnd true lnk siz = false) := hid (decide_eq_false (fun h => h.2.2.2.2.2.2.2.2 S1.out S3.out))
          go_enter Tryd.func33, Tryd.ntmps33
          go_wp2_with fail
          go_ret
          exact ⟨ret_bool HX.out.symm, hb⟩
        · have f3 : (k != 3) = true := by simpa using s3
          have S3 := hid s3
          clear s3 s1
          have HX : Hid (rightH k idx len stp bnd true lnk siz = true) := hid (decide_eq_true (⟨H0.out, H1.out, H2.out, H3.out, H4.out, H5.out, (fun _ => L1.out), (fun h => absurd N0.out h), (fun _ => S3.out)⟩))
          go_enter Tryd.func33, Tryd.ntmps33
          go_wp2_with fail
          go_ret
          exact ⟨ret_bool HX.out.symm, hb⟩
      have f4 : (lnk == 0) = false := by simpa using n0
      by_cases n2 : k = 2
      · have f2 : (k == 2) = true := by simpa using n2
        have N2 := hid n2
        clear n2 n0
        by_cases s1 : stp = 1
        · have f5 : (stp == 1) = true := by simpa using s1
          have S1 := hid s1
          clear s1
          have HX : Hid (rightH k idx len stp bnd true lnk siz = true) := hid (decide_eq_true (⟨H0.out, H1.out, H2.out, H3.out, H4.out, H5.out, (fun _ => L1.out), (fun _ => N2.out), (fun h => absurd S1.out h)⟩))
          go_enter Tryd.func33, Tryd.ntmps33
          go_wp2_with fail
          go_ret
          exact ⟨ret_bool HX.out.symm, hb⟩
        have f5 : (stp == 1) = false := by simpa using s1
        by_cases s3 : k = 3
        · have f3 : (k != 3) = false := by simpa using s3
          have S3 := hid s3
          have S1 := hid s1
          clear s3 s1
          have HX : Hid (rightH k idx len stp bnd true lnk siz = false) := hid (decide_eq_false (fun h => h.2.2.2.2.2.2.2.2 S1.out S3.out))
          go_enter Tryd.func33, Tryd.ntmps33
          go_wp2_with fail
          go_ret
          exact ⟨ret_bool HX.out.symm, hb⟩
        · have f3 : (k != 3) = true := by simpa using s3
          have S3 := hid s3
          clear s3 s1
          have HX : Hid (rightH k idx len stp bnd true lnk siz = true) := hid (decide_eq_true (⟨H0.out, H1.out, H2.out, H3.out, H4.out, H5.out, (fun _ => L1.out), (fun _ => N2.out), (fun _ => S3.out)⟩))
          go_enter Tryd.func33, Tryd.ntmps33
          go_wp2_with fail
          go_ret
          exact ⟨ret_bool HX.out.symm, hb⟩
      · have f2 : (k == 2) = false := by simpa using n2
        have N2 := hid n2
        have N0 := hid n0
        clear n2 n0
        have HX : Hid (rightH k idx len stp bnd true lnk siz = false) := hid (decide_eq_false (fun h => N2.out (h.2.2.2.2.2.2.2.1 N0.out)))
        go_enter Tryd.func33, Tryd.ntmps33
        go_wp2_with fail
        go_ret
        exact ⟨ret_bool HX.out.symm, hb⟩
    · have f1 : (k == 1) = false := by simpa using l1
      have L1 := hid l1
      clear l1
      have HX : Hid (rightH k idx len stp bnd true lnk siz = false) := hid (decide_eq_false (fun h => L1.out (h.2.2.2.2.2.2.1 rfl)))
      go_enter Tryd.func33, Tryd.ntmps33
      go_wp2_with fail
      go_ret
      exact ⟨ret_bool HX.out.symm, hb⟩
end Go.Proofs.YtkmhmehofipehaaDoor
/- The reference's value of a field's bytes. -/
namespace Go.Proofs.YtkmhmehofipehaaDoor
set_option linter.unusedVariables false
open Go.RowKit
theorem valLE_cons (b : UInt8) (l : List UInt8) : valLE (b :: l) = b.toNat + 256 * valLE l := rfl
theorem valLE_drop (l : List UInt8) (k : Nat) (h : k < l.length) : valLE (l.drop k) = l[k].toNat + 256 * valLE (l.drop (k + 1)) := by
  rw [List.drop_eq_getElem_cons h, valLE_cons]
set_option maxHeartbeats 1000000 in
theorem rvalue_any (A : Option Addr) (c : Nat) (l : List UInt8) (w : World) (hl : SeesB w A l) (hlen : l.length ≤ 8) :
    Calls Tryd.prog 83 #[.slice A l.length c] w fun e w' => e = .returned (.int .u64 (valLE l : Nat)) ∧ w = w' := by
  go_enter Tryd.func83, Tryd.ntmps83
  go_wp2_with fail
  go_loop [3, 4] (fun v i => ∃ k : Nat, k ≤ l.length ∧ i = .int .i64 ((k : Int) - 1) ∧ v = .int .u64 (valLE (l.drop k) : Nat)) (fun _ i => (intOf i + 1).toNat)
  case atStart => exact ⟨l.length, Nat.le_refl _, by simp; try omega, by simp [valLE]⟩
  case round =>
    obtain ⟨k, hk, rfl, rfl⟩ := hrel
    by_cases h0 : k = 0
    · subst h0
      rw [List.drop_zero, show ((0 : Nat) : Int) - 1 = -1 from rfl]
      go_wp2_with fail
      go_ret
      exact ⟨rfl, rfl⟩
    · obtain ⟨j, hj⟩ : ∃ j, k = j + 1 := ⟨k - 1, by omega⟩
      subst hj
      have hjl : j < l.length := by omega
      obtain ⟨a, rfl, hc⟩ := hl.at hjl
      have hbl := byte_lt l[j]
      have hb0 : 0 ≤ (l[j].toNat : Int) := by omega
      have hvl := valLE_lt (l.drop (j + 1))
      have hdl : (l.drop (j + 1)).length ≤ 7 := by simp; omega
      have hp := Nat.pow_le_pow_right (show 0 < 256 by omega) hdl
      have HV := hid (valLE_drop l j hjl)
      generalize valLE (l.drop (j + 1)) = V at *
      have hV : V < 72057594037927936 := by omega
      have e1 : ((j + 1 : Nat) : Int) - 1 = (j : Int) := by omega
      rw [e1]
      have hd : decide (0 ≤ (j : Int)) = true := by simp
      clear hvl hp e1 h0
      go_wp2_with fail
      refine ⟨⟨j, by omega, rfl, ?_⟩, ?_⟩
      · rw [HV.out, show ((l[j].toNat + 256 * V : Nat) : Int) = 256 * (V : Int) + l[j].toNat by omega]
      · show ((j : Int) - 1 + 1).toNat < ((j : Int) + 1).toNat
        omega
end Go.Proofs.YtkmhmehofipehaaDoor
