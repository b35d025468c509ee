/- Which head may be, by the reference. -/
import Derived.Test.YtkmhmehofipehaaGreatDoorPz3
import Derived.Test.YtkmhmehofipehaaGreatDoorPz5
import Derived.Deep.DeepCutAuto
import Derived.Laws.StructEq
import Derived.WalkSpells
import Derived.WalkLawsBesides
namespace Go.Proofs.YtkmhmehofipehaaGreatDoor
set_option linter.unusedVariables false
open Go.RowKit
set_option maxHeartbeats 4000000 in
theorem hrright_any (k idx len stp bnd : Int) (lst : Bool) (lnk siz : Int) (w : World) :
    Calls Tryz.prog 72 #[.agg #[.int .i64 k, .int .i64 idx, .int .i64 len, .int .i64 stp, .int .i64 bnd, .bool lst, .int .u32 lnk, .int .i64 siz]] w fun e w' => e = .returned (.bool (rightH k idx len stp bnd lst lnk siz)) ∧ Below w.heap.size w w' := by
  have hb : Below w.heap.size w (w.alloc (.cells #[.int .i64 k, .int .i64 idx, .int .i64 len, .int .i64 stp, .int .i64 bnd, .bool lst, .int .u32 lnk, .int .i64 siz] 67)) := (Below.refl _ w).alloc (Nat.le_refl _) _
  by_cases a0 : k < 1
  · have e0 : decide (k < 1) = true := by simpa using a0
    have HX : Hid (rightH k idx len stp bnd lst lnk siz = false) := hid (decide_eq_false (fun h => by have := (h.1).1; omega))
    clear a0
    go_enter Tryz.func72, Tryz.ntmps72
    go_wp2_with fail
    go_ret
    exact ⟨ret_bool HX.out.symm, hb⟩
  have e0 : decide (k < 1) = false := by simpa using a0
  by_cases b0 : 3 < k
  · have g0 : decide (3 < k) = true := by simpa using b0
    have HX : Hid (rightH k idx len stp bnd lst lnk siz = false) := hid (decide_eq_false (fun h => by have := (h.1).2; omega))
    clear b0
    go_enter Tryz.func72, Tryz.ntmps72
    go_wp2_with fail
    go_ret
    exact ⟨ret_bool HX.out.symm, hb⟩
  have g0 : decide (3 < k) = false := by simpa using b0
  have H0 : Hid (1 ≤ k ∧ k ≤ 3) := hid (by omega)
  clear a0 b0
  by_cases a1 : idx < 0
  · have e1 : decide (idx < 0) = true := by simpa using a1
    have HX : Hid (rightH k idx len stp bnd lst lnk siz = false) := hid (decide_eq_false (fun h => by have := (h.2.1).1; omega))
    clear a1
    go_enter Tryz.func72, Tryz.ntmps72
    go_wp2_with fail
    go_ret
    exact ⟨ret_bool HX.out.symm, hb⟩
  have e1 : decide (idx < 0) = false := by simpa using a1
  by_cases b1 : 4294967295 < idx
  · have g1 : decide (4294967295 < idx) = true := by simpa using b1
    have HX : Hid (rightH k idx len stp bnd lst lnk siz = false) := hid (decide_eq_false (fun h => by have := (h.2.1).2; omega))
    clear b1
    go_enter Tryz.func72, Tryz.ntmps72
    go_wp2_with fail
    go_ret
    exact ⟨ret_bool HX.out.symm, hb⟩
  have g1 : decide (4294967295 < idx) = false := by simpa using b1
  have H1 : Hid (0 ≤ idx ∧ idx ≤ 4294967295) := hid (by omega)
  clear a1 b1
  by_cases a2 : len < 1
  · have e2 : decide (len < 1) = true := by simpa using a2
    have HX : Hid (rightH k idx len stp bnd lst lnk siz = false) := hid (decide_eq_false (fun h => by have := (h.2.2.1).1; omega))
    clear a2
    go_enter Tryz.func72, Tryz.ntmps72
    go_wp2_with fail
    go_ret
    exact ⟨ret_bool HX.out.symm, hb⟩
  have e2 : decide (len < 1) = false := by simpa using a2
  by_cases b2 : 65536 < len
  · have g2 : decide (65536 < len) = true := by simpa using b2
    have HX : Hid (rightH k idx len stp bnd lst lnk siz = false) := hid (decide_eq_false (fun h => by have := (h.2.2.1).2; omega))
    clear b2
    go_enter Tryz.func72, Tryz.ntmps72
    go_wp2_with fail
    go_ret
    exact ⟨ret_bool HX.out.symm, hb⟩
  have g2 : decide (65536 < len) = false := by simpa using b2
  have H2 : Hid (1 ≤ len ∧ len ≤ 65536) := hid (by omega)
  clear a2 b2
  by_cases a3 : stp < 1
  · have e3 : decide (stp < 1) = true := by simpa using a3
    have HX : Hid (rightH k idx len stp bnd lst lnk siz = false) := hid (decide_eq_false (fun h => by have := (h.2.2.2.1).1; omega))
    clear a3
    go_enter Tryz.func72, Tryz.ntmps72
    go_wp2_with fail
    go_ret
    exact ⟨ret_bool HX.out.symm, hb⟩
  have e3 : decide (stp < 1) = false := by simpa using a3
  by_cases b3 : 2147483648 < stp
  · have g3 : decide (2147483648 < stp) = true := by simpa using b3
    have HX : Hid (rightH k idx len stp bnd lst lnk siz = false) := hid (decide_eq_false (fun h => by have := (h.2.2.2.1).2; omega))
    clear b3
    go_enter Tryz.func72, Tryz.ntmps72
    go_wp2_with fail
    go_ret
    exact ⟨ret_bool HX.out.symm, hb⟩
  have g3 : decide (2147483648 < stp) = false := by simpa using b3
  have H3 : Hid (1 ≤ stp ∧ stp ≤ 2147483648) := hid (by omega)
  by_cases a4 : bnd < 0
  · have e4 : decide (bnd < 0) = true := by simpa using a4
    have HX : Hid (rightH k idx len stp bnd lst lnk siz = false) := hid (decide_eq_false (fun h => by have := (h.2.2.2.2.1).1; omega))
    clear a4
    go_enter Tryz.func72, Tryz.ntmps72
    go_wp2_with fail
    go_ret
    exact ⟨ret_bool HX.out.symm, hb⟩
  have e4 : decide (bnd < 0) = false := by simpa using a4
  by_cases b4 : stp / 2 < bnd
  · have g4 : decide (stp / 2 < bnd) = true := by simpa using b4
    have HX : Hid (rightH k idx len stp bnd lst lnk siz = false) := hid (decide_eq_false (fun h => by have := (h.2.2.2.2.1).2; omega))
    clear b4
    go_enter Tryz.func72, Tryz.ntmps72
    go_wp2_with fail
    go_ret
    exact ⟨ret_bool HX.out.symm, hb⟩
  have g4 : decide (stp / 2 < bnd) = false := by simpa using b4
  have H4 : Hid (0 ≤ bnd ∧ bnd ≤ (stp / 2)) := hid (by omega)
  clear a4 b4
  by_cases a5 : siz < 0
  · have e5 : decide (siz < 0) = true := by simpa using a5
    have HX : Hid (rightH k idx len stp bnd lst lnk siz = false) := hid (decide_eq_false (fun h => by have := (h.2.2.2.2.2.1).1; omega))
    clear a5
    go_enter Tryz.func72, Tryz.ntmps72
    go_wp2_with fail
    go_ret
    exact ⟨ret_bool HX.out.symm, hb⟩
  have e5 : decide (siz < 0) = false := by simpa using a5
  by_cases b5 : 16777216 < siz
  · have g5 : decide (16777216 < siz) = true := by simpa using b5
    have HX : Hid (rightH k idx len stp bnd lst lnk siz = false) := hid (decide_eq_false (fun h => by have := (h.2.2.2.2.2.1).2; omega))
    clear b5
    go_enter Tryz.func72, Tryz.ntmps72
    go_wp2_with fail
    go_ret
    exact ⟨ret_bool HX.out.symm, hb⟩
  have g5 : decide (16777216 < siz) = false := by simpa using b5
  have H5 : Hid (0 ≤ siz ∧ siz ≤ 16777216) := hid (by omega)
  clear a5 b5
  cases lst with
  | false =>
    by_cases n0 : lnk = 0
    · have f4 : (lnk == 0) = true := by simpa using n0
      have N0 := hid n0
      clear n0
      by_cases s1 : stp = 1
      · have f5 : (stp == 1) = true := by simpa using s1
        have S1 := hid s1
        clear s1
        have HX : Hid (rightH k idx len stp bnd false lnk siz = true) := hid (decide_eq_true (⟨H0.out, H1.out, H2.out, H3.out, H4.out, H5.out, (fun h => absurd h (by decide)), (fun h => absurd N0.out h), (fun h => absurd S1.out h)⟩))
        go_enter Tryz.func72, Tryz.ntmps72
        go_wp2_with fail
        go_ret
        exact ⟨ret_bool HX.out.symm, hb⟩
      have f5 : (stp == 1) = false := by simpa using s1
      by_cases s3 : k = 3
      · have f3 : (k != 3) = false := by simpa using s3
        have S3 := hid s3
        have S1 := hid s1
        clear s3 s1
        have HX : Hid (rightH k idx len stp bnd false lnk siz = false) := hid (decide_eq_false (fun h => h.2.2.2.2.2.2.2.2 S1.out S3.out))
        go_enter Tryz.func72, Tryz.ntmps72
        go_wp2_with fail
        go_ret
        exact ⟨ret_bool HX.out.symm, hb⟩
      · have f3 : (k != 3) = true := by simpa using s3
        have S3 := hid s3
        clear s3 s1
        have HX : Hid (rightH k idx len stp bnd false lnk siz = true) := hid (decide_eq_true (⟨H0.out, H1.out, H2.out, H3.out, H4.out, H5.out, (fun h => absurd h (by decide)), (fun h => absurd N0.out h), (fun _ => S3.out)⟩))
        go_enter Tryz.func72, Tryz.ntmps72
        go_wp2_with fail
        go_ret
        exact ⟨ret_bool HX.out.symm, hb⟩
    have f4 : (lnk == 0) = false := by simpa using n0
    by_cases n2 : k = 2
    · have f2 : (k == 2) = true := by simpa using n2
      have N2 := hid n2
      clear n2 n0
      by_cases s1 : stp = 1
      · have f5 : (stp == 1) = true := by simpa using s1
        have S1 := hid s1
        clear s1
        have HX : Hid (rightH k idx len stp bnd false lnk siz = true) := hid (decide_eq_true (⟨H0.out, H1.out, H2.out, H3.out, H4.out, H5.out, (fun h => absurd h (by decide)), (fun _ => N2.out), (fun h => absurd S1.out h)⟩))
        go_enter Tryz.func72, Tryz.ntmps72
        go_wp2_with fail
        go_ret
        exact ⟨ret_bool HX.out.symm, hb⟩
      have f5 : (stp == 1) = false := by simpa using s1
      by_cases s3 : k = 3
      · have f3 : (k != 3) = false := by simpa using s3
        have S3 := hid s3
        have S1 := hid s1
        clear s3 s1
        have HX : Hid (rightH k idx len stp bnd false lnk siz = false) := hid (decide_eq_false (fun h => h.2.2.2.2.2.2.2.2 S1.out S3.out))
        go_enter Tryz.func72, Tryz.ntmps72
        go_wp2_with fail
        go_ret
        exact ⟨ret_bool HX.out.symm, hb⟩
      · have f3 : (k != 3) = true := by simpa using s3
        have S3 := hid s3
        clear s3 s1
        have HX : Hid (rightH k idx len stp bnd false lnk siz = true) := hid (decide_eq_true (⟨H0.out, H1.out, H2.out, H3.out, H4.out, H5.out, (fun h => absurd h (by decide)), (fun _ => N2.out), (fun _ => S3.out)⟩))
        go_enter Tryz.func72, Tryz.ntmps72
        go_wp2_with fail
        go_ret
        exact ⟨ret_bool HX.out.symm, hb⟩
    · have f2 : (k == 2) = false := by simpa using n2
      have N2 := hid n2
      have N0 := hid n0
      clear n2 n0
      have HX : Hid (rightH k idx len stp bnd false lnk siz = false) := hid (decide_eq_false (fun h => N2.out (h.2.2.2.2.2.2.2.1 N0.out)))
      go_enter Tryz.func72, Tryz.ntmps72
      go_wp2_with fail
      go_ret
      exact ⟨ret_bool HX.out.symm, hb⟩
  | true =>
    by_cases l1 : k = 1
    · have f1 : (k == 1) = true := by simpa using l1
      have L1 := hid l1
      clear l1
      by_cases n0 : lnk = 0
      · have f4 : (lnk == 0) = true := by simpa using n0
        have N0 := hid n0
        clear n0
        by_cases s1 : stp = 1
        · have f5 : (stp == 1) = true := by simpa using s1
          have S1 := hid s1
          clear s1
          have HX : Hid (rightH k idx len stp bnd true lnk siz = true) := hid (decide_eq_true (⟨H0.out, H1.out, H2.out, H3.out, H4.out, H5.out, (fun _ => L1.out), (fun h => absurd N0.out h), (fun h => absurd S1.out h)⟩))
          go_enter Tryz.func72, Tryz.ntmps72
          go_wp2_with fail
          go_ret
          exact ⟨ret_bool HX.out.symm, hb⟩
        have f5 : (stp == 1) = false := by simpa using s1
        by_cases s3 : k = 3
        · have f3 : (k != 3) = false := by simpa using s3
          have S3 := hid s3
          have S1 := hid s1
          clear s3 s1
          have HX : Hid (rightH k idx len stp bnd true lnk siz = false) := hid (decide_eq_false (fun h => h.2.2.2.2.2.2.2.2 S1.out S3.out))
          go_enter Tryz.func72, Tryz.ntmps72
          go_wp2_with fail
          go_ret
          exact ⟨ret_bool HX.out.symm, hb⟩
        · have f3 : (k != 3) = true := by simpa using s3
          have S3 := hid s3
          clear s3 s1
          have HX : Hid (rightH k idx len stp bnd true lnk siz = true) := hid (decide_eq_true (⟨H0.out, H1.out, H2.out, H3.out, H4.out, H5.out, (fun _ => L1.out), (fun h => absurd N0.out h), (fun _ => S3.out)⟩))
          go_enter Tryz.func72, Tryz.ntmps72
          go_wp2_with fail
          go_ret
          exact ⟨ret_bool HX.out.symm, hb⟩
      have f4 : (lnk == 0) = false := by simpa using n0
      by_cases n2 : k = 2
      · have f2 : (k == 2) = true := by simpa using n2
        have N2 := hid n2
        clear n2 n0
        by_cases s1 : stp = 1
        · have f5 : (stp == 1) = true := by simpa using s1
          have S1 := hid s1
          clear s1
          have HX : Hid (rightH k idx len stp bnd true lnk siz = true) := hid (decide_eq_true (⟨H0.out, H1.out, H2.out, H3.out, H4.out, H5.out, (fun _ => L1.out), (fun _ => N2.out), (fun h => absurd S1.out h)⟩))
          go_enter Tryz.func72, Tryz.ntmps72
          go_wp2_with fail
          go_ret
          exact ⟨ret_bool HX.out.symm, hb⟩
        have f5 : (stp == 1) = false := by simpa using s1
        by_cases s3 : k = 3
        · have f3 : (k != 3) = false := by simpa using s3
          have S3 := hid s3
          have S1 := hid s1
          clear s3 s1
          have HX : Hid (rightH k idx len stp bnd true lnk siz = false) := hid (decide_eq_false (fun h => h.2.2.2.2.2.2.2.2 S1.out S3.out))
          go_enter Tryz.func72, Tryz.ntmps72
          go_wp2_with fail
          go_ret
          exact ⟨ret_bool HX.out.symm, hb⟩
        · have f3 : (k != 3) = true := by simpa using s3
          have S3 := hid s3
          clear s3 s1
          have HX : Hid (rightH k idx len stp bnd true lnk siz = true) := hid (decide_eq_true (⟨H0.out, H1.out, H2.out, H3.out, H4.out, H5.out, (fun _ => L1.out), (fun _ => N2.out), (fun _ => S3.out)⟩))
          go_enter Tryz.func72, Tryz.ntmps72
          go_wp2_with fail
          go_ret
          exact ⟨ret_bool HX.out.symm, hb⟩
      · have f2 : (k == 2) = false := by simpa using n2
        have N2 := hid n2
        have N0 := hid n0
        clear n2 n0
        have HX : Hid (rightH k idx len stp bnd true lnk siz = false) := hid (decide_eq_false (fun h => N2.out (h.2.2.2.2.2.2.2.1 N0.out)))
        go_enter Tryz.func72, Tryz.ntmps72
        go_wp2_with fail
        go_ret
        exact ⟨ret_bool HX.out.symm, hb⟩
    · have f1 : (k == 1) = false := by simpa using l1
      have L1 := hid l1
      clear l1
      have HX : Hid (rightH k idx len stp bnd true lnk siz = false) := hid (decide_eq_false (fun h => L1.out (h.2.2.2.2.2.2.1 rfl)))
      go_enter Tryz.func72, Tryz.ntmps72
      go_wp2_with fail
      go_ret
      exact ⟨ret_bool HX.out.symm, hb⟩
end Go.Proofs.YtkmhmehofipehaaGreatDoor
/- The reference's value of a field's bytes. -/
namespace Go.Proofs.YtkmhmehofipehaaGreatDoor
set_option linter.unusedVariables false
open Go.RowKit
theorem valLE_cons (b : UInt8) (l : List UInt8) : valLE (b :: l) = b.toNat + 256 * valLE l := rfl
theorem valLE_drop (l : List UInt8) (k : Nat) (h : k < l.length) : valLE (l.drop k) = l[k].toNat + 256 * valLE (l.drop (k + 1)) := by
  rw [List.drop_eq_getElem_cons h, valLE_cons]
set_option maxHeartbeats 1000000 in
theorem rvalue_any (A : Option Addr) (c : Nat) (l : List UInt8) (w : World) (hl : SeesB w A l) (hlen : l.length ≤ 8) :
    Calls Tryz.prog 36 #[.slice A l.length c] w fun e w' => e = .returned (.int .u64 (valLE l : Nat)) ∧ w = w' := by
  go_enter Tryz.func36, Tryz.ntmps36
  go_wp2_with fail
  go_loop [3, 4] (fun v i => ∃ k : Nat, k ≤ l.length ∧ i = .int .i64 ((k : Int) - 1) ∧ v = .int .u64 (valLE (l.drop k) : Nat)) (fun _ i => (intOf i + 1).toNat)
  case atStart => exact ⟨l.length, Nat.le_refl _, by simp; try omega, by simp [valLE]⟩
  case round =>
    obtain ⟨k, hk, rfl, rfl⟩ := hrel
    by_cases h0 : k = 0
    · subst h0
      rw [List.drop_zero, show ((0 : Nat) : Int) - 1 = -1 from rfl]
      go_wp2_with fail
      go_ret
      exact ⟨rfl, rfl⟩
    · obtain ⟨j, hj⟩ : ∃ j, k = j + 1 := ⟨k - 1, by omega⟩
      subst hj
      have hjl : j < l.length := by omega
      obtain ⟨a, rfl, hc⟩ := hl.at hjl
      have hbl := byte_lt l[j]
      have hb0 : 0 ≤ (l[j].toNat : Int) := by omega
      have hvl := valLE_lt (l.drop (j + 1))
      have hdl : (l.drop (j + 1)).length ≤ 7 := by simp; omega
      have hp := Nat.pow_le_pow_right (show 0 < 256 by omega) hdl
      have HV := hid (valLE_drop l j hjl)
      generalize valLE (l.drop (j + 1)) = V at *
      have hV : V < 72057594037927936 := by omega
      have e1 : ((j + 1 : Nat) : Int) - 1 = (j : Int) := by omega
      rw [e1]
      have hd : decide (0 ≤ (j : Int)) = true := by simp
      clear hvl hp e1 h0
      go_wp2_with fail
      refine ⟨⟨j, by omega, rfl, ?_⟩, ?_⟩
      · rw [HV.out, show ((l[j].toNat + 256 * V : Nat) : Int) = 256 * (V : Int) + l[j].toNat by omega]
      · show ((j : Int) - 1 + 1).toNat < ((j : Int) + 1).toNat
        omega
end Go.Proofs.YtkmhmehofipehaaGreatDoor
/- A head read: the reference's At and Get. -/
namespace Go.Proofs.YtkmhmehofipehaaGreatDoor
set_option linter.unusedVariables false
open Go.RowKit
set_option maxHeartbeats 2000000 in
theorem hrat_any (a : Addr) (c : Nat) (l : List UInt8) (k : Nat) (w : World) (hl : SeesB w (some a) l) (hk : k + 4 ≤ l.length) (hc : l.length ≤ c) (hcm : c ≤ maxLen) :
    Calls Tryz.prog 42 #[.slice (some a) l.length c, .int .i64 k] w fun e w' => e = .returned (.int .i64 (fldH l k 4 : Nat)) ∧ w = w' := by
  have hcut : SeesB w (some (a.add k)) ((l.drop k).take 4) := hl.cutTo k 4
  have h4 : ((l.drop k).take 4).length = 4 := by simp; omega
  have hv := rvalue_any (some (a.add k)) (c - k) ((l.drop k).take 4) w hcut (by omega)
  rw [h4, show valLE ((l.drop k).take 4) = fldH l k 4 from rfl] at hv
  have v : fldH l k 4 < 4294967296 := fldH_lt l k 4
  generalize fldH l k 4 = y at *
  have HV := hid hv
  have g1 : (k : Int) + 4 ≤ c := by omega
  have g2 : ¬ c = k := by omega
  have g3 : (k : Int) + 4 ≤ l.length := by omega
  have g4 : (l.length : Int) ≤ c := by omega
  have g5 : (k : Int) ≤ (k : Int) + 4 := by omega
  have hcm' : (c : Int) ≤ 9223372036854775807 := by unfold maxLen at hcm; omega
  clear hcut h4 hv
  go_enter Tryz.func42, Tryz.ntmps42
  go_wp2_with fail
  simp only [show k + 4 - k = 4 by omega]
  refine HV.out.mono ?_
  rintro e w1 ⟨rfl, rfl⟩
  go_wp2_with fail
  go_ret
  exact ⟨rfl, rfl⟩
set_option maxHeartbeats 2000000 in
theorem hrget_sync0 (A : Option Addr) (c : Nat) (l : List UInt8) (w : World) (hl : SeesB w A l) (h0 : 0 < l.length) (hx : ((l[0].toNat : Int) != 222) = true) :
    Calls Tryz.prog 41 #[.slice A l.length c] w (GetHPost w (30, HeadV.zero)) := by
  have hb : Below w.heap.size w (w.alloc (.cells #[.int .i64 0, .int .i64 0, .int .i64 0, .int .i64 0, .int .i64 0, .bool false, .int .u32 0, .int .i64 0] 67)) := (Below.refl _ w).alloc (Nat.le_refl _) _
  have hrow := heap_alloc_new w (.cells #[.int .i64 0, .int .i64 0, .int .i64 0, .int .i64 0, .int .i64 0, .bool false, .int .u32 0, .int .i64 0] 67)
  obtain ⟨a, rfl, _⟩ := hl.at (show 0 < l.length by omega)
  obtain ⟨a0, ha0, b0⟩ := (hl.below hb).at (show 0 < l.length by omega)
  injection ha0 with ha0
  subst ha0
  have q0 : (w.alloc (.cells #[.int .i64 0, .int .i64 0, .int .i64 0, .int .i64 0, .int .i64 0, .bool false, .int .u32 0, .int .i64 0] 67)).cell? a = some (.int .u8 (l[0].toNat : Int)) := b0
  clear b0
  have d0 : decide (0 < (l.length : Int)) = true := by simp; omega
  have d0' : (0 : Int) < (l.length : Int) := by omega
  go_enter Tryz.func41, Tryz.ntmps41
  go_wp2_with first | (refine wpList_store_row rfl 67 (.tmp 2) (.tmp 25) rfl rfl w.heap.size rfl #[.int .i64 0, .int .i64 0, .int .i64 0, .int .i64 0, .int .i64 0, .bool false, .int .u32 0, .int .i64 0] rfl 67 #[.int .i64 0, .int .i64 0, .int .i64 0, .int .i64 0, .int .i64 0, .bool false, .int .u32 0, .int .i64 0] hrow (by kernel_rfl) rfl (by simp [Value.oneCell']) ?_)
  exact bodyPost_ret (v := .tuple #[.agg #[.int .i64 0, .int .i64 0, .int .i64 0, .int .i64 0, .int .i64 0, .bool false, .int .u32 0, .int .i64 0], .int .i64 30]) (results_row_tmp (fn := Tryz.f41) (p := 2) (u := 3) (ty := 67) rfl _ _ w.heap.size _ _ _ _ rfl (setRow_heap _ _ _ _ _ _ hrow) Tryz.underlying67 rfl (by kernel_rfl)) rfl ⟨rfl, below_setRow hb (Nat.le_refl _) _⟩
set_option maxHeartbeats 2000000 in
theorem hrget_sync1 (A : Option Addr) (c : Nat) (l : List UInt8) (w : World) (hl : SeesB w A l) (h0 : 1 < l.length) (hx : ((l[0].toNat : Int) != 222) = false) (hy : ((l[1].toNat : Int) != 92) = true) :
    Calls Tryz.prog 41 #[.slice A l.length c] w (GetHPost w (30, HeadV.zero)) := by
  have hb : Below w.heap.size w (w.alloc (.cells #[.int .i64 0, .int .i64 0, .int .i64 0, .int .i64 0, .int .i64 0, .bool false, .int .u32 0, .int .i64 0] 67)) := (Below.refl _ w).alloc (Nat.le_refl _) _
  have hrow := heap_alloc_new w (.cells #[.int .i64 0, .int .i64 0, .int .i64 0, .int .i64 0, .int .i64 0, .bool false, .int .u32 0, .int .i64 0] 67)
  obtain ⟨a, rfl, _⟩ := hl.at (show 0 < l.length by omega)
  obtain ⟨a0, ha0, b0⟩ := (hl.below hb).at (show 0 < l.length by omega)
  injection ha0 with ha0
  subst ha0
  have q0 : (w.alloc (.cells #[.int .i64 0, .int .i64 0, .int .i64 0, .int .i64 0, .int .i64 0, .bool false, .int .u32 0, .int .i64 0] 67)).cell? a = some (.int .u8 (l[0].toNat : Int)) := b0
  clear b0
  obtain ⟨a1, ha1, b1⟩ := (hl.below hb).at (show 1 < l.length by omega)
  injection ha1 with ha1
  subst ha1
  have q1 : (w.alloc (.cells #[.int .i64 0, .int .i64 0, .int .i64 0, .int .i64 0, .int .i64 0, .bool false, .int .u32 0, .int .i64 0] 67)).cell? { block := a.block, off := a.off + 1 } = some (.int .u8 (l[1].toNat : Int)) := b1
  clear b1
  have d0 : decide (0 < (l.length : Int)) = true := by simp; omega
  have d0' : (0 : Int) < (l.length : Int) := by omega
  have d1 : decide (1 < (l.length : Int)) = true := by simp; omega
  have d1' : (1 : Int) < (l.length : Int) := by omega
  go_enter Tryz.func41, Tryz.ntmps41
  go_wp2_with first | (refine wpList_store_row rfl 67 (.tmp 2) (.tmp 25) rfl rfl w.heap.size rfl #[.int .i64 0, .int .i64 0, .int .i64 0, .int .i64 0, .int .i64 0, .bool false, .int .u32 0, .int .i64 0] rfl 67 #[.int .i64 0, .int .i64 0, .int .i64 0, .int .i64 0, .int .i64 0, .bool false, .int .u32 0, .int .i64 0] hrow (by kernel_rfl) rfl (by simp [Value.oneCell']) ?_)
  exact bodyPost_ret (v := .tuple #[.agg #[.int .i64 0, .int .i64 0, .int .i64 0, .int .i64 0, .int .i64 0, .bool false, .int .u32 0, .int .i64 0], .int .i64 30]) (results_row_tmp (fn := Tryz.f41) (p := 2) (u := 3) (ty := 67) rfl _ _ w.heap.size _ _ _ _ rfl (setRow_heap _ _ _ _ _ _ hrow) Tryz.underlying67 rfl (by kernel_rfl)) rfl ⟨rfl, below_setRow hb (Nat.le_refl _) _⟩
set_option maxHeartbeats 2000000 in
theorem hrget_end0 (A : Option Addr) (c : Nat) (l : List UInt8) (w : World) (hl : SeesB w A l) (h0 : l.length = 0) :
    Calls Tryz.prog 41 #[.slice A l.length c] w (GetHPost w (10, HeadV.zero)) := by
  have hb : Below w.heap.size w (w.alloc (.cells #[.int .i64 0, .int .i64 0, .int .i64 0, .int .i64 0, .int .i64 0, .bool false, .int .u32 0, .int .i64 0] 67)) := (Below.refl _ w).alloc (Nat.le_refl _) _
  have hrow := heap_alloc_new w (.cells #[.int .i64 0, .int .i64 0, .int .i64 0, .int .i64 0, .int .i64 0, .bool false, .int .u32 0, .int .i64 0] 67)
  obtain rfl : l = [] := List.length_eq_zero_iff.1 h0
  clear h0 hl
  rw [List.length_nil]
  go_enter Tryz.func41, Tryz.ntmps41
  go_wp2_with first | (refine wpList_store_row rfl 67 (.tmp 2) (.tmp 29) rfl rfl w.heap.size rfl #[.int .i64 0, .int .i64 0, .int .i64 0, .int .i64 0, .int .i64 0, .bool false, .int .u32 0, .int .i64 0] rfl 67 #[.int .i64 0, .int .i64 0, .int .i64 0, .int .i64 0, .int .i64 0, .bool false, .int .u32 0, .int .i64 0] hrow (by kernel_rfl) rfl (by simp [Value.oneCell']) ?_)
  exact bodyPost_ret (v := .tuple #[.agg #[.int .i64 0, .int .i64 0, .int .i64 0, .int .i64 0, .int .i64 0, .bool false, .int .u32 0, .int .i64 0], .int .i64 10]) (results_row_tmp (fn := Tryz.f41) (p := 2) (u := 3) (ty := 67) rfl _ _ w.heap.size _ _ _ _ rfl (setRow_heap _ _ _ _ _ _ hrow) Tryz.underlying67 rfl (by kernel_rfl)) rfl ⟨rfl, below_setRow hb (Nat.le_refl _) _⟩
set_option maxHeartbeats 2000000 in
theorem hrget_end1 (A : Option Addr) (c : Nat) (l : List UInt8) (w : World) (hl : SeesB w A l) (h0 : 0 < l.length) (h1 : ¬ 1 < l.length) (hx : ((l[0].toNat : Int) != 222) = false) :
    Calls Tryz.prog 41 #[.slice A l.length c] w (GetHPost w (10, HeadV.zero)) := by
  have hb : Below w.heap.size w (w.alloc (.cells #[.int .i64 0, .int .i64 0, .int .i64 0, .int .i64 0, .int .i64 0, .bool false, .int .u32 0, .int .i64 0] 67)) := (Below.refl _ w).alloc (Nat.le_refl _) _
  have hrow := heap_alloc_new w (.cells #[.int .i64 0, .int .i64 0, .int .i64 0, .int .i64 0, .int .i64 0, .bool false, .int .u32 0, .int .i64 0] 67)
  obtain ⟨a, rfl, _⟩ := hl.at (show 0 < l.length by omega)
  obtain ⟨a0, ha0, b0⟩ := (hl.below hb).at (show 0 < l.length by omega)
  injection ha0 with ha0
  subst ha0
  have q0 : (w.alloc (.cells #[.int .i64 0, .int .i64 0, .int .i64 0, .int .i64 0, .int .i64 0, .bool false, .int .u32 0, .int .i64 0] 67)).cell? a = some (.int .u8 (l[0].toNat : Int)) := b0
  clear b0
  have d0 : decide (0 < (l.length : Int)) = true := by simp; omega
  have d0' : (0 : Int) < (l.length : Int) := by omega
  have d1 : decide (1 < (l.length : Int)) = false := by simp; omega
  have d2 : decide ((l.length : Int) < 32) = true := by simp; omega
  go_enter Tryz.func41, Tryz.ntmps41
  go_wp2_with first | (refine wpList_store_row rfl 67 (.tmp 2) (.tmp 29) rfl rfl w.heap.size rfl #[.int .i64 0, .int .i64 0, .int .i64 0, .int .i64 0, .int .i64 0, .bool false, .int .u32 0, .int .i64 0] rfl 67 #[.int .i64 0, .int .i64 0, .int .i64 0, .int .i64 0, .int .i64 0, .bool false, .int .u32 0, .int .i64 0] hrow (by kernel_rfl) rfl (by simp [Value.oneCell']) ?_)
  exact bodyPost_ret (v := .tuple #[.agg #[.int .i64 0, .int .i64 0, .int .i64 0, .int .i64 0, .int .i64 0, .bool false, .int .u32 0, .int .i64 0], .int .i64 10]) (results_row_tmp (fn := Tryz.f41) (p := 2) (u := 3) (ty := 67) rfl _ _ w.heap.size _ _ _ _ rfl (setRow_heap _ _ _ _ _ _ hrow) Tryz.underlying67 rfl (by kernel_rfl)) rfl ⟨rfl, below_setRow hb (Nat.le_refl _) _⟩
set_option maxHeartbeats 2000000 in
theorem hrget_end2 (A : Option Addr) (c : Nat) (l : List UInt8) (w : World) (hl : SeesB w A l) (h1 : 1 < l.length) (hx : ((l[0].toNat : Int) != 222) = false) (hy : ((l[1].toNat : Int) != 92) = false) (hn : l.length < 32) :
    Calls Tryz.prog 41 #[.slice A l.length c] w (GetHPost w (10, HeadV.zero)) := by
  have hb : Below w.heap.size w (w.alloc (.cells #[.int .i64 0, .int .i64 0, .int .i64 0, .int .i64 0, .int .i64 0, .bool false, .int .u32 0, .int .i64 0] 67)) := (Below.refl _ w).alloc (Nat.le_refl _) _
  have hrow := heap_alloc_new w (.cells #[.int .i64 0, .int .i64 0, .int .i64 0, .int .i64 0, .int .i64 0, .bool false, .int .u32 0, .int .i64 0] 67)
  obtain ⟨a, rfl, _⟩ := hl.at (show 0 < l.length by omega)
  obtain ⟨a0, ha0, b0⟩ := (hl.below hb).at (show 0 < l.length by omega)
  injection ha0 with ha0
  subst ha0
  have q0 : (w.alloc (.cells #[.int .i64 0, .int .i64 0, .int .i64 0, .int .i64 0, .int .i64 0, .bool false, .int .u32 0, .int .i64 0] 67)).cell? a = some (.int .u8 (l[0].toNat : Int)) := b0
  clear b0
  obtain ⟨a1, ha1, b1⟩ := (hl.below hb).at (show 1 < l.length by omega)
  injection ha1 with ha1
  subst ha1
  have q1 : (w.alloc (.cells #[.int .i64 0, .int .i64 0, .int .i64 0, .int .i64 0, .int .i64 0, .bool false, .int .u32 0, .int .i64 0] 67)).cell? { block := a.block, off := a.off + 1 } = some (.int .u8 (l[1].toNat : Int)) := b1
  clear b1
  have d0 : decide (0 < (l.length : Int)) = true := by simp; omega
  have d0' : (0 : Int) < (l.length : Int) := by omega
  have d1 : decide (1 < (l.length : Int)) = true := by simp; omega
  have d1' : (1 : Int) < (l.length : Int) := by omega
  have d2 : decide ((l.length : Int) < 32) = true := by simp; omega
  go_enter Tryz.func41, Tryz.ntmps41
  go_wp2_with first | (refine wpList_store_row rfl 67 (.tmp 2) (.tmp 29) rfl rfl w.heap.size rfl #[.int .i64 0, .int .i64 0, .int .i64 0, .int .i64 0, .int .i64 0, .bool false, .int .u32 0, .int .i64 0] rfl 67 #[.int .i64 0, .int .i64 0, .int .i64 0, .int .i64 0, .int .i64 0, .bool false, .int .u32 0, .int .i64 0] hrow (by kernel_rfl) rfl (by simp [Value.oneCell']) ?_)
  exact bodyPost_ret (v := .tuple #[.agg #[.int .i64 0, .int .i64 0, .int .i64 0, .int .i64 0, .int .i64 0, .bool false, .int .u32 0, .int .i64 0], .int .i64 10]) (results_row_tmp (fn := Tryz.f41) (p := 2) (u := 3) (ty := 67) rfl _ _ w.heap.size _ _ _ _ rfl (setRow_heap _ _ _ _ _ _ hrow) Tryz.underlying67 rfl (by kernel_rfl)) rfl ⟨rfl, below_setRow hb (Nat.le_refl _) _⟩
end Go.Proofs.YtkmhmehofipehaaGreatDoor
/- A head read: the reference's Get, where the bytes are enough. -/
namespace Go.Proofs.YtkmhmehofipehaaGreatDoor
set_option linter.unusedVariables false
open Go.RowKit
/-- the worlds of the region that makes the head: 0 ahead of the cell, 1 with it, 2 with the values -/
def RefS (w : World) (g : Nat) (new : Array Value) (b : Nat) (w' : World) : Prop :=
  Below w.heap.size w w' ∧ w'.heap[w.heap.size]? = some (.cells #[.int .i64 0, .int .i64 0, .int .i64 0, .int .i64 0, .int .i64 0, .bool false, .int .u32 0, .int .i64 0] 67 (0, 0)) ∧ w.heap.size < g ∧ (b = 0 → w'.heap.size = g) ∧ (b = 1 → w'.heap[g]? = some (.cells #[.int .i64 0, .int .i64 0, .int .i64 0, .int .i64 0, .int .i64 0, .bool false, .int .u32 0, .int .i64 0] 67 (0, 0))) ∧ (b = 2 → w'.heap[g]? = some (.cells new 67 (0, 0)))
theorem RefS.alloc {w w' : World} {g : Nat} {new : Array Value} (h : RefS w g new 0 w') : RefS w g new 1 (w'.alloc (.cells #[.int .i64 0, .int .i64 0, .int .i64 0, .int .i64 0, .int .i64 0, .bool false, .int .u32 0, .int .i64 0] 67)) := by
  obtain ⟨h1, h2, h3, h4, _⟩ := h
  have hb : Below w'.heap.size w' (w'.alloc (.cells #[.int .i64 0, .int .i64 0, .int .i64 0, .int .i64 0, .int .i64 0, .bool false, .int .u32 0, .int .i64 0] 67)) := (Below.refl _ _).alloc (Nat.le_refl _) _
  exact ⟨h1.trans (hb.mono h1.size), (hb.block _ (Array.getElem?_eq_some_iff.1 h2).1).trans h2, h3, fun h => by omega, fun _ => by rw [← h4 rfl]; exact heap_alloc_new _ _, fun h => by omega⟩
theorem RefS.store {w w' : World} {g : Nat} {new : Array Value} (h : RefS w g new 1 w') : RefS w g new 2 (w'.setRow g new) := by
  obtain ⟨h1, h2, h3, _, h5, _⟩ := h
  exact ⟨below_setRow h1 (Nat.le_of_lt h3) new, (setRow_other w' g w.heap.size new (by omega)).trans h2, h3, fun h => by omega, fun h => by omega, fun _ => setRow_heap w' g _ new _ _ (h5 rfl)⟩
set_option maxRecDepth 40000 in
set_option maxHeartbeats 8000000 in
theorem hrget_long (A : Option Addr) (c : Nat) (l : List UInt8) (w : World) (hl : SeesB w A l) (hc : l.length ≤ c) (hcm : c ≤ maxLen) (hlen : l.length ≤ 140737488355328) (hn : 32 ≤ l.length) (hx : ((l[0].toNat : Int) != 222) = false) (hy : ((l[1].toNat : Int) != 92) = false) (hs : startsH l = true) :
    Calls Tryz.prog 41 #[.slice A l.length c] w (GetHPost w (getH l)) := by
  obtain ⟨R, hR⟩ : ∃ R, R = getH l := ⟨_, rfl⟩
  rw [← hR]
  have HR := hid hR
  have HST := hid hs
  clear hR hs
  have hb : Below w.heap.size w (w.alloc (.cells #[.int .i64 0, .int .i64 0, .int .i64 0, .int .i64 0, .int .i64 0, .bool false, .int .u32 0, .int .i64 0] 67)) := (Below.refl _ w).alloc (Nat.le_refl _) _
  have hrow := heap_alloc_new w (.cells #[.int .i64 0, .int .i64 0, .int .i64 0, .int .i64 0, .int .i64 0, .bool false, .int .u32 0, .int .i64 0] 67)
  obtain ⟨a, rfl, _⟩ := hl.at (show 0 < l.length by omega)
  obtain ⟨a0, ha0, b0⟩ := (hl.below hb).at (show 0 < l.length by omega)
  injection ha0 with ha0
  subst ha0
  have q0 : (w.alloc (.cells #[.int .i64 0, .int .i64 0, .int .i64 0, .int .i64 0, .int .i64 0, .bool false, .int .u32 0, .int .i64 0] 67)).cell? a = some (.int .u8 (l[0].toNat : Int)) := b0
  clear b0
  obtain ⟨a1, ha1, b1⟩ := (hl.below hb).at (show 1 < l.length by omega)
  injection ha1 with ha1
  subst ha1
  have q1 : (w.alloc (.cells #[.int .i64 0, .int .i64 0, .int .i64 0, .int .i64 0, .int .i64 0, .bool false, .int .u32 0, .int .i64 0] 67)).cell? { block := a.block, off := a.off + 1 } = some (.int .u8 (l[1].toNat : Int)) := b1
  clear b1
  have d0 : decide (0 < (l.length : Int)) = true := by simp; omega
  have d0' : (0 : Int) < (l.length : Int) := by omega
  have d1 : decide (1 < (l.length : Int)) = true := by simp; omega
  have d1' : (1 : Int) < (l.length : Int) := by omega
  have d2 : decide ((l.length : Int) < 32) = false := by simp; omega
  have g1 : (28 : Int) ≤ c := by omega
  have g2 : ¬ c = 28 := by omega
  have g3 : (28 : Int) ≤ l.length := by omega
  have g4 : (l.length : Int) ≤ c := by omega
  have h28 : (l.take 28).length = 28 := by rw [List.length_take]; omega
  have hsr := sumI_range (l.take 28)
  obtain ⟨S, hS⟩ := Int.eq_ofNat_of_zero_le hsr.1
  have hsum := fun W (hl : SeesB W (some a) (l.take 28)) => rsum_any (some a) c (l.take 28) W hl (by omega)
  rw [h28, hS] at hsum
  rw [hS] at hsr
  have hS4 : S < 4294967296 := by omega
  have HSUM := hid hsum
  have HS := hid hS
  have hmid : Hid (∀ b, okH l = b → S = fldH l 28 4 → R = if b = false then (32, HeadV.zero) else (0, saidH l)) := hid (fun b hb h28 => by
    rw [HR.out]
    unfold getH
    rw [if_neg (by rw [HST.out]; simp), if_neg (by omega), if_neg (by rw [HS.out, h28]; simp), hb])
  have hmid2 : Hid (S ≠ fldH l 28 4 → R = (33, HeadV.zero)) := hid (fun h28 => by
    rw [HR.out]
    unfold getH
    rw [if_neg (by rw [HST.out]; simp), if_neg (by omega), if_pos (by rw [HS.out]; omega)])
  unfold saidH at hmid
  have e2 : (l[2].toNat : Int) = (fldH l 2 1 : Nat) := by unfold fldH; rw [List.drop_eq_getElem_cons (by omega), List.take_succ_cons]; simp [valLE]
  have e3 : (l[3].toNat : Int) = (fldH l 3 1 : Nat) := by unfold fldH; rw [List.drop_eq_getElem_cons (by omega), List.take_succ_cons]; simp [valLE]
  have v2 : fldH l 2 1 < 256 := fldH_lt l 2 1
  have v3 : fldH l 3 1 < 256 := fldH_lt l 3 1
  have v4 : fldH l 4 4 < 4294967296 := fldH_lt l 4 4
  have v8 : fldH l 8 4 < 4294967296 := fldH_lt l 8 4
  have v12 : fldH l 12 4 < 4294967296 := fldH_lt l 12 4
  have v16 : fldH l 16 4 < 4294967296 := fldH_lt l 16 4
  have v20 : fldH l 20 4 < 4294967296 := fldH_lt l 20 4
  have v24 : fldH l 24 4 < 4294967296 := fldH_lt l 24 4
  have v28 : fldH l 28 4 < 4294967296 := fldH_lt l 28 4
  have hok : okH l = (decide (fldH l 3 1 ≤ 1) && rightH (fldH l 2 1 : Nat) (fldH l 4 4 : Nat) (fldH l 8 4 : Nat) (fldH l 12 4 : Nat) (fldH l 16 4 : Nat) (fldH l 3 1 == 1) (fldH l 20 4 : Nat) (fldH l 24 4 : Nat)) := rfl
  have HAT28 : Hid (∀ W, SeesB W (some a) l → Calls Tryz.prog 42 #[.slice (some a) l.length c, .int .i64 28] W fun e w2 => e = .returned (.int .i64 (fldH l 28 4 : Nat)) ∧ W = w2) := hid (fun W hl => hrat_any a c l 28 W hl (by omega) hc hcm)
  have HAT4 : Hid (∀ W, SeesB W (some a) l → Calls Tryz.prog 42 #[.slice (some a) l.length c, .int .i64 4] W fun e w2 => e = .returned (.int .i64 (fldH l 4 4 : Nat)) ∧ W = w2) := hid (fun W hl => hrat_any a c l 4 W hl (by omega) hc hcm)
  have HAT8 : Hid (∀ W, SeesB W (some a) l → Calls Tryz.prog 42 #[.slice (some a) l.length c, .int .i64 8] W fun e w2 => e = .returned (.int .i64 (fldH l 8 4 : Nat)) ∧ W = w2) := hid (fun W hl => hrat_any a c l 8 W hl (by omega) hc hcm)
  have HAT12 : Hid (∀ W, SeesB W (some a) l → Calls Tryz.prog 42 #[.slice (some a) l.length c, .int .i64 12] W fun e w2 => e = .returned (.int .i64 (fldH l 12 4 : Nat)) ∧ W = w2) := hid (fun W hl => hrat_any a c l 12 W hl (by omega) hc hcm)
  have HAT16 : Hid (∀ W, SeesB W (some a) l → Calls Tryz.prog 42 #[.slice (some a) l.length c, .int .i64 16] W fun e w2 => e = .returned (.int .i64 (fldH l 16 4 : Nat)) ∧ W = w2) := hid (fun W hl => hrat_any a c l 16 W hl (by omega) hc hcm)
  have HAT20 : Hid (∀ W, SeesB W (some a) l → Calls Tryz.prog 42 #[.slice (some a) l.length c, .int .i64 20] W fun e w2 => e = .returned (.int .i64 (fldH l 20 4 : Nat)) ∧ W = w2) := hid (fun W hl => hrat_any a c l 20 W hl (by omega) hc hcm)
  have HAT24 : Hid (∀ W, SeesB W (some a) l → Calls Tryz.prog 42 #[.slice (some a) l.length c, .int .i64 24] W fun e w2 => e = .returned (.int .i64 (fldH l 24 4 : Nat)) ∧ W = w2) := hid (fun W hl => hrat_any a c l 24 W hl (by omega) hc hcm)
  generalize fldH l 2 1 = f0 at *
  generalize fldH l 3 1 = L at *
  generalize fldH l 28 4 = su at *
  generalize fldH l 4 4 = f1 at *
  generalize fldH l 8 4 = f2 at *
  generalize fldH l 12 4 = f3 at *
  generalize fldH l 16 4 = f4 at *
  generalize fldH l 20 4 = f6 at *
  generalize fldH l 24 4 = f7 at *
  obtain ⟨lst, hlst⟩ : ∃ b, b = (L == 1) := ⟨_, rfl⟩
  have el : ((L : Int) == 1) = lst := by rw [hlst, Bool.eq_iff_iff]; simp; omega
  rw [← hlst] at hok hmid
  have HOK := hid hok
  clear hsum hS hsr h28 hlst hok HR HST
  go_enter Tryz.func41, Tryz.ntmps41
  go_upto_region 5 with (fail)
  generalize w.alloc (.cells #[.int .i64 0, .int .i64 0, .int .i64 0, .int .i64 0, .int .i64 0, .bool false, .int .u32 0, .int .i64 0] 67) = w0 at *
  have hlt0 : w.heap.size < w0.heap.size := (Array.getElem?_eq_some_iff.1 hrow).1
  have hlw := hl.below hb
  have hl28 : SeesB w0 (some a) (l.take 28) := by unfold SeesB; rw [List.map_take]; exact Sees.take hlw 28
  clear q0 q1 d0 d0' d1 d1' d2 hx hy
  by_cases heq : S = su
  · have dd : ((S : Int) != (su : Int)) = false := by rw [heq]; simp
    have HEQ := hid heq
    clear heq
    go_wp2_with (first | (go_at_call 35; refine (HSUM.out _ hl28).mono ?_; rintro e wb ⟨rfl, rfl⟩) | (go_at_call 42; refine (HAT28.out _ hlw).mono ?_; rintro e wb ⟨rfl, rfl⟩))
    have q2 : ∀ W, Below w.heap.size w W → W.cell? { block := a.block, off := a.off + 2 } = some (.int .u8 (f0 : Nat)) := fun W hW => by
      obtain ⟨x, hx, hc⟩ := (hl.below hW).at (show 2 < l.length by omega)
      injection hx with hx; subst hx
      rw [← e2]; exact hc
    have q3 : ∀ W, Below w.heap.size w W → W.cell? { block := a.block, off := a.off + 3 } = some (.int .u8 (L : Nat)) := fun W hW => by
      obtain ⟨x, hx, hc⟩ := (hl.below hW).at (show 3 < l.length by omega)
      injection hx with hx; subst hx
      rw [← e3]; exact hc
    have y2 : (2 : Int) < l.length := by omega
    have y3 : (3 : Int) < l.length := by omega
    have z0 : IntKind.i64.wrap (f0 : Int) = (f0 : Int) := by rw [IntKind.wrap_i64]; omega
    have z6 : IntKind.u32.wrap (f6 : Int) = (f6 : Int) := by rw [IntKind.wrap_u32]; omega
    clear hl28 dd HSUM HAT28 hS4 v2 v3 g1 g2 g3 g4 e2 e3 hlw
    refine wp_region_held3 (RefS w w0.heap.size #[.int .i64 (f0 : Nat), .int .i64 (f1 : Nat), .int .i64 (f2 : Nat), .int .i64 (f3 : Nat), .int .i64 (f4 : Nat), .bool lst, .int .u32 (f6 : Nat), .int .i64 (f7 : Nat)]) 22 23 (by decide) (by decide) (by decide) (by kernel_rfl) (by kernel_rfl) (by kernel_rfl) ⟨hb.drew, hrow, hlt0, fun _ => rfl, fun h => by omega, fun h => by omega⟩ ?_
    apply held3_yes (by rfl) (by decide)
    · intro b w' h
      go_simp
      first | exact rfl | exact ⟨rfl, h⟩
    (try simp only [Act.put, List.setIfInBounds_toArray, List.set_cons_zero, List.set_cons_succ])
    apply held3_yes (by rfl) (by decide)
    · intro b w' h
      go_simp
      first | exact rfl | exact ⟨rfl, h⟩
    (try simp only [Act.put, List.setIfInBounds_toArray, List.set_cons_zero, List.set_cons_succ])
    apply held3_yes (by rfl) (by decide)
    · intro b w' h
      have k2 := q2 w' h.1
      go_simp
      first | exact rfl | exact ⟨rfl, h⟩
    (try simp only [Act.put, List.setIfInBounds_toArray, List.set_cons_zero, List.set_cons_succ])
    apply held3_yes (by rfl) (by decide)
    · intro b w' h
      go_simp
      first | exact rfl | exact ⟨rfl, h⟩
    (try simp only [Act.put, List.setIfInBounds_toArray, List.set_cons_zero, List.set_cons_succ])
    apply held3_yes (by rfl) (by decide)
    · intro b w' h
      go_simp
      first | exact rfl | exact ⟨rfl, h⟩
    (try simp only [Act.put, List.setIfInBounds_toArray, List.set_cons_zero, List.set_cons_succ])
    apply held3_yes (v := .int .i64 (f1 : Nat)) (by rfl) (by decide)
    · intro b w' h
      have hlk := hl.below h.1
      go_simp
      exact (HAT4.out _ hlk).mono (fun e w'' ⟨he, hb⟩ => ⟨he, hb ▸ h⟩)
    (try simp only [Act.put, List.setIfInBounds_toArray, List.set_cons_zero, List.set_cons_succ])
    apply held3_yes (by rfl) (by decide)
    · intro b w' h
      go_simp
      first | exact rfl | exact ⟨rfl, h⟩
    (try simp only [Act.put, List.setIfInBounds_toArray, List.set_cons_zero, List.set_cons_succ])
    apply held3_yes (v := .int .i64 (f2 : Nat)) (by rfl) (by decide)
    · intro b w' h
      have hlk := hl.below h.1
      go_simp
      exact (HAT8.out _ hlk).mono (fun e w'' ⟨he, hb⟩ => ⟨he, hb ▸ h⟩)
    (try simp only [Act.put, List.setIfInBounds_toArray, List.set_cons_zero, List.set_cons_succ])
    apply held3_yes (by rfl) (by decide)
    · intro b w' h
      go_simp
      first | exact rfl | exact ⟨rfl, h⟩
    (try simp only [Act.put, List.setIfInBounds_toArray, List.set_cons_zero, List.set_cons_succ])
    apply held3_yes (v := .int .i64 (f3 : Nat)) (by rfl) (by decide)
    · intro b w' h
      have hlk := hl.below h.1
      go_simp
      exact (HAT12.out _ hlk).mono (fun e w'' ⟨he, hb⟩ => ⟨he, hb ▸ h⟩)
    (try simp only [Act.put, List.setIfInBounds_toArray, List.set_cons_zero, List.set_cons_succ])
    apply held3_yes (by rfl) (by decide)
    · intro b w' h
      go_simp
      first | exact rfl | exact ⟨rfl, h⟩
    (try simp only [Act.put, List.setIfInBounds_toArray, List.set_cons_zero, List.set_cons_succ])
    apply held3_yes (v := .int .i64 (f4 : Nat)) (by rfl) (by decide)
    · intro b w' h
      have hlk := hl.below h.1
      go_simp
      exact (HAT16.out _ hlk).mono (fun e w'' ⟨he, hb⟩ => ⟨he, hb ▸ h⟩)
    (try simp only [Act.put, List.setIfInBounds_toArray, List.set_cons_zero, List.set_cons_succ])
    apply held3_yes (by rfl) (by decide)
    · intro b w' h
      go_simp
      first | exact rfl | exact ⟨rfl, h⟩
    (try simp only [Act.put, List.setIfInBounds_toArray, List.set_cons_zero, List.set_cons_succ])
    apply held3_yes (by rfl) (by decide)
    · intro b w' h
      go_simp
      first | exact rfl | exact ⟨rfl, h⟩
    (try simp only [Act.put, List.setIfInBounds_toArray, List.set_cons_zero, List.set_cons_succ])
    apply held3_yes (by rfl) (by decide)
    · intro b w' h
      have k3 := q3 w' h.1
      go_simp
      first | exact rfl | exact ⟨rfl, h⟩
    (try simp only [Act.put, List.setIfInBounds_toArray, List.set_cons_zero, List.set_cons_succ])
    apply held3_yes (by rfl) (by decide)
    · intro b w' h
      go_simp
      first | exact rfl | exact ⟨rfl, h⟩
    (try simp only [Act.put, List.setIfInBounds_toArray, List.set_cons_zero, List.set_cons_succ])
    apply held3_yes (by rfl) (by decide)
    · intro b w' h
      go_simp
      first | exact rfl | exact ⟨rfl, h⟩
    (try simp only [Act.put, List.setIfInBounds_toArray, List.set_cons_zero, List.set_cons_succ])
    apply held3_yes (v := .int .i64 (f6 : Nat)) (by rfl) (by decide)
    · intro b w' h
      have hlk := hl.below h.1
      go_simp
      exact (HAT20.out _ hlk).mono (fun e w'' ⟨he, hb⟩ => ⟨he, hb ▸ h⟩)
    (try simp only [Act.put, List.setIfInBounds_toArray, List.set_cons_zero, List.set_cons_succ])
    apply held3_yes (by rfl) (by decide)
    · intro b w' h
      go_simp
      first | exact rfl | exact ⟨rfl, h⟩
    (try simp only [Act.put, List.setIfInBounds_toArray, List.set_cons_zero, List.set_cons_succ])
    apply held3_yes (by rfl) (by decide)
    · intro b w' h
      go_simp
      first | exact rfl | exact ⟨rfl, h⟩
    (try simp only [Act.put, List.setIfInBounds_toArray, List.set_cons_zero, List.set_cons_succ])
    apply held3_yes (v := .int .i64 (f7 : Nat)) (by rfl) (by decide)
    · intro b w' h
      have hlk := hl.below h.1
      go_simp
      exact (HAT24.out _ hlk).mono (fun e w'' ⟨he, hb⟩ => ⟨he, hb ▸ h⟩)
    (try simp only [Act.put, List.setIfInBounds_toArray, List.set_cons_zero, List.set_cons_succ])
    apply held3_yes (by rfl) (by decide)
    · intro b w' h
      go_simp
      first | exact rfl | exact ⟨rfl, h⟩
    (try simp only [Act.put, List.setIfInBounds_toArray, List.set_cons_zero, List.set_cons_succ])
    apply held3_at (v := .pointer (some ⟨w0.heap.size, 0, none⟩)) (by rfl) rfl
    · intro w' h
      have hz := h.2.2.2.1 rfl
      rw [← hz]
      go_simp
      first | exact ⟨rfl, by rw [hz]; exact h.alloc⟩ | exact h.alloc
    (try simp only [Act.put, List.setIfInBounds_toArray, List.set_cons_zero, List.set_cons_succ])
    refine held3_at2 (by rfl) rfl (fun w' h => held_store_row 67 _ _ rfl w0.heap.size (by rfl) _ (by rfl) _ _ (h.2.2.2.2.1 rfl) (by kernel_rfl) (by rfl) (by simp [Value.oneCell']) h.store) ?_
    (try simp only [Act.put])
    refine held3_nil ?_
    rintro w9 ⟨hbw9, hrow9, _, _, _, hr9⟩
    have hr := hr9 rfl
    have hlt9 : w.heap.size < w9.heap.size := (Array.getElem?_eq_some_iff.1 hrow9).1
    have k3 := q3 w9 hbw9
    clear hr9 q2 q3 hrow hb hl z0 z6
    generalize w0.heap.size = g at *
    have hRt := fun W => hrright_any (f0 : Nat) (f1 : Nat) (f2 : Nat) (f3 : Nat) (f4 : Nat) lst (f6 : Nat) (f7 : Nat) W
    by_cases h1 : L ≤ 1
    · have d1 : decide (1 < (L : Int)) = false := by simp; omega
      rw [decide_eq_true h1] at HOK
      generalize rightH (f0 : Nat) (f1 : Nat) (f2 : Nat) (f3 : Nat) (f4 : Nat) lst (f6 : Nat) (f7 : Nat) = rb at *
      have HRT := hid hRt
      clear hRt h1
      have k0 : w9.cell? ⟨g, 0, none⟩ = some (.int .i64 (f0 : Nat)) := by rw [cell_of_row _ _ _ _ _ _ hr]; rfl
      have k1 : w9.cell? ⟨g, 1, none⟩ = some (.int .i64 (f1 : Nat)) := by rw [cell_of_row _ _ _ _ _ _ hr]; rfl
      have k2 : w9.cell? ⟨g, 2, none⟩ = some (.int .i64 (f2 : Nat)) := by rw [cell_of_row _ _ _ _ _ _ hr]; rfl
      have k3' : w9.cell? ⟨g, 3, none⟩ = some (.int .i64 (f3 : Nat)) := by rw [cell_of_row _ _ _ _ _ _ hr]; rfl
      have k4 : w9.cell? ⟨g, 4, none⟩ = some (.int .i64 (f4 : Nat)) := by rw [cell_of_row _ _ _ _ _ _ hr]; rfl
      have k5 : w9.cell? ⟨g, 5, none⟩ = some (.bool lst) := by rw [cell_of_row _ _ _ _ _ _ hr]; rfl
      have k6 : w9.cell? ⟨g, 6, none⟩ = some (.int .u32 (f6 : Nat)) := by rw [cell_of_row _ _ _ _ _ _ hr]; rfl
      have k7 : w9.cell? ⟨g, 7, none⟩ = some (.int .i64 (f7 : Nat)) := by rw [cell_of_row _ _ _ _ _ _ hr]; rfl
      go_wp2_with fail
      clear k0 k1 k2 k3' k4 k5 k6 k7
      refine (HRT.out _).mono ?_
      rintro e w10 ⟨rfl, hb10⟩
      have hbw10 := hbw9.trans (hb10.mono hbw9.size)
      have hrow10 := (hb10.block w.heap.size hlt9).trans hrow9
      have hr10 := (hb10.block g (Array.getElem?_eq_some_iff.1 hr).1).trans hr
      cases rb with
      | false =>
        obtain rfl := by have := hmid.out false (by rw [HOK.out]; rfl) HEQ.out; rwa [if_pos rfl] at this
        clear hmid hmid2 HOK hr hrow9 hbw9 hb10
        go_wp2_with first | (refine wpList_store_row rfl 67 (.tmp 2) (.tmp 69) rfl rfl w.heap.size rfl #[.int .i64 0, .int .i64 0, .int .i64 0, .int .i64 0, .int .i64 0, .bool false, .int .u32 0, .int .i64 0] rfl 67 #[.int .i64 0, .int .i64 0, .int .i64 0, .int .i64 0, .int .i64 0, .bool false, .int .u32 0, .int .i64 0] hrow10 (by kernel_rfl) rfl (by simp [Value.oneCell']) ?_)
        exact bodyPost_ret (v := .tuple #[.agg #[.int .i64 0, .int .i64 0, .int .i64 0, .int .i64 0, .int .i64 0, .bool false, .int .u32 0, .int .i64 0], .int .i64 32]) (results_row_tmp (fn := Tryz.f41) (p := 2) (u := 3) (ty := 67) rfl _ _ w.heap.size _ _ _ _ rfl (setRow_heap _ _ _ _ _ _ hrow10) Tryz.underlying67 rfl (by kernel_rfl)) rfl ⟨rfl, below_setRow hbw10 (Nat.le_refl _) _⟩
      | true =>
        obtain rfl := by have := hmid.out true (by rw [HOK.out]; rfl) HEQ.out; rwa [if_neg (by simp)] at this
        clear hmid hmid2 HOK hr hrow9 hbw9 hb10
        go_wp2_with first | (refine wpList_load_row rfl 67 _ rfl g rfl 67 #[.int .i64 (f0 : Nat), .int .i64 (f1 : Nat), .int .i64 (f2 : Nat), .int .i64 (f3 : Nat), .int .i64 (f4 : Nat), .bool lst, .int .u32 (f6 : Nat), .int .i64 (f7 : Nat)] (0, 0) _ hr10 Tryz.underlying67 rfl (by kernel_rfl) ?_) | (refine wpList_store_row rfl 67 (.tmp 2) (.tmp 70) rfl rfl w.heap.size rfl #[.int .i64 (f0 : Nat), .int .i64 (f1 : Nat), .int .i64 (f2 : Nat), .int .i64 (f3 : Nat), .int .i64 (f4 : Nat), .bool lst, .int .u32 (f6 : Nat), .int .i64 (f7 : Nat)] rfl 67 #[.int .i64 0, .int .i64 0, .int .i64 0, .int .i64 0, .int .i64 0, .bool false, .int .u32 0, .int .i64 0] hrow10 (by kernel_rfl) rfl (by simp [Value.oneCell']) ?_)
        exact bodyPost_ret (v := .tuple #[.agg #[.int .i64 (f0 : Nat), .int .i64 (f1 : Nat), .int .i64 (f2 : Nat), .int .i64 (f3 : Nat), .int .i64 (f4 : Nat), .bool lst, .int .u32 (f6 : Nat), .int .i64 (f7 : Nat)], .int .i64 0]) (results_row_tmp (fn := Tryz.f41) (p := 2) (u := 3) (ty := 67) rfl _ _ w.heap.size _ _ _ _ rfl (setRow_heap _ _ _ _ _ _ hrow10) Tryz.underlying67 rfl (by kernel_rfl)) rfl ⟨rfl, below_setRow hbw10 (Nat.le_refl _) _⟩
    · have d1 : decide (1 < (L : Int)) = true := by simp; omega
      obtain rfl := by have := hmid.out false (by rw [HOK.out, decide_eq_false h1]; rfl) HEQ.out; rwa [if_pos rfl] at this
      clear hmid hmid2 HOK hRt h1
      go_wp2_with first | (refine wpList_load_row rfl 67 _ rfl g rfl 67 #[.int .i64 (f0 : Nat), .int .i64 (f1 : Nat), .int .i64 (f2 : Nat), .int .i64 (f3 : Nat), .int .i64 (f4 : Nat), .bool lst, .int .u32 (f6 : Nat), .int .i64 (f7 : Nat)] (0, 0) _ hr Tryz.underlying67 rfl (by kernel_rfl) ?_) | (refine wpList_store_row rfl 67 (.tmp 2) (.tmp 69) rfl rfl w.heap.size rfl #[.int .i64 0, .int .i64 0, .int .i64 0, .int .i64 0, .int .i64 0, .bool false, .int .u32 0, .int .i64 0] rfl 67 #[.int .i64 0, .int .i64 0, .int .i64 0, .int .i64 0, .int .i64 0, .bool false, .int .u32 0, .int .i64 0] hrow9 (by kernel_rfl) rfl (by simp [Value.oneCell']) ?_)
      exact bodyPost_ret (v := .tuple #[.agg #[.int .i64 0, .int .i64 0, .int .i64 0, .int .i64 0, .int .i64 0, .bool false, .int .u32 0, .int .i64 0], .int .i64 32]) (results_row_tmp (fn := Tryz.f41) (p := 2) (u := 3) (ty := 67) rfl _ _ w.heap.size _ _ _ _ rfl (setRow_heap _ _ _ _ _ _ hrow9) Tryz.underlying67 rfl (by kernel_rfl)) rfl ⟨rfl, below_setRow hbw9 (Nat.le_refl _) _⟩
  · have dd : ((S : Int) != (su : Int)) = true := by simp; omega
    obtain rfl := hmid2.out heq
    clear hmid hmid2 heq HOK
    go_wp2_with (first | (go_at_call 35; refine (HSUM.out _ hl28).mono ?_; rintro e wb ⟨rfl, rfl⟩) | (go_at_call 42; refine (HAT28.out _ hlw).mono ?_; rintro e wb ⟨rfl, rfl⟩) | (refine wpList_store_row rfl 67 (.tmp 2) (.tmp 37) rfl rfl w.heap.size rfl #[.int .i64 0, .int .i64 0, .int .i64 0, .int .i64 0, .int .i64 0, .bool false, .int .u32 0, .int .i64 0] rfl 67 #[.int .i64 0, .int .i64 0, .int .i64 0, .int .i64 0, .int .i64 0, .bool false, .int .u32 0, .int .i64 0] hrow (by kernel_rfl) rfl (by simp [Value.oneCell']) ?_))
    exact bodyPost_ret (v := .tuple #[.agg #[.int .i64 0, .int .i64 0, .int .i64 0, .int .i64 0, .int .i64 0, .bool false, .int .u32 0, .int .i64 0], .int .i64 33]) (results_row_tmp (fn := Tryz.f41) (p := 2) (u := 3) (ty := 67) rfl _ _ w.heap.size _ _ _ _ rfl (setRow_heap _ _ _ _ _ _ hrow) Tryz.underlying67 rfl (by kernel_rfl)) rfl ⟨rfl, below_setRow hb (Nat.le_refl _) _⟩
end Go.Proofs.YtkmhmehofipehaaGreatDoor
/- Both ways to read a head, at any bytes; a head is like itself. -/
namespace Go.Proofs.YtkmhmehofipehaaGreatDoor
set_option linter.unusedVariables false
open Go.RowKit
theorem eq_head (k idx len stp bnd : Int) (lst : Bool) (lnk siz : Int) (w : World) : (Op.equalIn 10000 67 (.agg #[.int .i64 k, .int .i64 idx, .int .i64 len, .int .i64 stp, .int .i64 bnd, .bool lst, .int .u32 lnk, .int .i64 siz]) (.agg #[.int .i64 k, .int .i64 idx, .int .i64 len, .int .i64 stp, .int .i64 bnd, .bool lst, .int .u32 lnk, .int .i64 siz])).run Tryz.prog w = .ok true w := by
  have u3 := Tryz.underlying3
  have a3 := Tryz.isAgg3
  have z3 := Tryz.sizeOf3
  have u4 := Tryz.underlying4
  have a4 := Tryz.isAgg4
  have z4 := Tryz.sizeOf4
  have u5 := Tryz.underlying30
  have a5 := Tryz.isAgg30
  have z5 := Tryz.sizeOf30
  have hS : Tryz.prog.underlying 67 = some (.struct (Tryz.prog.fieldsOf 67)) := by kernel_rfl
  have hp : Tryz.prog.stoodInHeld 67 = false := by kernel_rfl
  rw [show (10000 : Nat) = 9999 + 1 from rfl, run_equalIn_agg w 9999 67 _ _ hS hp]
  simp only [Program.fieldsOf, Tryz.underlying67]
  go_simp
theorem hget_any (t : Nat) (A : Option Addr) (c : Nat) (l : List UInt8) (w : World) (ht : Tab w t) (hl : SeesB w A l) (hc : l.length ≤ c) (hcm : c ≤ maxLen) (hlen : l.length ≤ 140737488355328) :
    Calls Tryz.prog 63 #[.pointer (some ⟨t, 0, none⟩), .slice A l.length c] w (GetHPost w (getH l)) := by
  cases hs : startsH l with
  | false =>
    rw [show getH l = (30, HeadV.zero) by unfold getH; rw [if_pos hs]]
    exact hget_sync t A c l w hl hs
  | true =>
    by_cases hn : l.length < 32
    · rw [show getH l = (10, HeadV.zero) by unfold getH; rw [if_neg (by rw [hs]; simp), if_pos hn]]
      exact hget_end t A c l w hl hs hn
    · exact hget_long t A c l w ht hl hc hcm hlen hs (by omega)
theorem hrget_any (A : Option Addr) (c : Nat) (l : List UInt8) (w : World) (hl : SeesB w A l) (hc : l.length ≤ c) (hcm : c ≤ maxLen) (hlen : l.length ≤ 140737488355328) :
    Calls Tryz.prog 41 #[.slice A l.length c] w (GetHPost w (getH l)) := by
  by_cases h0 : 0 < l.length
  · have g0 : l[0]?.getD 222 = l[0] := by rw [List.getElem?_eq_getElem h0]; rfl
    have b0 := byte_eq l[0] 222 (by omega)
    cases hx : (l[0] == UInt8.ofNat 222) with
    | false =>
      rw [hx] at b0
      have hs : startsH l = false := by unfold startsH; rw [g0, show (l[0] == 222) = false from hx]; rfl
      rw [show getH l = (30, HeadV.zero) by unfold getH; rw [if_pos hs]]
      exact hrget_sync0 A c l w hl h0 b0
    | true =>
      rw [hx] at b0
      by_cases h1 : 1 < l.length
      · have g1 : l[1]?.getD 92 = l[1] := by rw [List.getElem?_eq_getElem h1]; rfl
        have b1 := byte_eq l[1] 92 (by omega)
        cases hy : (l[1] == UInt8.ofNat 92) with
        | false =>
          rw [hy] at b1
          have hs : startsH l = false := by unfold startsH; rw [g0, g1, show (l[0] == 222) = true from hx, show (l[1] == 92) = false from hy]; rfl
          rw [show getH l = (30, HeadV.zero) by unfold getH; rw [if_pos hs]]
          exact hrget_sync1 A c l w hl h1 b0 b1
        | true =>
          rw [hy] at b1
          have hs : startsH l = true := by unfold startsH; rw [g0, g1, show (l[0] == 222) = true from hx, show (l[1] == 92) = true from hy]; rfl
          by_cases hn : l.length < 32
          · rw [show getH l = (10, HeadV.zero) by unfold getH; rw [if_neg (by rw [hs]; simp), if_pos hn]]
            exact hrget_end2 A c l w hl h1 b0 b1 hn
          · exact hrget_long A c l w hl hc hcm hlen (by omega) b0 b1 hs
      · have g1 : l[1]?.getD 92 = 92 := by rw [List.getElem?_eq_none (by omega)]; rfl
        have hs : startsH l = true := by unfold startsH; rw [g0, g1, show (l[0] == 222) = true from hx]; rfl
        rw [show getH l = (10, HeadV.zero) by unfold getH; rw [if_neg (by rw [hs]; simp), if_pos (by omega)]]
        exact hrget_end1 A c l w hl h0 h1 b0
  · have e0 : l.length = 0 := by omega
    have hs : startsH l = true := by obtain rfl := List.length_eq_zero_iff.1 e0; rfl
    rw [show getH l = (10, HeadV.zero) by unfold getH; rw [if_neg (by rw [hs]; simp), if_pos (by omega)]]
    exact hrget_end0 A c l w hl e0
end Go.Proofs.YtkmhmehofipehaaGreatDoor
