/- Which head may be. -/
import Derived.Test.YtkmhmehofipehaaDoorFileBuildsM1
import Derived.Test.YtkmhmehofipehaaDoorProg
import Derived.WalkSpells
import Derived.WalkLawsBesides
namespace Go.Proofs.YtkmhmehofipehaaDoor
set_option linter.unusedVariables false
open Go.RowKit
def rightH (k idx len stp bnd : Int) (lst : Bool) (lnk siz : Int) : Bool := decide ((1 ≤ k ∧ k ≤ 3) ∧ (0 ≤ idx ∧ idx ≤ 4294967295) ∧ (1 ≤ len ∧ len ≤ 65536) ∧ (1 ≤ stp ∧ stp ≤ 2147483648) ∧ (0 ≤ bnd ∧ bnd ≤ stp / 2) ∧ (0 ≤ siz ∧ siz ≤ 16777216) ∧ (lst = true → k = 1) ∧ (lnk ≠ 0 → k = 2) ∧ (stp ≠ 1 → k ≠ 3))
set_option maxHeartbeats 400000 in
theorem hwithin_any (x lo hi : Int) (b : Bool) (w : World) (h : decide (lo ≤ x ∧ x ≤ hi) = b) :
    Calls Tryd.prog 102 #[.int .i64 x, .int .i64 lo, .int .i64 hi] w fun e w' => e = .returned (.bool b) ∧ w = w' := by
  subst h
  by_cases h1 : lo ≤ x
  · have d1 : decide (lo ≤ x) = true := by simpa using h1
    by_cases h2 : x ≤ hi
    · have d2 : decide (x ≤ hi) = true := by simpa using h2
      go_enter Tryd.func102, Tryd.ntmps102
      go_wp2_with fail
      go_ret
      exact ⟨ret_bool (by simp [h1, h2]), rfl⟩
    · have d2 : decide (x ≤ hi) = false := by simpa using h2
      go_enter Tryd.func102, Tryd.ntmps102
      go_wp2_with fail
      go_ret
      exact ⟨ret_bool (by simp), rfl⟩
  · have d1 : decide (lo ≤ x) = false := by simpa using h1
    go_enter Tryd.func102, Tryd.ntmps102
    go_wp2_with fail
    go_ret
    exact ⟨ret_bool (by simp), rfl⟩
set_option maxHeartbeats 4000000 in
theorem hright_any (k idx len stp bnd : Int) (lst : Bool) (lnk siz : Int) (w : World) :
    Calls Tryd.prog 71 #[.agg #[.int .i64 k, .int .i64 idx, .int .i64 len, .int .i64 stp, .int .i64 bnd, .bool lst, .int .u32 lnk, .int .i64 siz]] w fun e w' => e = .returned (.bool (rightH k idx len stp bnd lst lnk siz)) ∧ Below w.heap.size w w' := by
  have hb : Below w.heap.size w (w.alloc (.cells #[.int .i64 k, .int .i64 idx, .int .i64 len, .int .i64 stp, .int .i64 bnd, .bool lst, .int .u32 lnk, .int .i64 siz] 52)) := (Below.refl _ w).alloc (Nat.le_refl _) _
  by_cases h0 : ¬ (1 ≤ k ∧ k ≤ 3)
  · have H0 := hid h0
    have HX : Hid (rightH k idx len stp bnd lst lnk siz = false) := hid (decide_eq_false (fun h => h0 (h.1)))
    clear h0
    go_enter Tryd.func71, Tryd.ntmps71
    go_wp2_with fail
    refine (hwithin_any k 1 3 false _ (decide_eq_false H0.out)).mono ?_
    rintro e w' ⟨rfl, rfl⟩
    go_wp2_with fail
    go_ret
    exact ⟨ret_bool HX.out.symm, hb⟩
  replace h0 := Decidable.not_not.1 h0
  have H0 := hid h0
  clear h0
  by_cases h1 : ¬ (0 ≤ idx ∧ idx ≤ 4294967295)
  · have H1 := hid h1
    have HX : Hid (rightH k idx len stp bnd lst lnk siz = false) := hid (decide_eq_false (fun h => h1 (h.2.1)))
    clear h1
    go_enter Tryd.func71, Tryd.ntmps71
    go_wp2_with fail
    refine (hwithin_any k 1 3 true _ (decide_eq_true H0.out)).mono ?_
    rintro e w' ⟨rfl, rfl⟩
    go_wp2_with fail
    refine (hwithin_any idx 0 4294967295 false _ (decide_eq_false H1.out)).mono ?_
    rintro e w' ⟨rfl, rfl⟩
    go_wp2_with fail
    go_ret
    exact ⟨ret_bool HX.out.symm, hb⟩
  replace h1 := Decidable.not_not.1 h1
  have H1 := hid h1
  clear h1
  by_cases h2 : ¬ (1 ≤ len ∧ len ≤ 65536)
  · have H2 := hid h2
    have HX : Hid (rightH k idx len stp bnd lst lnk siz = false) := hid (decide_eq_false (fun h => h2 (h.2.2.1)))
    clear h2
    go_enter Tryd.func71, Tryd.ntmps71
    go_wp2_with fail
    refine (hwithin_any k 1 3 true _ (decide_eq_true H0.out)).mono ?_
    rintro e w' ⟨rfl, rfl⟩
    go_wp2_with fail
    refine (hwithin_any idx 0 4294967295 true _ (decide_eq_true H1.out)).mono ?_
    rintro e w' ⟨rfl, rfl⟩
    go_wp2_with fail
    refine (hwithin_any len 1 65536 false _ (decide_eq_false H2.out)).mono ?_
    rintro e w' ⟨rfl, rfl⟩
    go_wp2_with fail
    go_ret
    exact ⟨ret_bool HX.out.symm, hb⟩
  replace h2 := Decidable.not_not.1 h2
  have H2 := hid h2
  clear h2
  by_cases h3 : ¬ (1 ≤ stp ∧ stp ≤ 2147483648)
  · have H3 := hid h3
    have HX : Hid (rightH k idx len stp bnd lst lnk siz = false) := hid (decide_eq_false (fun h => h3 (h.2.2.2.1)))
    clear h3
    go_enter Tryd.func71, Tryd.ntmps71
    go_wp2_with fail
    refine (hwithin_any k 1 3 true _ (decide_eq_true H0.out)).mono ?_
    rintro e w' ⟨rfl, rfl⟩
    go_wp2_with fail
    refine (hwithin_any idx 0 4294967295 true _ (decide_eq_true H1.out)).mono ?_
    rintro e w' ⟨rfl, rfl⟩
    go_wp2_with fail
    refine (hwithin_any len 1 65536 true _ (decide_eq_true H2.out)).mono ?_
    rintro e w' ⟨rfl, rfl⟩
    go_wp2_with fail
    refine (hwithin_any stp 1 2147483648 false _ (decide_eq_false H3.out)).mono ?_
    rintro e w' ⟨rfl, rfl⟩
    go_wp2_with fail
    go_ret
    exact ⟨ret_bool HX.out.symm, hb⟩
  replace h3 := Decidable.not_not.1 h3
  have H3 := hid h3
  by_cases h4 : ¬ (0 ≤ bnd ∧ bnd ≤ (stp / 2))
  · have H4 := hid h4
    have HX : Hid (rightH k idx len stp bnd lst lnk siz = false) := hid (decide_eq_false (fun h => h4 (h.2.2.2.2.1)))
    clear h4
    go_enter Tryd.func71, Tryd.ntmps71
    go_wp2_with fail
    refine (hwithin_any k 1 3 true _ (decide_eq_true H0.out)).mono ?_
    rintro e w' ⟨rfl, rfl⟩
    go_wp2_with fail
    refine (hwithin_any idx 0 4294967295 true _ (decide_eq_true H1.out)).mono ?_
    rintro e w' ⟨rfl, rfl⟩
    go_wp2_with fail
    refine (hwithin_any len 1 65536 true _ (decide_eq_true H2.out)).mono ?_
    rintro e w' ⟨rfl, rfl⟩
    go_wp2_with fail
    refine (hwithin_any stp 1 2147483648 true _ (decide_eq_true H3.out)).mono ?_
    rintro e w' ⟨rfl, rfl⟩
    go_wp2_with fail
    refine (hwithin_any bnd 0 (stp / 2) false _ (decide_eq_false H4.out)).mono ?_
    rintro e w' ⟨rfl, rfl⟩
    go_wp2_with fail
    go_ret
    exact ⟨ret_bool HX.out.symm, hb⟩
  replace h4 := Decidable.not_not.1 h4
  have H4 := hid h4
  clear h4
  by_cases h5 : ¬ (0 ≤ siz ∧ siz ≤ 16777216)
  · have H5 := hid h5
    have HX : Hid (rightH k idx len stp bnd lst lnk siz = false) := hid (decide_eq_false (fun h => h5 (h.2.2.2.2.2.1)))
    clear h5
    go_enter Tryd.func71, Tryd.ntmps71
    go_wp2_with fail
    refine (hwithin_any k 1 3 true _ (decide_eq_true H0.out)).mono ?_
    rintro e w' ⟨rfl, rfl⟩
    go_wp2_with fail
    refine (hwithin_any idx 0 4294967295 true _ (decide_eq_true H1.out)).mono ?_
    rintro e w' ⟨rfl, rfl⟩
    go_wp2_with fail
    refine (hwithin_any len 1 65536 true _ (decide_eq_true H2.out)).mono ?_
    rintro e w' ⟨rfl, rfl⟩
    go_wp2_with fail
    refine (hwithin_any stp 1 2147483648 true _ (decide_eq_true H3.out)).mono ?_
    rintro e w' ⟨rfl, rfl⟩
    go_wp2_with fail
    refine (hwithin_any bnd 0 (stp / 2) true _ (decide_eq_true H4.out)).mono ?_
    rintro e w' ⟨rfl, rfl⟩
    go_wp2_with fail
    refine (hwithin_any siz 0 16777216 false _ (decide_eq_false H5.out)).mono ?_
    rintro e w' ⟨rfl, rfl⟩
    go_wp2_with fail
    go_ret
    exact ⟨ret_bool HX.out.symm, hb⟩
  replace h5 := Decidable.not_not.1 h5
  have H5 := hid h5
  clear h5
  cases lst with
  | false =>
    by_cases n0 : lnk = 0
    · have f4 : (lnk != 0) = false := by simpa using n0
      have N0 := hid n0
      clear n0
      by_cases s1 : stp = 1
      · have f5 : (stp != 1) = false := by simpa using s1
        have S1 := hid s1
        clear s1
        have HX : Hid (rightH k idx len stp bnd false lnk siz = true) := hid (decide_eq_true (⟨H0.out, H1.out, H2.out, H3.out, H4.out, H5.out, (fun h => absurd h (by decide)), (fun h => absurd N0.out h), (fun h => absurd S1.out h)⟩))
        go_enter Tryd.func71, Tryd.ntmps71
        go_wp2_with fail
        refine (hwithin_any k 1 3 true _ (decide_eq_true H0.out)).mono ?_
        rintro e w' ⟨rfl, rfl⟩
        go_wp2_with fail
        refine (hwithin_any idx 0 4294967295 true _ (decide_eq_true H1.out)).mono ?_
        rintro e w' ⟨rfl, rfl⟩
        go_wp2_with fail
        refine (hwithin_any len 1 65536 true _ (decide_eq_true H2.out)).mono ?_
        rintro e w' ⟨rfl, rfl⟩
        go_wp2_with fail
        refine (hwithin_any stp 1 2147483648 true _ (decide_eq_true H3.out)).mono ?_
        rintro e w' ⟨rfl, rfl⟩
        go_wp2_with fail
        refine (hwithin_any bnd 0 (stp / 2) true _ (decide_eq_true H4.out)).mono ?_
        rintro e w' ⟨rfl, rfl⟩
        go_wp2_with fail
        refine (hwithin_any siz 0 16777216 true _ (decide_eq_true H5.out)).mono ?_
        rintro e w' ⟨rfl, rfl⟩
        go_wp2_with fail
        go_ret
        exact ⟨ret_bool HX.out.symm, hb⟩
      have f5 : (stp != 1) = true := by simpa using s1
      by_cases s3 : k = 3
      · have f3 : (k == 3) = true := by simpa using s3
        have S3 := hid s3
        have S1 := hid s1
        clear s3 s1
        have HX : Hid (rightH k idx len stp bnd false lnk siz = false) := hid (decide_eq_false (fun h => h.2.2.2.2.2.2.2.2 S1.out S3.out))
        go_enter Tryd.func71, Tryd.ntmps71
        go_wp2_with fail
        refine (hwithin_any k 1 3 true _ (decide_eq_true H0.out)).mono ?_
        rintro e w' ⟨rfl, rfl⟩
        go_wp2_with fail
        refine (hwithin_any idx 0 4294967295 true _ (decide_eq_true H1.out)).mono ?_
        rintro e w' ⟨rfl, rfl⟩
        go_wp2_with fail
        refine (hwithin_any len 1 65536 true _ (decide_eq_true H2.out)).mono ?_
        rintro e w' ⟨rfl, rfl⟩
        go_wp2_with fail
        refine (hwithin_any stp 1 2147483648 true _ (decide_eq_true H3.out)).mono ?_
        rintro e w' ⟨rfl, rfl⟩
        go_wp2_with fail
        refine (hwithin_any bnd 0 (stp / 2) true _ (decide_eq_true H4.out)).mono ?_
        rintro e w' ⟨rfl, rfl⟩
        go_wp2_with fail
        refine (hwithin_any siz 0 16777216 true _ (decide_eq_true H5.out)).mono ?_
        rintro e w' ⟨rfl, rfl⟩
        go_wp2_with fail
        go_ret
        exact ⟨ret_bool HX.out.symm, hb⟩
      · have f3 : (k == 3) = false := by simpa using s3
        have S3 := hid s3
        clear s3 s1
        have HX : Hid (rightH k idx len stp bnd false lnk siz = true) := hid (decide_eq_true (⟨H0.out, H1.out, H2.out, H3.out, H4.out, H5.out, (fun h => absurd h (by decide)), (fun h => absurd N0.out h), (fun _ => S3.out)⟩))
        go_enter Tryd.func71, Tryd.ntmps71
        go_wp2_with fail
        refine (hwithin_any k 1 3 true _ (decide_eq_true H0.out)).mono ?_
        rintro e w' ⟨rfl, rfl⟩
        go_wp2_with fail
        refine (hwithin_any idx 0 4294967295 true _ (decide_eq_true H1.out)).mono ?_
        rintro e w' ⟨rfl, rfl⟩
        go_wp2_with fail
        refine (hwithin_any len 1 65536 true _ (decide_eq_true H2.out)).mono ?_
        rintro e w' ⟨rfl, rfl⟩
        go_wp2_with fail
        refine (hwithin_any stp 1 2147483648 true _ (decide_eq_true H3.out)).mono ?_
        rintro e w' ⟨rfl, rfl⟩
        go_wp2_with fail
        refine (hwithin_any bnd 0 (stp / 2) true _ (decide_eq_true H4.out)).mono ?_
        rintro e w' ⟨rfl, rfl⟩
        go_wp2_with fail
        refine (hwithin_any siz 0 16777216 true _ (decide_eq_true H5.out)).mono ?_
        rintro e w' ⟨rfl, rfl⟩
        go_wp2_with fail
        go_ret
        exact ⟨ret_bool HX.out.symm, hb⟩
    have f4 : (lnk != 0) = true := by simpa using n0
    by_cases n2 : k = 2
    · have f2 : (k != 2) = false := by simpa using n2
      have N2 := hid n2
      clear n2 n0
      by_cases s1 : stp = 1
      · have f5 : (stp != 1) = false := by simpa using s1
        have S1 := hid s1
        clear s1
        have HX : Hid (rightH k idx len stp bnd false lnk siz = true) := hid (decide_eq_true (⟨H0.out, H1.out, H2.out, H3.out, H4.out, H5.out, (fun h => absurd h (by decide)), (fun _ => N2.out), (fun h => absurd S1.out h)⟩))
        go_enter Tryd.func71, Tryd.ntmps71
        go_wp2_with fail
        refine (hwithin_any k 1 3 true _ (decide_eq_true H0.out)).mono ?_
        rintro e w' ⟨rfl, rfl⟩
        go_wp2_with fail
        refine (hwithin_any idx 0 4294967295 true _ (decide_eq_true H1.out)).mono ?_
        rintro e w' ⟨rfl, rfl⟩
        go_wp2_with fail
        refine (hwithin_any len 1 65536 true _ (decide_eq_true H2.out)).mono ?_
        rintro e w' ⟨rfl, rfl⟩
        go_wp2_with fail
        refine (hwithin_any stp 1 2147483648 true _ (decide_eq_true H3.out)).mono ?_
        rintro e w' ⟨rfl, rfl⟩
        go_wp2_with fail
        refine (hwithin_any bnd 0 (stp / 2) true _ (decide_eq_true H4.out)).mono ?_
        rintro e w' ⟨rfl, rfl⟩
        go_wp2_with fail
        refine (hwithin_any siz 0 16777216 true _ (decide_eq_true H5.out)).mono ?_
        rintro e w' ⟨rfl, rfl⟩
        go_wp2_with fail
        go_ret
        exact ⟨ret_bool HX.out.symm, hb⟩
      have f5 : (stp != 1) = true := by simpa using s1
      by_cases s3 : k = 3
      · have f3 : (k == 3) = true := by simpa using s3
        have S3 := hid s3
        have S1 := hid s1
        clear s3 s1
        have HX : Hid (rightH k idx len stp bnd false lnk siz = false) := hid (decide_eq_false (fun h => h.2.2.2.2.2.2.2.2 S1.out S3.out))
        go_enter Tryd.func71, Tryd.ntmps71
        go_wp2_with fail
        refine (hwithin_any k 1 3 true _ (decide_eq_true H0.out)).mono ?_
        rintro e w' ⟨rfl, rfl⟩
        go_wp2_with fail
        refine (hwithin_any idx 0 4294967295 true _ (decide_eq_true H1.out)).mono ?_
        rintro e w' ⟨rfl, rfl⟩
        go_wp2_with fail
        refine (hwithin_any len 1 65536 true _ (decide_eq_true H2.out)).mono ?_
        rintro e w' ⟨rfl, rfl⟩
        go_wp2_with fail
        refine (hwithin_any stp 1 2147483648 true _ (decide_eq_true H3.out)).mono ?_
        rintro e w' ⟨rfl, rfl⟩
        go_wp2_with fail
        refine (hwithin_any bnd 0 (stp / 2) true _ (decide_eq_true H4.out)).mono ?_
        rintro e w' ⟨rfl, rfl⟩
        go_wp2_with fail
        refine (hwithin_any siz 0 16777216 true _ (decide_eq_true H5.out)).mono ?_
        rintro e w' ⟨rfl, rfl⟩
        go_wp2_with fail
        go_ret
        exact ⟨ret_bool HX.out.symm, hb⟩
      · have f3 : (k == 3) = false := by simpa using s3
        have S3 := hid s3
        clear s3 s1
        have HX : Hid (rightH k idx len stp bnd false lnk siz = true) := hid (decide_eq_true (⟨H0.out, H1.out, H2.out, H3.out, H4.out, H5.out, (fun h => absurd h (by decide)), (fun _ => N2.out), (fun _ => S3.out)⟩))
        go_enter Tryd.func71, Tryd.ntmps71
        go_wp2_with fail
        refine (hwithin_any k 1 3 true _ (decide_eq_true H0.out)).mono ?_
        rintro e w' ⟨rfl, rfl⟩
        go_wp2_with fail
        refine (hwithin_any idx 0 4294967295 true _ (decide_eq_true H1.out)).mono ?_
        rintro e w' ⟨rfl, rfl⟩
        go_wp2_with fail
        refine (hwithin_any len 1 65536 true _ (decide_eq_true H2.out)).mono ?_
        rintro e w' ⟨rfl, rfl⟩
        go_wp2_with fail
        refine (hwithin_any stp 1 2147483648 true _ (decide_eq_true H3.out)).mono ?_
        rintro e w' ⟨rfl, rfl⟩
        go_wp2_with fail
        refine (hwithin_any bnd 0 (stp / 2) true _ (decide_eq_true H4.out)).mono ?_
        rintro e w' ⟨rfl, rfl⟩
        go_wp2_with fail
        refine (hwithin_any siz 0 16777216 true _ (decide_eq_true H5.out)).mono ?_
        rintro e w' ⟨rfl, rfl⟩
        go_wp2_with fail
        go_ret
        exact ⟨ret_bool HX.out.symm, hb⟩
    · have f2 : (k != 2) = true := by simpa using n2
      have N2 := hid n2
      have N0 := hid n0
      clear n2 n0
      have HX : Hid (rightH k idx len stp bnd false lnk siz = false) := hid (decide_eq_false (fun h => N2.out (h.2.2.2.2.2.2.2.1 N0.out)))
      go_enter Tryd.func71, Tryd.ntmps71
      go_wp2_with fail
      refine (hwithin_any k 1 3 true _ (decide_eq_true H0.out)).mono ?_
      rintro e w' ⟨rfl, rfl⟩
      go_wp2_with fail
      refine (hwithin_any idx 0 4294967295 true _ (decide_eq_true H1.out)).mono ?_
      rintro e w' ⟨rfl, rfl⟩
      go_wp2_with fail
      refine (hwithin_any len 1 65536 true _ (decide_eq_true H2.out)).mono ?_
      rintro e w' ⟨rfl, rfl⟩
      go_wp2_with fail
      refine (hwithin_any stp 1 2147483648 true _ (decide_eq_true H3.out)).mono ?_
      rintro e w' ⟨rfl, rfl⟩
      go_wp2_with fail
      refine (hwithin_any bnd 0 (stp / 2) true _ (decide_eq_true H4.out)).mono ?_
      rintro e w' ⟨rfl, rfl⟩
      go_wp2_with fail
      refine (hwithin_any siz 0 16777216 true _ (decide_eq_true H5.out)).mono ?_
      rintro e w' ⟨rfl, rfl⟩
      go_wp2_with fail
      go_ret
      exact ⟨ret_bool HX.out.symm, hb⟩
  | true =>
    by_cases l1 : k = 1
    · have f1 : (k != 1) = false := by simpa using l1
      have L1 := hid l1
      clear l1
      by_cases n0 : lnk = 0
      · have f4 : (lnk != 0) = false := by simpa using n0
        have N0 := hid n0
        clear n0
        by_cases s1 : stp = 1
        · have f5 : (stp != 1) = false := by simpa using s1
          have S1 := hid s1
          clear s1
          have HX : Hid (rightH k idx len stp bnd true lnk siz = true) := hid (decide_eq_true (⟨H0.out, H1.out, H2.out, H3.out, H4.out, H5.out, (fun _ => L1.out), (fun h => absurd N0.out h), (fun h => absurd S1.out h)⟩))
          go_enter Tryd.func71, Tryd.ntmps71
          go_wp2_with fail
          refine (hwithin_any k 1 3 true _ (decide_eq_true H0.out)).mono ?_
          rintro e w' ⟨rfl, rfl⟩
          go_wp2_with fail
          refine (hwithin_any idx 0 4294967295 true _ (decide_eq_true H1.out)).mono ?_
          rintro e w' ⟨rfl, rfl⟩
          go_wp2_with fail
          refine (hwithin_any len 1 65536 true _ (decide_eq_true H2.out)).mono ?_
          rintro e w' ⟨rfl, rfl⟩
          go_wp2_with fail
          refine (hwithin_any stp 1 2147483648 true _ (decide_eq_true H3.out)).mono ?_
          rintro e w' ⟨rfl, rfl⟩
          go_wp2_with fail
          refine (hwithin_any bnd 0 (stp / 2) true _ (decide_eq_true H4.out)).mono ?_
          rintro e w' ⟨rfl, rfl⟩
          go_wp2_with fail
          refine (hwithin_any siz 0 16777216 true _ (decide_eq_true H5.out)).mono ?_
          rintro e w' ⟨rfl, rfl⟩
          go_wp2_with fail
          go_ret
          exact ⟨ret_bool HX.out.symm, hb⟩
        have f5 : (stp != 1) = true := by simpa using s1
        by_cases s3 : k = 3
        · have f3 : (k == 3) = true := by simpa using s3
          have S3 := hid s3
          have S1 := hid s1
          clear s3 s1
          have HX : Hid (rightH k idx len stp bnd true lnk siz = false) := hid (decide_eq_false (fun h => h.2.2.2.2.2.2.2.2 S1.out S3.out))
          go_enter Tryd.func71, Tryd.ntmps71
          go_wp2_with fail
          refine (hwithin_any k 1 3 true _ (decide_eq_true H0.out)).mono ?_
          rintro e w' ⟨rfl, rfl⟩
          go_wp2_with fail
          refine (hwithin_any idx 0 4294967295 true _ (decide_eq_true H1.out)).mono ?_
          rintro e w' ⟨rfl, rfl⟩
          go_wp2_with fail
          refine (hwithin_any len 1 65536 true _ (decide_eq_true H2.out)).mono ?_
          rintro e w' ⟨rfl, rfl⟩
          go_wp2_with fail
          refine (hwithin_any stp 1 2147483648 true _ (decide_eq_true H3.out)).mono ?_
          rintro e w' ⟨rfl, rfl⟩
          go_wp2_with fail
          refine (hwithin_any bnd 0 (stp / 2) true _ (decide_eq_true H4.out)).mono ?_
          rintro e w' ⟨rfl, rfl⟩
          go_wp2_with fail
          refine (hwithin_any siz 0 16777216 true _ (decide_eq_true H5.out)).mono ?_
          rintro e w' ⟨rfl, rfl⟩
          go_wp2_with fail
          go_ret
          exact ⟨ret_bool HX.out.symm, hb⟩
        · have f3 : (k == 3) = false := by simpa using s3
          have S3 := hid s3
          clear s3 s1
          have HX : Hid (rightH k idx len stp bnd true lnk siz = true) := hid (decide_eq_true (⟨H0.out, H1.out, H2.out, H3.out, H4.out, H5.out, (fun _ => L1.out), (fun h => absurd N0.out h), (fun _ => S3.out)⟩))
          go_enter Tryd.func71, Tryd.ntmps71
          go_wp2_with fail
          refine (hwithin_any k 1 3 true _ (decide_eq_true H0.out)).mono ?_
          rintro e w' ⟨rfl, rfl⟩
          go_wp2_with fail
          refine (hwithin_any idx 0 4294967295 true _ (decide_eq_true H1.out)).mono ?_
          rintro e w' ⟨rfl, rfl⟩
          go_wp2_with fail
          refine (hwithin_any len 1 65536 true _ (decide_eq_true H2.out)).mono ?_
          rintro e w' ⟨rfl, rfl⟩
          go_wp2_with fail
          refine (hwithin_any stp 1 2147483648 true _ (decide_eq_true H3.out)).mono ?_
          rintro e w' ⟨rfl, rfl⟩
          go_wp2_with fail
          refine (hwithin_any bnd 0 (stp / 2) true _ (decide_eq_true H4.out)).mono ?_
          rintro e w' ⟨rfl, rfl⟩
          go_wp2_with fail
          refine (hwithin_any siz 0 16777216 true _ (decide_eq_true H5.out)).mono ?_
          rintro e w' ⟨rfl, rfl⟩
          go_wp2_with fail
          go_ret
          exact ⟨ret_bool HX.out.symm, hb⟩
      have f4 : (lnk != 0) = true := by simpa using n0
      by_cases n2 : k = 2
      · have f2 : (k != 2) = false := by simpa using n2
        have N2 := hid n2
        clear n2 n0
        by_cases s1 : stp = 1
        · have f5 : (stp != 1) = false := by simpa using s1
          have S1 := hid s1
          clear s1
          have HX : Hid (rightH k idx len stp bnd true lnk siz = true) := hid (decide_eq_true (⟨H0.out, H1.out, H2.out, H3.out, H4.out, H5.out, (fun _ => L1.out), (fun _ => N2.out), (fun h => absurd S1.out h)⟩))
          go_enter Tryd.func71, Tryd.ntmps71
          go_wp2_with fail
          refine (hwithin_any k 1 3 true _ (decide_eq_true H0.out)).mono ?_
          rintro e w' ⟨rfl, rfl⟩
          go_wp2_with fail
          refine (hwithin_any idx 0 4294967295 true _ (decide_eq_true H1.out)).mono ?_
          rintro e w' ⟨rfl, rfl⟩
          go_wp2_with fail
          refine (hwithin_any len 1 65536 true _ (decide_eq_true H2.out)).mono ?_
          rintro e w' ⟨rfl, rfl⟩
          go_wp2_with fail
          refine (hwithin_any stp 1 2147483648 true _ (decide_eq_true H3.out)).mono ?_
          rintro e w' ⟨rfl, rfl⟩
          go_wp2_with fail
          refine (hwithin_any bnd 0 (stp / 2) true _ (decide_eq_true H4.out)).mono ?_
          rintro e w' ⟨rfl, rfl⟩
          go_wp2_with fail
          refine (hwithin_any siz 0 16777216 true _ (decide_eq_true H5.out)).mono ?_
          rintro e w' ⟨rfl, rfl⟩
          go_wp2_with fail
          go_ret
          exact ⟨ret_bool HX.out.symm, hb⟩
        have f5 : (stp != 1) = true := by simpa using s1
        by_cases s3 : k = 3
        · have f3 : (k == 3) = true := by simpa using s3
          have S3 := hid s3
          have S1 := hid s1
          clear s3 s1
          have HX : Hid (rightH k idx len stp bnd true lnk siz = false) := hid (decide_eq_false (fun h => h.2.2.2.2.2.2.2.2 S1.out S3.out))
          go_enter Tryd.func71, Tryd.ntmps71
          go_wp2_with fail
          refine (hwithin_any k 1 3 true _ (decide_eq_true H0.out)).mono ?_
          rintro e w' ⟨rfl, rfl⟩
          go_wp2_with fail
          refine (hwithin_any idx 0 4294967295 true _ (decide_eq_true H1.out)).mono ?_
          rintro e w' ⟨rfl, rfl⟩
          go_wp2_with fail
          refine (hwithin_any len 1 65536 true _ (decide_eq_true H2.out)).mono ?_
          rintro e w' ⟨rfl, rfl⟩
          go_wp2_with fail
          refine (hwithin_any stp 1 2147483648 true _ (decide_eq_true H3.out)).mono ?_
          rintro e w' ⟨rfl, rfl⟩
          go_wp2_with fail
          refine (hwithin_any bnd 0 (stp / 2) true _ (decide_eq_true H4.out)).mono ?_
          rintro e w' ⟨rfl, rfl⟩
          go_wp2_with fail
          refine (hwithin_any siz 0 16777216 true _ (decide_eq_true H5.out)).mono ?_
          rintro e w' ⟨rfl, rfl⟩
          go_wp2_with fail
          go_ret
          exact ⟨ret_bool HX.out.symm, hb⟩
        · have f3 : (k == 3) = false := by simpa using s3
          have S3 := hid s3
          clear s3 s1
          have HX : Hid (rightH k idx len stp bnd true lnk siz = true) := hid (decide_eq_true (⟨H0.out, H1.out, H2.out, H3.out, H4.out, H5.out, (fun _ => L1.out), (fun _ => N2.out), (fun _ => S3.out)⟩))
          go_enter Tryd.func71, Tryd.ntmps71
          go_wp2_with fail
          refine (hwithin_any k 1 3 true _ (decide_eq_true H0.out)).mono ?_
          rintro e w' ⟨rfl, rfl⟩
          go_wp2_with fail
          refine (hwithin_any idx 0 4294967295 true _ (decide_eq_true H1.out)).mono ?_
          rintro e w' ⟨rfl, rfl⟩
          go_wp2_with fail
          refine (hwithin_any len 1 65536 true _ (decide_eq_true H2.out)).mono ?_
          rintro e w' ⟨rfl, rfl⟩
          go_wp2_with fail
          refine (hwithin_any stp 1 2147483648 true _ (decide_eq_true H3.out)).mono ?_
          rintro e w' ⟨rfl, rfl⟩
          go_wp2_with fail
          refine (hwithin_any bnd 0 (stp / 2) true _ (decide_eq_true H4.out)).mono ?_
          rintro e w' ⟨rfl, rfl⟩
          go_wp2_with fail
          refine (hwithin_any siz 0 16777216 true _ (decide_eq_true H5.out)).mono ?_
          rintro e w' ⟨rfl, rfl⟩
          go_wp2_with fail
          go_ret
          exact ⟨ret_bool HX.out.symm, hb⟩
      · have f2 : (k != 2) = true := by simpa using n2
        have N2 := hid n2
        have N0 := hid n0
        clear n2 n0
        have HX : Hid (rightH k idx len stp bnd true lnk siz = false) := hid (decide_eq_false (fun h => N2.out (h.2.2.2.2.2.2.2.1 N0.out)))
        go_enter Tryd.func71, Tryd.ntmps71
        go_wp2_with fail
        refine (hwithin_any k 1 3 true _ (decide_eq_true H0.out)).mono ?_
        rintro e w' ⟨rfl, rfl⟩
        go_wp2_with fail
        refine (hwithin_any idx 0 4294967295 true _ (decide_eq_true H1.out)).mono ?_
        rintro e w' ⟨rfl, rfl⟩
        go_wp2_with fail
        refine (hwithin_any len 1 65536 true _ (decide_eq_true H2.out)).mono ?_
        rintro e w' ⟨rfl, rfl⟩
        go_wp2_with fail
        refine (hwithin_any stp 1 2147483648 true _ (decide_eq_true H3.out)).mono ?_
        rintro e w' ⟨rfl, rfl⟩
        go_wp2_with fail
        refine (hwithin_any bnd 0 (stp / 2) true _ (decide_eq_true H4.out)).mono ?_
        rintro e w' ⟨rfl, rfl⟩
        go_wp2_with fail
        refine (hwithin_any siz 0 16777216 true _ (decide_eq_true H5.out)).mono ?_
        rintro e w' ⟨rfl, rfl⟩
        go_wp2_with fail
        go_ret
        exact ⟨ret_bool HX.out.symm, hb⟩
    · have f1 : (k != 1) = true := by simpa using l1
      have L1 := hid l1
      clear l1
      have HX : Hid (rightH k idx len stp bnd true lnk siz = false) := hid (decide_eq_false (fun h => L1.out (h.2.2.2.2.2.2.1 rfl)))
      go_enter Tryd.func71, Tryd.ntmps71
      go_wp2_with fail
      refine (hwithin_any k 1 3 true _ (decide_eq_true H0.out)).mono ?_
      rintro e w' ⟨rfl, rfl⟩
      go_wp2_with fail
      refine (hwithin_any idx 0 4294967295 true _ (decide_eq_true H1.out)).mono ?_
      rintro e w' ⟨rfl, rfl⟩
      go_wp2_with fail
      refine (hwithin_any len 1 65536 true _ (decide_eq_true H2.out)).mono ?_
      rintro e w' ⟨rfl, rfl⟩
      go_wp2_with fail
      refine (hwithin_any stp 1 2147483648 true _ (decide_eq_true H3.out)).mono ?_
      rintro e w' ⟨rfl, rfl⟩
      go_wp2_with fail
      refine (hwithin_any bnd 0 (stp / 2) true _ (decide_eq_true H4.out)).mono ?_
      rintro e w' ⟨rfl, rfl⟩
      go_wp2_with fail
      refine (hwithin_any siz 0 16777216 true _ (decide_eq_true H5.out)).mono ?_
      rintro e w' ⟨rfl, rfl⟩
      go_wp2_with fail
      go_ret
      exact ⟨ret_bool HX.out.symm, hb⟩
end Go.Proofs.YtkmhmehofipehaaDoor
