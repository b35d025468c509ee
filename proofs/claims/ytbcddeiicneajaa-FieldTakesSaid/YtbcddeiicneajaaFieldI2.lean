/- The maker's I whole; Text. -/
import Derived.Test.YtbcddeiicneajaaFieldI
import Derived.Test.YtbcddeiicneajaaConv
namespace Go.Proofs.Ytbcddeiicneajaa
set_option linter.unusedVariables false
open Go.RowKit
theorem putI_late {s : Int × List UInt8} (h : s.1 ≠ 0) (v n : Int) : putI s v n = s := by unfold putI lay; rw [if_pos h]
set_option maxHeartbeats 2000000 in
set_option maxRecDepth 20000 in
theorem makerI_any (g : Nat) (R : Nat → Prop) (err : Int) (l : List UInt8) (v n : Int) (w : World) (hm : Mk w g R err l) (hv : -9223372036854775808 ≤ v ∧ v < 9223372036854775808) (hl : l.length ≤ 140737488355000) :
    Calls Try.prog 24 #[.pointer (some ⟨g, 0, none⟩), .int .i64 v, .int .i64 n] w (MkPost w g R (putI (err, l) v n)) := by
  have hc0 := hm.cell0
  have hf0 := hm.fr 0
  by_cases h0 : err = 0
  · subst h0
    by_cases h1 : n < 1 ∨ 8 < n
    · have hp : putI (0, l) v n = (1, l) := by unfold putI lay refI; rw [if_neg (by simp), if_pos h1]; simp
      rw [hp]
      have hme := hm.err 1
      go_enter Try.func24, Try.ntmps24
      go_wp2_with fail
      refine (mready_is g 0 true _ hc0 rfl).mono ?_
      rintro e w' ⟨rfl, rfl⟩
      go_wp2_with fail
      refine (may_no g n _ hc0 hf0 h1).mono ?_
      rintro e w' ⟨rfl, rfl⟩
      go_wp2_with fail
      exact bodyPost_ret (results_none rfl _ _ _) rfl ⟨rfl, R, hme.1, hme.2, fun b h => .inl h⟩
    · obtain ⟨N, rfl⟩ := Int.eq_ofNat_of_zero_le (show 0 ≤ n by omega)
      by_cases h8 : N = 8
      · subst h8
        obtain ⟨V, hV⟩ := Int.eq_ofNat_of_zero_le (show 0 ≤ v % 18446744073709551616 by omega)
        have hVl : V < 18446744073709551616 := by omega
        have hp : putI (0, l) v ((8 : Nat) : Int) = putU (0, l) V ((8 : Nat) : Int) := by
          rw [putU_lay, putI]
          congr 1
          unfold refI refU
          rw [if_neg (by omega), if_neg (by omega), if_neg (by omega), if_neg (by omega)]
          show (0, bytesLE (v % ((p256 8 : Nat) : Int)).toNat 8) = _
          rw [show ((p256 8 : Nat) : Int) = 18446744073709551616 from rfl, hV]; rfl
        rw [hp]
        have HW := hid (show IntKind.u64.wrap v = (V : Int) by rw [IntKind.wrap_u64, hV])
        clear hp hV
        change Calls _ _ #[_, _, .int .i64 8] _ _
        change Calls _ _ _ _ (MkPost w g R (putU (0, l) V 8))
        go_enter Try.func24, Try.ntmps24
        go_wp2_with fail
        refine (mready_is g 0 true _ hc0 rfl).mono ?_
        rintro e w' ⟨rfl, rfl⟩
        go_wp2_with fail
        refine (may_yes g _ _ hc0 (by omega)).mono ?_
        rintro e w' ⟨rfl, rfl⟩
        go_wp2_with fail
        rw [HW.out]
        refine (makerU_any g R 0 l V _ _ hm hVl hl).mono ?_
        rintro e w' ⟨rfl, hpost⟩
        go_wp2_with fail
        exact bodyPost_ret (results_none rfl _ _ _) rfl ⟨rfl, hpost⟩
      · exact makerI_small g R l v N w hm hv (by omega) hl
  · rw [putI_late (s := (err, l)) h0]
    have d0 : (err == 0) = false := by simpa using h0
    go_enter Try.func24, Try.ntmps24
    go_wp2_with fail
    refine (mready_is g err false _ hc0 d0).mono ?_
    rintro e w' ⟨rfl, rfl⟩
    go_wp2_with fail
    exact bodyPost_ret (results_none rfl _ _ _) rfl ⟨rfl, R, hm, But.refl _ _, fun b h => .inl h⟩
set_option maxHeartbeats 1000000 in
theorem makerI_nil (v n : Int) (w : World) :
    Calls Try.prog 24 #[.pointer none, .int .i64 v, .int .i64 n] w fun e w' => e = .returned (.tuple #[]) ∧ w = w' := by
  go_enter Try.func24, Try.ntmps24
  go_wp2_with fail
  refine (mready_nil _).mono ?_
  rintro e w' ⟨rfl, rfl⟩
  go_wp2_with fail
  exact bodyPost_ret (results_none rfl _ _ _) rfl ⟨rfl, rfl⟩
def putText (s : Int × List UInt8) (b : List UInt8) (n : Int) : Int × List UInt8 := putRaw (putU s b.length n) b
set_option maxHeartbeats 1000000 in
theorem text_any (g : Nat) (R : Nat → Prop) (err : Int) (l : List UInt8) (s : ByteArray) (n : Int) (w : World) (hm : Mk w g R err l) (hl : l.length + s.size ≤ 140737488355000) :
    Calls Try.prog 26 #[.pointer (some ⟨g, 0, none⟩), .string s, .int .i64 n] w (MkPost w g R (putText (err, l) s.data.toList n)) := by
  have hc0 := hm.cell0
  have hsz : s.data.toList.length = s.size := by rw [Array.length_toList]; rfl
  by_cases h0 : err = 0
  · subst h0
    go_enter Try.func26, Try.ntmps26
    go_wp2_with fail
    refine (mready_is g 0 true _ hc0 rfl).mono ?_
    rintro e w' ⟨rfl, rfl⟩
    go_wp2_with fail
    have hlen : s.size ≤ 9223372036854775807 := by omega
    refine (makerU_any g R 0 l s.size n _ hm (by omega) (by omega)).mono ?_
    rintro e w1 ⟨rfl, R1, hm1, hb1, hR1⟩
    obtain ⟨c, w2, hconv, hb2, hs2, hsl⟩ := conv_sb s w1
    have hlt := hm1.lt
    have hm2 := hm1.below hb2
    have hU : putU (0, l) s.size n = putU (0, l) s.data.toList.length n := by rw [hsz]
    have hUl : (putU (0, l) s.size n).2.length ≤ l.length + 8 := by
      unfold putU
      rw [if_neg (by simp)]
      split
      · simp
      · split
        · simp
        · simp only [List.length_append, bytesLE_length]
          omega
    have HU := hid hU
    have HSL := hid hsl
    clear hU hsl hsz
    go_wp2_with fail
    rw [← HSL.out]
    refine (raw_any g R1 _ _ _ c s.data.toList w2 hm2 hs2 (by rw [HSL.out]; omega)).mono ?_
    rintro e w3 ⟨rfl, R3, hm3, hb3, hR3⟩
    go_wp2_with fail
    go_end0
    refine ⟨rfl, R3, ?_, (hb1.trans (But.of_below (R := fun _ => False) hb2) (fun n h => h.elim)).trans hb3 hR1, fun b hb => ?_⟩
    · unfold putText
      rw [← HU.out]; exact hm3
    · rcases hR3 b hb with h | h
      · exact hR1 b h
      · exact .inr (Nat.le_trans hb1.size (Nat.le_trans hb2.size h))
  · have hp : putText (err, l) s.data.toList n = (err, l) := by
      unfold putText putRaw putU
      rw [if_pos h0, if_pos h0]
    rw [hp]
    have d0 : (err == 0) = false := by simpa using h0
    go_enter Try.func26, Try.ntmps26
    go_wp2_with fail
    refine (mready_is g err false _ hc0 d0).mono ?_
    rintro e w' ⟨rfl, rfl⟩
    go_wp2_with fail
    exact bodyPost_ret (results_none rfl _ _ _) rfl ⟨rfl, R, hm, But.refl _ _, fun b h => .inl h⟩
end Go.Proofs.Ytbcddeiicneajaa
