/- What is wrong with two sounds. -/
import Derived.Test.YtfinefhebffpcaaPcmSame
namespace Go.Proofs.Ytfinefhebffpcaa
set_option linter.unusedVariables false
open Go.RowKit
def bothV (ch bi ra : Int) (L : List Chan) (ch' bi' ra' : Int) (M : List Chan) : Int :=
  if checkV ch bi ra L ≠ 0 then checkV ch bi ra L else if checkV ch' bi' ra' M ≠ 0 then checkV ch' bi' ra' M else if sameF ch bi ra ch' bi' ra' = true then 0 else 20
set_option maxRecDepth 20000 in
set_option maxHeartbeats 4000000 in
theorem rboth_any (ch bi ra : Int) (A : Option Addr) (c : Nat) (L : List Chan) (ch' bi' ra' : Int) (B : Option Addr) (d : Nat) (M : List Chan) (w : World) (hl : SeesL w A L) (hm : SeesL w B M) (h1 : L.length ≤ maxLen) (h2 : M.length ≤ maxLen) :
    Calls Try.prog 40 #[.agg #[.int .i64 ch, .int .i64 bi, .int .i64 ra, .slice A L.length c], .agg #[.int .i64 ch', .int .i64 bi', .int .i64 ra', .slice B M.length d]] w fun e w' => e = .returned (.int .i64 (bothV ch bi ra L ch' bi' ra' M)) ∧ Below w.heap.size w w' := by
  have hq := eq_format ch bi ra ch' bi' ra'
  have hb := below_box2 w (.cells #[.int .i64 ch, .int .i64 bi, .int .i64 ra, .slice A L.length c] 26) (.cells #[.int .i64 ch', .int .i64 bi', .int .i64 ra', .slice B M.length d] 26)
  obtain ⟨ha, hc⟩ := snd_two w ch bi ra A L.length c ch' bi' ra' B M.length d
  obtain ⟨R, hR⟩ : ∃ R, R = bothV ch bi ra L ch' bi' ra' M := ⟨_, rfl⟩
  rw [← hR]
  unfold bothV at hR
  have hl0 := hl.below hb
  have hm0 := hm.below hb
  have K1 := hid (fun W hW => rcheck_any ch bi ra A c L W hW h1)
  have K2 := hid (fun W hW => rcheck_any ch' bi' ra' B d M W hW h2)
  generalize checkV ch bi ra L = r1 at *
  generalize checkV ch' bi' ra' M = r2 at *
  clear hl hm h1 h2
  by_cases e1 : r1 = 0
  · subst e1
    rw [if_neg (by simp)] at hR
    by_cases e2 : r2 = 0
    · subst e2
      rw [if_neg (by simp)] at hR
      cases hF : sameF ch bi ra ch' bi' ra' with
      | false =>
        rw [hF] at hq hR
        obtain rfl : R = 20 := by rw [hR]; simp
        clear hR
        go_enter Try.func40, Try.ntmps40
        go_wp2_with fail
        refine (K1.out _ hl0).mono ?_
        rintro e w1 ⟨rfl, hb1⟩
        have hm1 := hm0.below hb1
        have ha1 := ha.below hb1
        have hc1 := hc.below hb1
        have hbw1 := hb.trans (hb1.mono hb.size)
        clear hl0 hm0 ha hc hb hb1
        obtain ⟨s0, s1, s2, s3⟩ := ha1
        have hc1' := hc1
        obtain ⟨t0, t1, t2, t3⟩ := hc1'
        go_wp2_with fail
        refine (K2.out _ hm1).mono ?_
        rintro e w2 ⟨rfl, hb2⟩
        replace s0 := keep1 hb2 s0
        replace s1 := keep1 hb2 s1
        replace s2 := keep1 hb2 s2
        replace t0 := keep1 hb2 t0
        replace t1 := keep1 hb2 t1
        replace t2 := keep1 hb2 t2
        have hbw2 := hbw1.trans (hb2.mono hbw1.size)
        clear hb2 s3 t3 hc1 hm1 hbw1
        go_wp2_with fail
        go_ret
        exact ⟨rfl, hbw2⟩
      | true =>
        rw [hF] at hq hR
        obtain rfl : R = 0 := by rw [hR]; simp
        clear hR
        go_enter Try.func40, Try.ntmps40
        go_wp2_with fail
        refine (K1.out _ hl0).mono ?_
        rintro e w1 ⟨rfl, hb1⟩
        have hm1 := hm0.below hb1
        have ha1 := ha.below hb1
        have hc1 := hc.below hb1
        have hbw1 := hb.trans (hb1.mono hb.size)
        clear hl0 hm0 ha hc hb hb1
        obtain ⟨s0, s1, s2, s3⟩ := ha1
        have hc1' := hc1
        obtain ⟨t0, t1, t2, t3⟩ := hc1'
        go_wp2_with fail
        refine (K2.out _ hm1).mono ?_
        rintro e w2 ⟨rfl, hb2⟩
        replace s0 := keep1 hb2 s0
        replace s1 := keep1 hb2 s1
        replace s2 := keep1 hb2 s2
        replace t0 := keep1 hb2 t0
        replace t1 := keep1 hb2 t1
        replace t2 := keep1 hb2 t2
        have hbw2 := hbw1.trans (hb2.mono hbw1.size)
        clear hb2 s3 t3 hc1 hm1 hbw1
        go_wp2_with fail
        go_ret
        exact ⟨rfl, hbw2⟩
    · rw [if_pos e2] at hR
      obtain rfl : R = r2 := hR
      have d2 : (R != 0) = true := by simpa using e2
      have d2' : decide (R = 0) = false := decide_eq_false e2
      go_enter Try.func40, Try.ntmps40
      go_wp2_with fail
      refine (K1.out _ hl0).mono ?_
      rintro e w1 ⟨rfl, hb1⟩
      have hm1 := hm0.below hb1
      have hc1 := hc.below hb1
      have hbw1 := hb.trans (hb1.mono hb.size)
      clear hl0 hm0 ha hc hb hb1
      obtain ⟨t0, t1, t2, t3⟩ := hc1
      go_wp2_with fail
      refine (K2.out _ hm1).mono ?_
      rintro e w2 ⟨rfl, hb2⟩
      have hbw2 := hbw1.trans (hb2.mono hbw1.size)
      clear hb2 t0 t1 t2 t3 hm1 hbw1
      go_wp2_with fail
      go_ret
      exact ⟨rfl, hbw2⟩
  · rw [if_pos e1] at hR
    obtain rfl : R = r1 := hR
    have d1 : (R != 0) = true := by simpa using e1
    have d1' : decide (R = 0) = false := decide_eq_false e1
    go_enter Try.func40, Try.ntmps40
    go_wp2_with fail
    refine (K1.out _ hl0).mono ?_
    rintro e w1 ⟨rfl, hb1⟩
    have hbw1 := hb.trans (hb1.mono hb.size)
    go_wp2_with fail
    go_ret
    exact ⟨rfl, hbw1⟩
set_option maxRecDepth 20000 in
set_option maxHeartbeats 4000000 in
theorem pboth_any (ch bi ra : Int) (A : Option Addr) (c : Nat) (L : List Chan) (ch' bi' ra' : Int) (B : Option Addr) (d : Nat) (M : List Chan) (w : World) (hl : SeesL w A L) (hm : SeesL w B M) (h1 : L.length ≤ maxLen) (h2 : M.length ≤ maxLen) :
    Calls Try.prog 39 #[.agg #[.int .i64 ch, .int .i64 bi, .int .i64 ra, .slice A L.length c], .agg #[.int .i64 ch', .int .i64 bi', .int .i64 ra', .slice B M.length d]] w fun e w' => e = .returned (.int .i64 (bothV ch bi ra L ch' bi' ra' M)) ∧ Below w.heap.size w w' := by
  have hq := eq_format ch bi ra ch' bi' ra'
  have hb := below_box2 w (.cells #[.int .i64 ch, .int .i64 bi, .int .i64 ra, .slice A L.length c] 26) (.cells #[.int .i64 ch', .int .i64 bi', .int .i64 ra', .slice B M.length d] 26)
  obtain ⟨ha, hc⟩ := snd_two w ch bi ra A L.length c ch' bi' ra' B M.length d
  obtain ⟨R, hR⟩ : ∃ R, R = bothV ch bi ra L ch' bi' ra' M := ⟨_, rfl⟩
  rw [← hR]
  unfold bothV at hR
  have hl0 := hl.below hb
  have hm0 := hm.below hb
  have K1 := hid (fun W hW => check_any ch bi ra A c L W hW h1)
  have K2 := hid (fun W hW => check_any ch' bi' ra' B d M W hW h2)
  generalize checkV ch bi ra L = r1 at *
  generalize checkV ch' bi' ra' M = r2 at *
  have HR := hid hR
  clear hl hm h1 h2 hR
  have i0 : ∀ w, (Instr.index 64 (.agg #[.int .i64 ch, .int .i64 bi, .int .i64 ra, .slice A L.length c, .int .i64 ch', .int .i64 bi', .int .i64 ra', .slice B M.length d]) (.int .i64 0)).run Try.prog w = .ok (.agg #[.int .i64 ch, .int .i64 bi, .int .i64 ra, .slice A L.length c]) w := fun _ => by kernel_rfl
  have i1 : ∀ w, (Instr.index 64 (.agg #[.int .i64 ch, .int .i64 bi, .int .i64 ra, .slice A L.length c, .int .i64 ch', .int .i64 bi', .int .i64 ra', .slice B M.length d]) (.int .i64 1)).run Try.prog w = .ok (.agg #[.int .i64 ch', .int .i64 bi', .int .i64 ra', .slice B M.length d]) w := fun _ => by kernel_rfl
  go_enter Try.func39, Try.ntmps39
  go_wp2_with fail
  generalize (w.alloc (.cells #[.int .i64 ch, .int .i64 bi, .int .i64 ra, .slice A L.length c] 26)).alloc (.cells #[.int .i64 ch', .int .i64 bi', .int .i64 ra', .slice B M.length d] 26) = w0 at *
  go_loopw [11] (fun i wr => ∃ k : Nat, k ≤ 2 ∧ i = .int .i64 (k : Int) ∧ Below w0.heap.size w0 wr ∧ Hid ((1 ≤ k → r1 = 0) ∧ (2 ≤ k → r2 = 0))) (fun i _ => 2 - (intOf i).toNat)
  case atStart => exact ⟨0, by omega, rfl, Below.refl _ _, hid ⟨fun h => by omega, fun h => by omega⟩⟩
  case round =>
    obtain ⟨k, hk, rfl, hbr, hE⟩ := hrel
    have hlr := hl0.below hbr
    have hmr := hm0.below hbr
    have hbw := hb.trans (hbr.mono hb.size)
    have hcase : k = 0 ∨ k = 1 ∨ k = 2 := by omega
    rcases hcase with hh | hh | hh
    · subst hh
      have hbx := below_box wr ch bi ra A L.length c
      have hl2 := hlr.below hbx
      by_cases e1 : r1 = 0
      · have d1 : (r1 != 0) = false := by simpa using e1
        have d1' : decide (r1 = 0) = true := decide_eq_true e1
        have HE1 := hid e1
        clear e1
        go_wp2_with fail
        refine (K1.out _ hl2).mono ?_
        rintro e w1 ⟨rfl, hb1⟩
        go_wp2_with fail
        exact ⟨⟨1, by omega, by go_num, (hbr.trans (hbx.mono hbr.size)).trans (hb1.mono (Nat.le_trans hbr.size hbx.size)), hid ⟨fun _ => HE1.out, fun h => by omega⟩⟩, by simp [intOf]⟩
      · have d1 : (r1 != 0) = true := by simpa using e1
        have d1' : decide (r1 = 0) = false := decide_eq_false e1
        obtain rfl : R = r1 := by rw [HR.out, if_pos e1]
        go_wp2_with fail
        refine (K1.out _ hl2).mono ?_
        rintro e w1 ⟨rfl, hb1⟩
        go_wp2_with fail
        go_ret
        exact ⟨rfl, (hbw.trans (hbx.mono hbw.size)).trans (hb1.mono (Nat.le_trans hbw.size hbx.size))⟩
    · subst hh
      have hbx := below_box wr ch' bi' ra' B M.length d
      have hm2 := hmr.below hbx
      have z1 := hE.out.1 (by omega)
      have HZ1 := hid z1
      clear z1
      by_cases e2 : r2 = 0
      · have d2 : (r2 != 0) = false := by simpa using e2
        have d2' : decide (r2 = 0) = true := decide_eq_true e2
        have HE2 := hid e2
        clear e2
        go_wp2_with fail
        refine (K2.out _ hm2).mono ?_
        rintro e w1 ⟨rfl, hb1⟩
        go_wp2_with fail
        exact ⟨⟨2, by omega, by go_num, (hbr.trans (hbx.mono hbr.size)).trans (hb1.mono (Nat.le_trans hbr.size hbx.size)), hid ⟨fun _ => HZ1.out, fun _ => HE2.out⟩⟩, by simp [intOf]⟩
      · have d2 : (r2 != 0) = true := by simpa using e2
        have d2' : decide (r2 = 0) = false := decide_eq_false e2
        obtain rfl : R = r2 := by rw [HR.out, if_neg (by rw [HZ1.out]; simp), if_pos e2]
        go_wp2_with fail
        refine (K2.out _ hm2).mono ?_
        rintro e w1 ⟨rfl, hb1⟩
        go_wp2_with fail
        go_ret
        exact ⟨rfl, (hbw.trans (hbx.mono hbw.size)).trans (hb1.mono (Nat.le_trans hbw.size hbx.size))⟩
    · subst hh
      have z1 := hE.out.1 (by omega)
      have z2 := hE.out.2 (by omega)
      have HR2 := hid (show R = if sameF ch bi ra ch' bi' ra' = true then 0 else 20 by rw [HR.out, if_neg (by rw [z1]; simp), if_neg (by rw [z2]; simp)])
      clear z1 z2 HR
      have har := ha.below hbr
      have hcr := hc.below hbr
      obtain ⟨s0, s1, s2, s3⟩ := har
      obtain ⟨t0, t1, t2, t3⟩ := hcr
      cases hF : sameF ch bi ra ch' bi' ra' with
      | false =>
        rw [hF] at hq
        obtain rfl : R = 20 := by rw [HR2.out, hF]; simp
        clear HR2
        go_wp2_with fail
        go_ret
        exact ⟨rfl, hbw⟩
      | true =>
        rw [hF] at hq
        obtain rfl : R = 0 := by rw [HR2.out, hF]; simp
        clear HR2
        go_wp2_with fail
        go_ret
        exact ⟨rfl, hbw⟩
end Go.Proofs.Ytfinefhebffpcaa
