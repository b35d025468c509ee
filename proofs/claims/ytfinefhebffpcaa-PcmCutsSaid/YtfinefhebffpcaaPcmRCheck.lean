/- What is wrong with sound: the reference's answer. -/
import Derived.Test.YtfinefhebffpcaaPcmCheck
import Derived.Deep.RegionHeld3
import Derived.BigQuiet
import Derived.Test.YtfinefhebffpcaaIntsEq
namespace Go.Proofs.Ytfinefhebffpcaa
set_option linter.unusedVariables false
open Go.RowKit
set_option maxRecDepth 20000 in
set_option maxHeartbeats 4000000 in
theorem rcheck_any (ch bi ra : Int) (A : Option Addr) (c : Nat) (L : List Chan) (w : World) (h : SeesL w A L) (hlen : L.length ≤ maxLen) :
    Calls Try.prog 13 #[.agg #[.int .i64 ch, .int .i64 bi, .int .i64 ra, .slice A L.length c]] w fun e w' => e = .returned (.int .i64 (checkV ch bi ra L)) ∧ Below w.heap.size w w' := by
  unfold maxLen at hlen
  obtain ⟨R, hR⟩ : ∃ R, R = checkV ch bi ra L := ⟨_, rfl⟩
  rw [← hR]
  have HR := hid hR
  clear hR
  have hb := below_box w ch bi ra A L.length c
  have hs := SndAt.new w ch bi ra A L.length c
  have h0 := h.below hb
  clear h
  cases hr : rightF ch bi ra with
  | false =>
    have hp := hid (fun W => rpright_any ch bi ra W)
    rw [hr] at hp
    obtain rfl : R = 20 := by rw [HR.out, checkV, if_pos hr]
    clear HR hs h0
    go_enter Try.func13, Try.ntmps13
    go_wp2_with fail
    refine (hp.out _).mono ?_
    rintro e w1 ⟨rfl, hb1⟩
    go_wp2_with fail
    go_ret
    exact ⟨rfl, hb.trans (hb1.mono hb.size)⟩
  | true =>
    have hp := hid (fun W => rpright_any ch bi ra W)
    rw [hr] at hp
    have hrr := hr
    unfold rightF at hrr
    have hrr := of_decide_eq_true hrr
    obtain ⟨n, rfl⟩ : ∃ n : Nat, bi = (n : Int) := ⟨bi.toNat, by omega⟩
    have h8 : 8 ≤ n := by omega
    have h24 : n ≤ 24 := by omega
    have HC := hid (fun W hW => rcount_any ch n ra A c L W hW)
    have HX := hid (show R = if (L.length : Int) ≠ ch ∨ 4294967295 < countL L then 22 else if (L.any fun x => x.l.length != countL L) = true then 22 else if (L.any fun x => loudI n x.l) = true then 21 else 0 by
      rw [HR.out, checkV, if_neg (by rw [hr]; simp)]; rfl)
    obtain ⟨BU, hBU⟩ : ∃ BU, BU = L.any fun x => x.l.length != countL L := ⟨_, rfl⟩
    obtain ⟨BL, hBL⟩ : ∃ BL, BL = L.any fun x => loudI n x.l := ⟨_, rfl⟩
    rw [← hBU, ← hBL] at HX
    obtain ⟨C, hC⟩ : ∃ C, C = countL L := ⟨_, rfl⟩
    rw [← hC] at HX HC hBU
    have HBU := hid hBU
    have HBL := hid hBL
    clear hr hrr HR hC hBU hBL
    by_cases hch : (L.length : Int) = ch
    · have dch : ((L.length : Int) != ch) = false := by simpa using hch
      by_cases hC : 4294967295 < C
      · have dC : decide (4294967295 < (C : Int)) = true := decide_eq_true (by omega)
        obtain rfl : R = 22 := by rw [HX.out, if_pos (.inr hC)]
        clear HX
        go_enter Try.func13, Try.ntmps13
        go_wp2_with fail
        refine (hp.out _).mono ?_
        rintro e w1 ⟨rfl, hb1⟩
        have hs1 := hs.below hb1
        have h1 := h0.below hb1
        obtain ⟨s0, s1, s2, s3⟩ := hs1
        have hbw1 := hb.trans (hb1.mono hb.size)
        clear hb hb1 hs h0
        go_wp2_with fail
        refine (HC.out _ h1).mono ?_
        rintro e w2 ⟨rfl, hb2⟩
        have hbw2 := hbw1.trans (hb2.mono hbw1.size)
        clear hbw1 hb2 s0 s1 s2 s3 h1
        go_wp2_with fail
        go_ret
        exact ⟨rfl, hbw2⟩
      · have dC : decide (4294967295 < (C : Int)) = false := decide_eq_false (by omega)
        have HX2 := hid (HX.out.trans (if_neg (by rintro (h | h); exact h hch; exact hC h)))
        clear HX
        go_enter Try.func13, Try.ntmps13
        go_wp2_with fail
        refine (hp.out _).mono ?_
        rintro e w1 ⟨rfl, hb1⟩
        have hs1 := hs.below hb1
        have h1 := h0.below hb1
        have hbw1 := hb.trans (hb1.mono hb.size)
        clear hb hb1 hs h0
        have hs1' := hs1
        obtain ⟨s0, s1, s2, s3⟩ := hs1
        go_wp2_with fail
        refine (HC.out _ h1).mono ?_
        rintro e w2 ⟨rfl, hb2⟩
        have hs2 := hs1'.below hb2
        have h2 := h1.below hb2
        have hbw2 := hbw1.trans (hb2.mono hbw1.size)
        clear hbw1 hb2 s0 s1 s2 s3 h1 hs1'
        go_wp2_with fail
        go_loopw [3] (fun i wr => ∃ k : Nat, k ≤ L.length ∧ i = .int .i64 (k : Int) ∧ Below w2.heap.size w2 wr ∧ Hid (BU = (L.drop k).any fun x => x.l.length != C)) (fun i _ => L.length - (intOf i).toNat)
        case atStart => exact ⟨0, by omega, rfl, Below.refl _ _, hid HBU.out⟩
        case round =>
          obtain ⟨k, hk, rfl, hbr, hE⟩ := hrel
          have hsr := hs2.below hbr
          have hlr := h2.below hbr
          obtain ⟨s0, s1, s2, s3⟩ := hsr
          by_cases hlt : k < L.length
          · have dk : decide ((k : Int) < (L.length : Int)) = true := decide_eq_true (by omega)
            obtain ⟨a, hAa, hc⟩ := hlr.at hlt
            have HS := hid (show ((L.drop k).any fun x => x.l.length != C) = ((L[k].l.length != C) || ((L.drop (k + 1)).any fun x => x.l.length != C)) by rw [List.drop_eq_getElem_cons hlt]; rfl)
            generalize L[k] = x at *
            have hc' : wr.cell? (a.add k) = some (.slice x.A x.l.length x.c) := hc
            subst hAa
            clear hc
            go_wp2_with fail
            go_region_held3 (fun w' => w'.cell? ⟨w.heap.size, 0, none⟩ = some (.int .i64 ch) ∧ w'.cell? ⟨w.heap.size, 1, none⟩ = some (.int .i64 (n : Int)) ∧ w'.cell? ⟨w.heap.size, 2, none⟩ = some (.int .i64 ra) ∧ w'.cell? ⟨w.heap.size, 3, none⟩ = some (.slice (some a) L.length c) ∧ w'.cell? (a.add k) = some (.slice x.A x.l.length x.c)) (first | exact ⟨s0, s1, s2, s3, hc'⟩ | exact ⟨f0, f1, f2, f3, f4⟩ | go_keep)
              (first | (go_at_call 15; refine (HC.out _ ?_).mono ?_; exact hlr; rintro e w3 ⟨rfl, hb3⟩; have f0 := keep1 hb3 s0; have f1 := keep1 hb3 s1; have f2 := keep1 hb3 s2; have f3 := keep1 hb3 s3; have f4 := keep1 hb3 hc'))
            have hb3' : Below wr.heap.size wr w3 := undrew hb3
            have hbw3 := hbr.trans (hb3'.mono hbr.size)
            clear hb3 hb3' f0 f1 f2 f3 f4 s0 s1 s2 s3 hc' hlr
            by_cases hne : x.l.length = C
            · have dne : ((x.l.length : Int) != (C : Int)) = false := by rw [hne]; simp
              have hxc : (x.l.length != C) = false := by simpa using hne
              rw [hxc] at HS
              clear hne hxc
              go_wp2_with fail
              go_roundw
              case rel => exact ⟨k + 1, by omega, by go_num, hbw3, hid (by rw [hE.out, HS.out]; rfl)⟩
              case measure => simp [intOf]; omega
            · have dne : ((x.l.length : Int) != (C : Int)) = true := by simp; omega
              have hxc : (x.l.length != C) = true := by simpa using hne
              rw [hxc] at HS
              obtain rfl : R = 22 := by rw [HX2.out, hE.out, HS.out]; rfl
              clear hne hxc HX2
              go_wp2_with fail
              go_ret
              exact ⟨rfl, hbw2.trans (hbw3.mono hbw2.size)⟩
          · obtain rfl : k = L.length := by omega
            have dk : decide ((L.length : Int) < (L.length : Int)) = false := decide_eq_false (by omega)
            have hBUf : BU = false := by rw [hE.out, List.drop_length]; rfl
            have HX3 := hid (show R = if BL = true then 21 else 0 by rw [HX2.out, if_neg (by rw [hBUf]; simp)])
            have hbw3 := hbw2.trans (hbr.mono hbw2.size)
            have hs3 := hs2.below hbr
            clear HX2 hBUf HBU hE hs2 h2 hbw2 hbr
            go_wp2_with fail
            clear s0 s1 s2 s3
            generalize wr = w3 at *
            go_loopw [4] (fun i wq => ∃ k : Nat, k ≤ L.length ∧ i = .int .i64 (k : Int) ∧ Below w3.heap.size w3 wq ∧ Hid (BL = (L.drop k).any fun x => loudI n x.l)) (fun i _ => L.length - (intOf i).toNat)
            case atStart => exact ⟨0, by omega, rfl, Below.refl _ _, hid HBL.out⟩
            case round =>
              obtain ⟨k, hk, rfl, hbq, hE⟩ := hrel
              have hlq := hlr.below hbq
              have hsq := hs3.below hbq
              by_cases hlt : k < L.length
              · have dk : decide ((k : Int) < (L.length : Int)) = true := decide_eq_true (by omega)
                obtain ⟨a, hAa, hc⟩ := hlq.at hlt
                have HS := hid (show ((L.drop k).any fun x => loudI n x.l) = (loudI n L[k].l || ((L.drop (k + 1)).any fun x => loudI n x.l)) by rw [List.drop_eq_getElem_cons hlt]; rfl)
                have hxm := hlq.2 L[k] (List.getElem_mem hlt)
                generalize L[k] = x at *
                have hc' : wr.cell? (a.add k) = some (.slice x.A x.l.length x.c) := hc
                subst hAa
                obtain ⟨hx1, hx2⟩ := hxm
                unfold maxLen at hx2
                obtain ⟨s0, s1, s2, s3⟩ := hsq
                clear hc hlr hlq
                have HW := hid hbw3
                go_wp2_with fail
                generalize wr = w4 at *
                go_loopw [5] (fun i wv => ∃ j : Nat, j ≤ x.l.length ∧ i = .int .i64 (j : Int) ∧ Below w4.heap.size w4 wv ∧ Hid (loudI n x.l = loudI n (x.l.drop j))) (fun i _ => x.l.length - (intOf i).toNat)
                case atStart => exact ⟨0, by omega, rfl, Below.refl _ _, hid rfl⟩
                case round =>
                  obtain ⟨j, hj, rfl, hbv, hF⟩ := hrel
                  have t0 := keep1 hbv s0
                  have t1 := keep1 hbv s1
                  have t2 := keep1 hbv s2
                  have t3 := keep1 hbv s3
                  have t4 := keep1 hbv hc'
                  by_cases hlj : j < x.l.length
                  · have dj : decide ((j : Int) < (x.l.length : Int)) = true := decide_eq_true (by omega)
                    obtain ⟨b, hAb, hd⟩ := (hx1.below hbv).at hlj
                    rw [hAb] at t4
                    have HT := hid (show loudI n (x.l.drop j) = (!fitsB x.l[j] n || loudI n (x.l.drop (j + 1))) by rw [List.drop_eq_getElem_cons hlj]; rfl)
                    generalize x.l[j] = y at *
                    have hf := rfits_any y n
                    cases hy : fitsB y n with
                    | true =>
                      rw [hy] at hf HT
                      go_wp2_with fail
                      go_quiet ((go_at_call 36; exact Calls.quiet_of_same (same (hf _ h8 h24))))
                      go_wp2_with fail
                      exact ⟨⟨j + 1, by omega, by go_num, drewBelow hbv _, hid (by rw [hF.out, HT.out]; rfl)⟩, by simp [intOf]; omega⟩
                    | false =>
                      rw [hy] at hf HT
                      obtain rfl : R = 21 := by rw [HX3.out, hE.out, HS.out, hF.out, HT.out]; rfl
                      clear HX3
                      go_wp2_with fail
                      go_quiet ((go_at_call 36; exact Calls.quiet_of_same (same (hf _ h8 h24))))
                      go_wp2_with fail
                      go_ret
                      exact ⟨rfl, drewBelow ((hbw3.trans (hbq.mono hbw3.size)).trans (hbv.mono (Nat.le_trans hbw3.size hbq.size))) _⟩
                  · obtain rfl : j = x.l.length := by omega
                    have dj : decide ((x.l.length : Int) < (x.l.length : Int)) = false := decide_eq_false (by omega)
                    have hlf : loudI n x.l = false := by rw [hF.out, List.drop_length]; rfl
                    rw [hlf] at HS
                    go_wp2_with fail
                    exact ⟨⟨k + 1, by omega, by go_num, hbq.trans (hbv.mono hbq.size), hid (by rw [hE.out, HS.out]; rfl)⟩, by simp [intOf]; omega⟩
              · obtain rfl : k = L.length := by omega
                have dk : decide ((L.length : Int) < (L.length : Int)) = false := decide_eq_false (by omega)
                obtain rfl : R = 0 := by rw [HX3.out, hE.out, List.drop_length]; rfl
                obtain ⟨s0, s1, s2, s3⟩ := hsq
                go_wp2_with fail
                go_ret
                exact ⟨rfl, hbw3.trans (hbq.mono hbw3.size)⟩
    · have dch : ((L.length : Int) != ch) = true := by simpa using hch
      obtain rfl : R = 22 := by rw [HX.out, if_pos (.inl hch)]
      clear HX
      go_enter Try.func13, Try.ntmps13
      go_wp2_with fail
      refine (hp.out _).mono ?_
      rintro e w1 ⟨rfl, hb1⟩
      have hs1 := hs.below hb1
      obtain ⟨s0, s1, s2, s3⟩ := hs1
      have hbw1 := hb.trans (hb1.mono hb.size)
      clear hb hb1 hs h0
      go_wp2_with fail
      go_ret
      exact ⟨rfl, hbw1⟩
end Go.Proofs.Ytfinefhebffpcaa
