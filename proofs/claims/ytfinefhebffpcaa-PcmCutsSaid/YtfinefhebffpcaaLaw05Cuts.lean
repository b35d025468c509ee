/- The walk of PcmCuts. -/
import Derived.Test.YtfinefhebffpcaaPcmCuts
import Derived.Test.YtfinefhebffpcaaPcmRCut
import Derived.Test.YtfinefhebffpcaaHeldRow
namespace Go.Proofs.Ytfinefhebffpcaa
set_option linter.unusedVariables false
open Go.RowKit
namespace pcmCuts
set_option maxRecDepth 20000 in
set_option maxHeartbeats 16000000 in
theorem walk (ch bi ra : Int) (A : Option Addr) (c : Nat) (L : List Chan) (f t : Int) (w : World) (h : SeesL w A L ∧ L.length ≤ maxLen ∧ ∀ x ∈ L, x.l.length ≤ x.c) (hf0 : -9223372036854775808 ≤ f ∧ f < 9223372036854775808) (ht0 : -9223372036854775808 ≤ t ∧ t < 9223372036854775808) :
    Calls Try.prog 7 #[.agg #[.int .i64 ch, .int .i64 bi, .int .i64 ra, .slice A L.length c], .int .i64 f, .int .i64 t] w fun e w' => e = .returned (.bool true) ∧ Below w.heap.size w w' := by
  obtain ⟨hl, n1, hcap⟩ := h
  have hb := below_box w ch bi ra A L.length c
  obtain ⟨s0, s1, s2, s3⟩ := SndAt.new w ch bi ra A L.length c
  replace hl := hl.below hb
  have hbW := hb
  clear hb hf0 ht0
  have HS := hid (show ∀ W, SeesL W A L → Calls Try.prog 8 #[.agg #[.int .i64 ch, .int .i64 bi, .int .i64 ra, .slice A L.length c], .int .i64 400] W (SmallPost W 400 L) from fun W hW => rsmall_any ch bi ra A c L 400 W hW n1 (by omega))
  obtain ⟨R, hR⟩ : ∃ R, R = cutV ch bi ra L f t := ⟨_, rfl⟩
  obtain ⟨cols, hcols⟩ : ∃ cols, cols = (List.range L.length).map (cutL L f.toNat t.toNat) := ⟨_, rfl⟩
  obtain ⟨c1, b1, r1, l1, hp1, hp2⟩ : ∃ (c1 b1 r1 : Int) (l1 : List (List Int)), (R = 0 → c1 = ch ∧ b1 = bi ∧ r1 = ra ∧ l1 = cols) ∧ (R ≠ 0 → c1 = 0 ∧ b1 = 0 ∧ r1 = 0 ∧ l1 = []) := by
    by_cases h0 : R = 0
    · exact ⟨ch, bi, ra, cols, fun _ => ⟨rfl, rfl, rfl, rfl⟩, fun h => absurd h0 h⟩
    · exact ⟨0, 0, 0, [], fun h => absurd h h0, fun _ => ⟨rfl, rfl, rfl, rfl⟩⟩
  have HGl := hid (show R = 0 → cols.length ≤ maxLen from fun _ => by rw [hcols]; simpa using n1)
  have HP := hid (fun W (hW : SeesL W A L) => (cut_any ch bi ra A c L f t W hW n1 hcap).mono fun e w' z => by rw [← hR, ← hcols] at z; exact snd_sees z HGl.out c1 b1 r1 l1 hp1 hp2)
  have HQ := hid (fun W (hW : SeesL W A L) => (rcut_any ch bi ra A c L f t W hW n1 hcap).mono fun e w' z => by rw [← hR, ← hcols] at z; exact snd_sees z HGl.out c1 b1 r1 l1 hp1 hp2)
  have HP1 := hid hp1
  have HRR := hid hR
  have HCO := hid hcols
  have HCAP := hid hcap
  have HN1 := hid n1
  clear hp1 hp2 HGl hR hcols hcap n1
  go_enter Try.func7, Try.ntmps7
  go_wp2_with fail
  generalize w.alloc (.cells #[.int .i64 ch, .int .i64 bi, .int .i64 ra, .slice A L.length c] 26) = w0 at *
  refine (HS.out _ hl).mono ?_
  rintro e w1 ⟨bs, rfl, hsm, hb1⟩
  replace s0 := keep1 hb1 s0
  replace s1 := keep1 hb1 s1
  replace s2 := keep1 hb1 s2
  replace s3 := keep1 hb1 s3
  replace hl := hl.below hb1
  replace hbW := hbW.trans (hb1.mono hbW.size)
  clear hb1
  clear HS
  cases bs with
  | false =>
    clear hsm
    go_wp2_with fail
    refine (known_any _).mono ?_
    rintro e wz ⟨rfl, hbz⟩
    go_wp2_with fail
    go_ret
    exact ⟨rfl, hbW.trans (hbz.mono hbW.size)⟩
  | true =>
  clear hsm
  go_wp2_with fail
  refine (HP.out _ hl).mono ?_
  rintro e w4 ⟨Ap, cp, X, rfl, hX, hXi, hXl, hb4⟩
  replace s0 := keep1 hb4 s0
  replace s1 := keep1 hb4 s1
  replace s2 := keep1 hb4 s2
  replace s3 := keep1 hb4 s3
  replace hl := hl.below hb4
  replace hbW := hbW.trans (hb4.mono hbW.size)
  clear hb4
  have hb5 := below_box w4 c1 b1 r1 Ap X.length cp
  obtain ⟨p0, p1, p2, p3⟩ := SndAt.new w4 c1 b1 r1 Ap X.length cp
  replace s0 := keep1 hb5 s0
  replace s1 := keep1 hb5 s1
  replace s2 := keep1 hb5 s2
  replace s3 := keep1 hb5 s3
  replace hl := hl.below hb5
  replace hX := hX.below hb5
  replace hbW := hbW.trans (hb5.mono hbW.size)
  go_wp2_with fail
  generalize hgp : w4.heap.size = gp at *
  replace hgp := hid hgp
  generalize w4.alloc (.cells #[.int .i64 c1, .int .i64 b1, .int .i64 r1, .slice Ap X.length cp] 26) = w5 at *
  clear hb5
  refine (HQ.out _ hl).mono ?_
  rintro e w6 ⟨Aq, cq, N, rfl, hN, hNi, hNl, hb6⟩
  replace s0 := keep1 hb6 s0
  replace s1 := keep1 hb6 s1
  replace s2 := keep1 hb6 s2
  replace s3 := keep1 hb6 s3
  replace p0 := keep1 hb6 p0
  replace p1 := keep1 hb6 p1
  replace p2 := keep1 hb6 p2
  replace p3 := keep1 hb6 p3
  replace hl := hl.below hb6
  replace hX := hX.below hb6
  replace hbW := hbW.trans (hb6.mono hbW.size)
  clear hb6
  clear HP HQ
  have hb7 := below_box w6 c1 b1 r1 Aq N.length cq
  obtain ⟨q0, q1, q2, q3⟩ := SndAt.new w6 c1 b1 r1 Aq N.length cq
  replace s0 := keep1 hb7 s0
  replace s1 := keep1 hb7 s1
  replace s2 := keep1 hb7 s2
  replace s3 := keep1 hb7 s3
  replace p0 := keep1 hb7 p0
  replace p1 := keep1 hb7 p1
  replace p2 := keep1 hb7 p2
  replace p3 := keep1 hb7 p3
  replace hl := hl.below hb7
  replace hX := hX.below hb7
  replace hN := hN.below hb7
  replace hbW := hbW.trans (hb7.mono hbW.size)
  go_wp2_with fail
  generalize hgq : w6.heap.size = gq at *
  replace hgq := hid hgq
  generalize w6.alloc (.cells #[.int .i64 c1, .int .i64 b1, .int .i64 r1, .slice Aq N.length cq] 26) = w7 at *
  clear hb7
  have HSm := rsame_any c1 b1 r1 Ap cp X c1 b1 r1 Aq cq N w7 hX hN hXl hNl
  rw [same_ints c1 b1 r1 (hXi.trans hNi.symm)] at HSm
  refine (HSm).mono ?_
  rintro e w9 ⟨rfl, hb9⟩
  replace s0 := keep1 hb9 s0
  replace s1 := keep1 hb9 s1
  replace s2 := keep1 hb9 s2
  replace s3 := keep1 hb9 s3
  replace p0 := keep1 hb9 p0
  replace p1 := keep1 hb9 p1
  replace p2 := keep1 hb9 p2
  replace p3 := keep1 hb9 p3
  replace hl := hl.below hb9
  replace hX := hX.below hb9
  replace hbW := hbW.trans (hb9.mono hbW.size)
  clear hb9
  clear HSm q0 q1 q2 q3 hN hNi hNl
  by_cases hR : R = 0
  case neg =>
    have dR : (R != 0) = true := by simpa using hR
    have dR' : decide (R = 0) = false := decide_eq_false hR
    have dR2 : (R == 0) = false := by simpa using hR
    clear hR
    go_wp2_with fail
    refine (known_any _).mono ?_
    rintro e wz ⟨rfl, hbz⟩
    go_wp2_with fail
    go_ret
    exact ⟨rfl, hbW.trans (hbz.mono hbW.size)⟩
  obtain ⟨rfl, rfl, rfl, hl1⟩ := HP1.out hR
  obtain ⟨hck, F, T, rfl, rfl, hFT, hTC⟩ := cut_nat (HRR.out.symm.trans hR)
  have hXi2 : ints X = cutsL L F T := by rw [hXi, hl1, HCO.out]; rfl
  subst hR
  obtain ⟨C, hC⟩ : ∃ C, C = countL L := ⟨_, rfl⟩
  have HA := hid (fun W (hW : SeesL W A L) => show Calls Try.prog 29 #[.agg #[.int .i64 c1, .int .i64 b1, .int .i64 r1, .slice A L.length c], .int .i64 0, .int .i64 (F : Int)] W (SoundSees W 0 c1 b1 r1 (cutsL L 0 F)) from cut_sees c1 b1 r1 A c L 0 F hck (by omega) (by omega) W hW HN1.out HCAP.out)
  have HB := hid (fun W (hW : SeesL W A L) => show Calls Try.prog 29 #[.agg #[.int .i64 c1, .int .i64 b1, .int .i64 r1, .slice A L.length c], .int .i64 (T : Int), .int .i64 (C : Int)] W (NewSound W c1 b1 r1 (cutsL L T C)) from by rw [hC]; exact cut_new c1 b1 r1 A c L T (countL L) hck hTC (by omega) W hW HN1.out HCAP.out)
  have CC := hid (fun W (hW : SeesL W A L) => show Calls Try.prog 14 #[.agg #[.int .i64 c1, .int .i64 b1, .int .i64 r1, .slice A L.length c]] W (fun e w' => e = .returned (.int .i64 (C : Int)) ∧ Below W.heap.size W w') from by rw [hC]; exact count_any c1 b1 r1 A c L W hW)
  have HJ1 := hid (fun (W : World) (A1 A2 : Option Addr) (k1 k2 : Nat) (Y1 Y2 : List Chan) (h1 : SeesL W A1 Y1) (h2 : SeesL W A2 Y2) (i1 : ints Y1 = cutsL L 0 F) (i2 : ints Y2 = cutsL L F T) => join_cuts c1 b1 r1 L hck HN1.out 0 F T (by omega) hFT hTC A1 A2 k1 k2 Y1 Y2 W h1 h2 i1 i2)
  have HJ2 := hid (fun (W : World) (A1 A2 : Option Addr) (k1 k2 : Nat) (Y1 Y2 : List Chan) (h1 : SeesL W A1 Y1) (h2 : SeesL W A2 Y2) (i1 : ints Y1 = cutsL L 0 T) (i2 : ints Y2 = cutsL L T C) => join_cuts c1 b1 r1 L hck HN1.out 0 T C (by omega) (by omega) (by omega) A1 A2 k1 k2 Y1 Y2 W h1 h2 i1 i2)
  have HALL := hid (show cutsL L 0 C = ints L from by rw [hC]; exact cuts_all fun x hx => ((check_ok hck).2.2.2 x hx).1)
  clear hck hC hl1 hXi HP1 HRR HCO HCAP hFT hTC
  go_wp2_with fail
  refine (HA.out _ hl).mono ?_
  rintro e wa ⟨Aa, ca, Ya, rfl, hA, hAi, hAl, hb10⟩
  replace s0 := keep1 hb10 s0
  replace s1 := keep1 hb10 s1
  replace s2 := keep1 hb10 s2
  replace s3 := keep1 hb10 s3
  replace p0 := keep1 hb10 p0
  replace p1 := keep1 hb10 p1
  replace p2 := keep1 hb10 p2
  replace p3 := keep1 hb10 p3
  replace hl := hl.below hb10
  replace hX := hX.below hb10
  replace hbW := hbW.trans (hb10.mono hbW.size)
  clear hb10
  clear HA
  have hb11 := below_box wa c1 b1 r1 Aa Ya.length ca
  obtain ⟨z0, z1, z2, z3⟩ := SndAt.new wa c1 b1 r1 Aa Ya.length ca
  replace s0 := keep1 hb11 s0
  replace s1 := keep1 hb11 s1
  replace s2 := keep1 hb11 s2
  replace s3 := keep1 hb11 s3
  replace p0 := keep1 hb11 p0
  replace p1 := keep1 hb11 p1
  replace p2 := keep1 hb11 p2
  replace p3 := keep1 hb11 p3
  replace hl := hl.below hb11
  replace hX := hX.below hb11
  replace hA := hA.below hb11
  replace hbW := hbW.trans (hb11.mono hbW.size)
  go_wp2_with fail
  generalize hgz : wa.heap.size = gz at *
  replace hgz := hid hgz
  generalize wa.alloc (.cells #[.int .i64 c1, .int .i64 b1, .int .i64 r1, .slice Aa Ya.length ca] 26) = wr at *
  clear hb11
  have hSd : SndAt wr w.heap.size c1 b1 r1 A L.length c := ⟨s0, s1, s2, s3⟩
  have hPd : SndAt wr gp c1 b1 r1 Ap X.length cp := ⟨p0, p1, p2, p3⟩
  have hZd : SndAt wr gz c1 b1 r1 Aa Ya.length ca := ⟨z0, z1, z2, z3⟩
  clear s0 s1 s2 s3 p0 p1 p2 p3 z0 z1 z2 z3
  · skip
    refine wp_region_held_drew (S := fun W => SndAt W w.heap.size c1 b1 r1 A L.length c) (by kernel_rfl) hSd (fun hHeld => ?_)
    replace hSd : SndAt wr.drew w.heap.size c1 b1 r1 A L.length c := hSd
    replace hPd : SndAt wr.drew gp c1 b1 r1 Ap X.length cp := hPd
    replace hZd : SndAt wr.drew gz c1 b1 r1 Aa Ya.length ca := hZd
    replace hl : SeesL wr.drew A L := hl
    replace hX : SeesL wr.drew Ap X := hX
    replace hA : SeesL wr.drew Aa Ya := hA
    replace hbW : Below w.heap.size w wr.drew := hbW.drew
    generalize wr.drew = wd at *
    have hs1 : w.heap.size < wd.heap.size := block_lt_of_cell hSd.1
    have hs2 : gp < wd.heap.size := block_lt_of_cell hPd.1
    have hs3 : gz < wd.heap.size := block_lt_of_cell hZd.1
    have hk0 := Below.refl wd.heap.size wd
    refine wpAnyH_takeD (i := 0) (d := some 56) (v := ?v100) rfl rfl (by kernel_rfl) (by kernel_rfl) (by kernel_rfl) (fun _ _ _ h => h) (Or.inl ⟨by rfl, ?hy100⟩) hHeld ?rest100
    case hy100 =>
      intro wS hS
      obtain ⟨e1, e2, e3, e4⟩ := hS
      go_simp
      all_goals with_reducible rfl
    (try simp only [Act.put, List.setIfInBounds_toArray, List.set_cons_zero, List.set_cons_succ])
    refine wpAnyH_takeD (i := 1) (d := some 57) (v := ?v101) rfl rfl (by kernel_rfl) (by kernel_rfl) (by kernel_rfl) (fun _ _ _ h => h) (Or.inl ⟨by rfl, ?hy101⟩) hHeld ?rest101
    case hy101 =>
      intro wS hS
      go_simp
      all_goals with_reducible rfl
    (try simp only [Act.put, List.setIfInBounds_toArray, List.set_cons_zero, List.set_cons_succ])
    refine wpAnyH_takeD (i := 2) (d := some 58) (v := ?v102) rfl rfl (by kernel_rfl) (by kernel_rfl) (by kernel_rfl) (fun _ _ _ h => h) (Or.inl ⟨by rfl, ?hy102⟩) hHeld ?rest102
    case hy102 =>
      intro wS hS
      obtain ⟨e1, e2, e3, e4⟩ := hS
      go_simp
      all_goals with_reducible rfl
    (try simp only [Act.put, List.setIfInBounds_toArray, List.set_cons_zero, List.set_cons_succ])
    refine wpAnyH_ready (rs := [3, 8]) (by kernel_rfl) (by simp) (AllReadyH.cons rfl (fun K hK => ?_) (AllReadyH.cons rfl (fun K hK => ?_) AllReadyH.nil))
    · rw [if_pos (by rfl)]
      go_simp
      refine (CC.out wd (hl.below hk0)).mono ?_
      rintro e we ⟨rfl, hbn⟩
      have hk1 := hk0.trans (hbn.mono hk0.size)
      clear hbn
      go_wp2_with fail
      refine hK.out _ _ (hSd.below hk1) (fun hHeld => ?_)
      clear hK K
      (try simp only [Act.put, List.setIfInBounds_toArray, List.set_cons_zero, List.set_cons_succ])
      refine wpAnyH_ready (rs := [4, 8]) (by kernel_rfl) (by simp) (AllReadyH.cons rfl (fun K hK => ?_) (AllReadyH.cons rfl (fun K hK => ?_) AllReadyH.nil))
      · rw [if_pos (by rfl)]
        go_simp
        refine (HB.out we (hl.below hk1)).mono ?_
        rintro e wf ⟨Ab, cb, Yb, rfl, hB, hBi, hBl, hBA, hBX, hbn⟩
        have hk2 := hk1.trans (hbn.mono hk1.size)
        clear hbn hBA hBX
        go_wp2_with fail
        refine hK.out _ _ (hSd.below hk2) (fun hHeld => ?_)
        clear hK K
        (try simp only [Act.put, List.setIfInBounds_toArray, List.set_cons_zero, List.set_cons_succ])
        refine wpAnyH_takeD (i := 5) (d := some 55) (v := ?v103) rfl rfl (by kernel_rfl) (by kernel_rfl) (by kernel_rfl) (fun _ _ _ h => h) (Or.inl ⟨by rfl, ?hy103⟩) hHeld ?rest103
        case hy103 =>
          intro wS hS
          go_simp
          all_goals with_reducible rfl
        (try simp only [Act.put, List.setIfInBounds_toArray, List.set_cons_zero, List.set_cons_succ])
        refine wpAnyH_takeD (i := 6) (d := some 61) (v := ?v104) rfl rfl (by kernel_rfl) (by kernel_rfl) (by kernel_rfl) (fun _ _ _ h => h) (Or.inl ⟨by rfl, ?hy104⟩) hHeld ?rest104
        case hy104 =>
          intro wS hS
          go_simp
          all_goals with_reducible rfl
        (try simp only [Act.put, List.setIfInBounds_toArray, List.set_cons_zero, List.set_cons_succ])
        refine wpAnyH_takeD (i := 7) (d := some 62) (v := ?v105) rfl rfl (by kernel_rfl) (by kernel_rfl) (by kernel_rfl) (fun _ _ _ h => h) (Or.inl ⟨by rfl, ?hy105⟩) hHeld ?rest105
        case hy105 =>
          intro wS hS
          go_simp
          all_goals with_reducible rfl
        (try simp only [Act.put, List.setIfInBounds_toArray, List.set_cons_zero, List.set_cons_succ])
        refine wpAnyH_ready (rs := [8]) (by kernel_rfl) (by simp) (AllReadyH.cons rfl (fun K hK => ?_) AllReadyH.nil)
        rw [if_pos (by rfl)]
        have hbn : Below wf.heap.size wf (wf.alloc (.cells #[.int .i64 0, .int .i64 0, .int .i64 0, .slice none 0 0] 26)) := (Below.refl _ _).alloc (Nat.le_refl _) _
        have rB := heap_alloc_new wf (.cells #[.int .i64 0, .int .i64 0, .int .i64 0, .slice none 0 0] 26)
        have hgl : wf.heap.size < (wf.alloc (.cells #[.int .i64 0, .int .i64 0, .int .i64 0, .slice none 0 0] 26)).heap.size := by simp
        go_simp
        obtain ⟨gb, hgb⟩ : ∃ gb, gb = wf.heap.size := ⟨_, rfl⟩
        rw [← hgb] at rB hgl ⊢
        have hgd : wd.heap.size ≤ gb := by rw [hgb]; exact hk2.size
        have hB0 := hB
        have hgb0 : wf.heap.size ≤ gb := by omega
        replace hB := hB.below hbn
        have hk3 := hk2.trans (hbn.mono hk2.size)
        clear hbn hgb
        generalize wf.alloc (.cells #[.int .i64 0, .int .i64 0, .int .i64 0, .slice none 0 0] 26) = wg at *
        refine hK.out _ _ (hSd.below hk3) (fun hHeld => ?_)
        clear hK K
        (try simp only [Act.put, List.setIfInBounds_toArray, List.set_cons_zero, List.set_cons_succ])
        refine wpAnyH_ready (rs := [9]) (by kernel_rfl) (by simp) (AllReadyH.cons rfl (fun K hK => ?_) AllReadyH.nil)
        rw [if_pos (by rfl)]
        refine wp_store_row 26 (.tmp 13) (.tmp 61) rfl rfl gb rfl #[.int .i64 c1, .int .i64 b1, .int .i64 r1, .slice Ab Yb.length cb] rfl 26 #[.int .i64 0, .int .i64 0, .int .i64 0, .slice none 0 0] rB (by kernel_rfl) rfl (by simp [Value.oneCell']) ?_
        have hB2 : SeesL (wg.setRow gb #[.int .i64 c1, .int .i64 b1, .int .i64 r1, .slice Ab Yb.length cb]) Ab Yb := hB0.rowOld hB gb hgb0 _
        have hl2 : SeesL (wg.setRow gb #[.int .i64 c1, .int .i64 b1, .int .i64 r1, .slice Ab Yb.length cb]) A L := hl.rowOld (hl.below hk3) gb hgd _
        have hX2 : SeesL (wg.setRow gb #[.int .i64 c1, .int .i64 b1, .int .i64 r1, .slice Ab Yb.length cb]) Ap X := hX.rowOld (hX.below hk3) gb hgd _
        have hA2 : SeesL (wg.setRow gb #[.int .i64 c1, .int .i64 b1, .int .i64 r1, .slice Ab Yb.length cb]) Aa Ya := hA.rowOld (hA.below hk3) gb hgd _
        have hS2 : SndAt (wg.setRow gb #[.int .i64 c1, .int .i64 b1, .int .i64 r1, .slice Ab Yb.length cb]) w.heap.size c1 b1 r1 A L.length c := (hSd.below hk3).row gb (by omega) _
        have hP2 : SndAt (wg.setRow gb #[.int .i64 c1, .int .i64 b1, .int .i64 r1, .slice Ab Yb.length cb]) gp c1 b1 r1 Ap X.length cp := (hPd.below hk3).row gb (by omega) _
        have hZ2 : SndAt (wg.setRow gb #[.int .i64 c1, .int .i64 b1, .int .i64 r1, .slice Ab Yb.length cb]) gz c1 b1 r1 Aa Ya.length ca := (hZd.below hk3).row gb (by omega) _
        have hY2 : SndAt (wg.setRow gb #[.int .i64 c1, .int .i64 b1, .int .i64 r1, .slice Ab Yb.length cb]) gb c1 b1 r1 Ab Yb.length cb := SndAt.ofRow (setRow_heap _ _ _ _ _ _ rB)
        have hW2 : Below w.heap.size w (wg.setRow gb #[.int .i64 c1, .int .i64 b1, .int .i64 r1, .slice Ab Yb.length cb]) := below_setRow (hbW.trans (hk3.mono hbW.size)) (by omega) _
        refine hK.out _ _ hS2 (fun hHeld => ?_)
        clear hK K
        (try simp only [Act.put, List.setIfInBounds_toArray, List.set_cons_zero, List.set_cons_succ])
        refine wpAnyH_takeD (i := 10) (d := some 14) (v := ?v106) rfl rfl (by kernel_rfl) (by kernel_rfl) (by kernel_rfl) (fun _ _ _ h => h) (Or.inl ⟨by rfl, ?hy106⟩) hHeld ?rest106
        case hy106 =>
          intro wS hS
          go_simp
          all_goals with_reducible rfl
        (try simp only [Act.put, List.setIfInBounds_toArray, List.set_cons_zero, List.set_cons_succ])
        refine wpAnyH_done (by kernel_rfl) ?_ _
        clear hHeld
        generalize wg.setRow gb #[.int .i64 c1, .int .i64 b1, .int .i64 r1, .slice Ab Yb.length cb] = wt at *
        clear hSd hPd hZd hl hX hA hB rB hbW HB CC
        obtain ⟨s0, s1, s2, s3⟩ := hS2
        obtain ⟨p0, p1, p2, p3⟩ := hP2
        obtain ⟨z0, z1, z2, z3⟩ := hZ2
        obtain ⟨y0, y1, y2, y3⟩ := hY2
        go_wp2_with fail
        refine (HJ1.out _ _ _ _ _ _ _ hA2 hX2 hAi hXi2).mono ?_
        rintro e wj ⟨Ac, cc, Yc, rfl, hC3, hCi, hCl, hb30⟩
        replace s0 := keep1 hb30 s0
        replace s1 := keep1 hb30 s1
        replace s2 := keep1 hb30 s2
        replace s3 := keep1 hb30 s3
        replace y0 := keep1 hb30 y0
        replace y1 := keep1 hb30 y1
        replace y2 := keep1 hb30 y2
        replace y3 := keep1 hb30 y3
        replace hl2 := hl2.below hb30
        replace hB2 := hB2.below hb30
        replace hW2 := hW2.trans (hb30.mono hW2.size)
        clear hb30 HJ1 p0 p1 p2 p3 z0 z1 z2 z3 hA2 hX2
        have hb31 := below_box wj c1 b1 r1 Ac Yc.length cc
        obtain ⟨u0, u1, u2, u3⟩ := SndAt.new wj c1 b1 r1 Ac Yc.length cc
        replace s0 := keep1 hb31 s0
        replace s1 := keep1 hb31 s1
        replace s2 := keep1 hb31 s2
        replace s3 := keep1 hb31 s3
        replace y0 := keep1 hb31 y0
        replace y1 := keep1 hb31 y1
        replace y2 := keep1 hb31 y2
        replace y3 := keep1 hb31 y3
        replace hl2 := hl2.below hb31
        replace hB2 := hB2.below hb31
        replace hC3 := hC3.below hb31
        replace hW2 := hW2.trans (hb31.mono hW2.size)
        go_wp2_with fail
        generalize hgu : wj.heap.size = gu at *
        replace hgu := hid hgu
        generalize wj.alloc (.cells #[.int .i64 c1, .int .i64 b1, .int .i64 r1, .slice Ac Yc.length cc] 26) = wk at *
        clear hb31
        refine (HJ2.out _ _ _ _ _ _ _ hC3 hB2 hCi hBi).mono ?_
        rintro e wm ⟨Ae, ce, Ye, rfl, hD, hDi, hDl, hb32⟩
        replace s0 := keep1 hb32 s0
        replace s1 := keep1 hb32 s1
        replace s2 := keep1 hb32 s2
        replace s3 := keep1 hb32 s3
        replace hl2 := hl2.below hb32
        replace hW2 := hW2.trans (hb32.mono hW2.size)
        clear hb32 HJ2 y0 y1 y2 y3 u0 u1 u2 u3 hB2 hC3
        have hb33 := below_box wm c1 b1 r1 Ae Ye.length ce
        obtain ⟨v0, v1, v2, v3⟩ := SndAt.new wm c1 b1 r1 Ae Ye.length ce
        replace s0 := keep1 hb33 s0
        replace s1 := keep1 hb33 s1
        replace s2 := keep1 hb33 s2
        replace s3 := keep1 hb33 s3
        replace hl2 := hl2.below hb33
        replace hD := hD.below hb33
        replace hW2 := hW2.trans (hb33.mono hW2.size)
        go_wp2_with fail
        generalize hgv : wm.heap.size = gv at *
        replace hgv := hid hgv
        generalize wm.alloc (.cells #[.int .i64 c1, .int .i64 b1, .int .i64 r1, .slice Ae Ye.length ce] 26) = wn at *
        clear hb33
        have HSb := rsame_any c1 b1 r1 Ae ce Ye c1 b1 r1 A c L wn hD hl2 hDl HN1.out
        rw [same_ints c1 b1 r1 (hDi.trans HALL.out)] at HSb
        refine HSb.mono ?_
        rintro e wo ⟨rfl, hb34⟩
        replace hW2 := hW2.trans (hb34.mono hW2.size)
        clear hb34 HSb
        go_wp2_with fail
        refine (known_any _).mono ?_
        rintro e wz ⟨rfl, hbz⟩
        go_wp2_with fail
        go_ret
        exact ⟨rfl, hW2.trans (hbz.mono hW2.size)⟩
      · rw [if_pos (by rfl)]
        have hbn : Below we.heap.size we (we.alloc (.cells #[.int .i64 0, .int .i64 0, .int .i64 0, .slice none 0 0] 26)) := (Below.refl _ _).alloc (Nat.le_refl _) _
        have rB := heap_alloc_new we (.cells #[.int .i64 0, .int .i64 0, .int .i64 0, .slice none 0 0] 26)
        have hgl : we.heap.size < (we.alloc (.cells #[.int .i64 0, .int .i64 0, .int .i64 0, .slice none 0 0] 26)).heap.size := by simp
        go_simp
        obtain ⟨gb, hgb⟩ : ∃ gb, gb = we.heap.size := ⟨_, rfl⟩
        rw [← hgb] at rB hgl ⊢
        have hgd : wd.heap.size ≤ gb := by rw [hgb]; exact hk1.size
        have hk2 := hk1.trans (hbn.mono hk1.size)
        clear hbn hgb
        generalize we.alloc (.cells #[.int .i64 0, .int .i64 0, .int .i64 0, .slice none 0 0] 26) = wf at *
        refine hK.out _ _ (hSd.below hk2) (fun hHeld => ?_)
        clear hK K
        (try simp only [Act.put, List.setIfInBounds_toArray, List.set_cons_zero, List.set_cons_succ])
        refine wpAnyH_ready (rs := [4]) (by kernel_rfl) (by simp) (AllReadyH.cons rfl (fun K hK => ?_) AllReadyH.nil)
        rw [if_pos (by rfl)]
        go_simp
        refine (HB.out wf (hl.below hk2)).mono ?_
        rintro e wg ⟨Ab, cb, Yb, rfl, hB, hBi, hBl, hBA, hBX, hbn⟩
        have hBA2 : ∀ a, Ab = some a → a.block ≠ gb := fun a ha => by have := hBA a ha; omega
        have hBX2 : ∀ x ∈ Yb, ∀ a, x.A = some a → a.block ≠ gb := fun x hx a ha => by have := hBX x hx a ha; omega
        replace rB := (hbn.block _ hgl).trans rB
        replace hgl := Nat.lt_of_lt_of_le hgl hbn.size
        have hk3 := hk2.trans (hbn.mono hk2.size)
        clear hbn hBA hBX
        go_wp2_with fail
        refine hK.out _ _ (hSd.below hk3) (fun hHeld => ?_)
        clear hK K
        (try simp only [Act.put, List.setIfInBounds_toArray, List.set_cons_zero, List.set_cons_succ])
        refine wpAnyH_takeD (i := 5) (d := some 55) (v := ?v107) rfl rfl (by kernel_rfl) (by kernel_rfl) (by kernel_rfl) (fun _ _ _ h => h) (Or.inl ⟨by rfl, ?hy107⟩) hHeld ?rest107
        case hy107 =>
          intro wS hS
          go_simp
          all_goals with_reducible rfl
        (try simp only [Act.put, List.setIfInBounds_toArray, List.set_cons_zero, List.set_cons_succ])
        refine wpAnyH_takeD (i := 6) (d := some 61) (v := ?v108) rfl rfl (by kernel_rfl) (by kernel_rfl) (by kernel_rfl) (fun _ _ _ h => h) (Or.inl ⟨by rfl, ?hy108⟩) hHeld ?rest108
        case hy108 =>
          intro wS hS
          go_simp
          all_goals with_reducible rfl
        (try simp only [Act.put, List.setIfInBounds_toArray, List.set_cons_zero, List.set_cons_succ])
        refine wpAnyH_takeD (i := 7) (d := some 62) (v := ?v109) rfl rfl (by kernel_rfl) (by kernel_rfl) (by kernel_rfl) (fun _ _ _ h => h) (Or.inl ⟨by rfl, ?hy109⟩) hHeld ?rest109
        case hy109 =>
          intro wS hS
          go_simp
          all_goals with_reducible rfl
        (try simp only [Act.put, List.setIfInBounds_toArray, List.set_cons_zero, List.set_cons_succ])
        refine wpAnyH_ready (rs := [9]) (by kernel_rfl) (by simp) (AllReadyH.cons rfl (fun K hK => ?_) AllReadyH.nil)
        rw [if_pos (by rfl)]
        refine wp_store_row 26 (.tmp 13) (.tmp 61) rfl rfl gb rfl #[.int .i64 c1, .int .i64 b1, .int .i64 r1, .slice Ab Yb.length cb] rfl 26 #[.int .i64 0, .int .i64 0, .int .i64 0, .slice none 0 0] rB (by kernel_rfl) rfl (by simp [Value.oneCell']) ?_
        have hB2 : SeesL (wg.setRow gb #[.int .i64 c1, .int .i64 b1, .int .i64 r1, .slice Ab Yb.length cb]) Ab Yb := hB.rowFar gb _ hBA2 hBX2
        have hl2 : SeesL (wg.setRow gb #[.int .i64 c1, .int .i64 b1, .int .i64 r1, .slice Ab Yb.length cb]) A L := hl.rowOld (hl.below hk3) gb hgd _
        have hX2 : SeesL (wg.setRow gb #[.int .i64 c1, .int .i64 b1, .int .i64 r1, .slice Ab Yb.length cb]) Ap X := hX.rowOld (hX.below hk3) gb hgd _
        have hA2 : SeesL (wg.setRow gb #[.int .i64 c1, .int .i64 b1, .int .i64 r1, .slice Ab Yb.length cb]) Aa Ya := hA.rowOld (hA.below hk3) gb hgd _
        have hS2 : SndAt (wg.setRow gb #[.int .i64 c1, .int .i64 b1, .int .i64 r1, .slice Ab Yb.length cb]) w.heap.size c1 b1 r1 A L.length c := (hSd.below hk3).row gb (by omega) _
        have hP2 : SndAt (wg.setRow gb #[.int .i64 c1, .int .i64 b1, .int .i64 r1, .slice Ab Yb.length cb]) gp c1 b1 r1 Ap X.length cp := (hPd.below hk3).row gb (by omega) _
        have hZ2 : SndAt (wg.setRow gb #[.int .i64 c1, .int .i64 b1, .int .i64 r1, .slice Ab Yb.length cb]) gz c1 b1 r1 Aa Ya.length ca := (hZd.below hk3).row gb (by omega) _
        have hY2 : SndAt (wg.setRow gb #[.int .i64 c1, .int .i64 b1, .int .i64 r1, .slice Ab Yb.length cb]) gb c1 b1 r1 Ab Yb.length cb := SndAt.ofRow (setRow_heap _ _ _ _ _ _ rB)
        have hW2 : Below w.heap.size w (wg.setRow gb #[.int .i64 c1, .int .i64 b1, .int .i64 r1, .slice Ab Yb.length cb]) := below_setRow (hbW.trans (hk3.mono hbW.size)) (by omega) _
        refine hK.out _ _ hS2 (fun hHeld => ?_)
        clear hK K
        (try simp only [Act.put, List.setIfInBounds_toArray, List.set_cons_zero, List.set_cons_succ])
        refine wpAnyH_takeD (i := 10) (d := some 14) (v := ?v110) rfl rfl (by kernel_rfl) (by kernel_rfl) (by kernel_rfl) (fun _ _ _ h => h) (Or.inl ⟨by rfl, ?hy110⟩) hHeld ?rest110
        case hy110 =>
          intro wS hS
          go_simp
          all_goals with_reducible rfl
        (try simp only [Act.put, List.setIfInBounds_toArray, List.set_cons_zero, List.set_cons_succ])
        refine wpAnyH_done (by kernel_rfl) ?_ _
        clear hHeld
        generalize wg.setRow gb #[.int .i64 c1, .int .i64 b1, .int .i64 r1, .slice Ab Yb.length cb] = wt at *
        clear hSd hPd hZd hl hX hA hB rB hbW HB CC
        obtain ⟨s0, s1, s2, s3⟩ := hS2
        obtain ⟨p0, p1, p2, p3⟩ := hP2
        obtain ⟨z0, z1, z2, z3⟩ := hZ2
        obtain ⟨y0, y1, y2, y3⟩ := hY2
        go_wp2_with fail
        refine (HJ1.out _ _ _ _ _ _ _ hA2 hX2 hAi hXi2).mono ?_
        rintro e wj ⟨Ac, cc, Yc, rfl, hC3, hCi, hCl, hb30⟩
        replace s0 := keep1 hb30 s0
        replace s1 := keep1 hb30 s1
        replace s2 := keep1 hb30 s2
        replace s3 := keep1 hb30 s3
        replace y0 := keep1 hb30 y0
        replace y1 := keep1 hb30 y1
        replace y2 := keep1 hb30 y2
        replace y3 := keep1 hb30 y3
        replace hl2 := hl2.below hb30
        replace hB2 := hB2.below hb30
        replace hW2 := hW2.trans (hb30.mono hW2.size)
        clear hb30 HJ1 p0 p1 p2 p3 z0 z1 z2 z3 hA2 hX2
        have hb31 := below_box wj c1 b1 r1 Ac Yc.length cc
        obtain ⟨u0, u1, u2, u3⟩ := SndAt.new wj c1 b1 r1 Ac Yc.length cc
        replace s0 := keep1 hb31 s0
        replace s1 := keep1 hb31 s1
        replace s2 := keep1 hb31 s2
        replace s3 := keep1 hb31 s3
        replace y0 := keep1 hb31 y0
        replace y1 := keep1 hb31 y1
        replace y2 := keep1 hb31 y2
        replace y3 := keep1 hb31 y3
        replace hl2 := hl2.below hb31
        replace hB2 := hB2.below hb31
        replace hC3 := hC3.below hb31
        replace hW2 := hW2.trans (hb31.mono hW2.size)
        go_wp2_with fail
        generalize hgu : wj.heap.size = gu at *
        replace hgu := hid hgu
        generalize wj.alloc (.cells #[.int .i64 c1, .int .i64 b1, .int .i64 r1, .slice Ac Yc.length cc] 26) = wk at *
        clear hb31
        refine (HJ2.out _ _ _ _ _ _ _ hC3 hB2 hCi hBi).mono ?_
        rintro e wm ⟨Ae, ce, Ye, rfl, hD, hDi, hDl, hb32⟩
        replace s0 := keep1 hb32 s0
        replace s1 := keep1 hb32 s1
        replace s2 := keep1 hb32 s2
        replace s3 := keep1 hb32 s3
        replace hl2 := hl2.below hb32
        replace hW2 := hW2.trans (hb32.mono hW2.size)
        clear hb32 HJ2 y0 y1 y2 y3 u0 u1 u2 u3 hB2 hC3
        have hb33 := below_box wm c1 b1 r1 Ae Ye.length ce
        obtain ⟨v0, v1, v2, v3⟩ := SndAt.new wm c1 b1 r1 Ae Ye.length ce
        replace s0 := keep1 hb33 s0
        replace s1 := keep1 hb33 s1
        replace s2 := keep1 hb33 s2
        replace s3 := keep1 hb33 s3
        replace hl2 := hl2.below hb33
        replace hD := hD.below hb33
        replace hW2 := hW2.trans (hb33.mono hW2.size)
        go_wp2_with fail
        generalize hgv : wm.heap.size = gv at *
        replace hgv := hid hgv
        generalize wm.alloc (.cells #[.int .i64 c1, .int .i64 b1, .int .i64 r1, .slice Ae Ye.length ce] 26) = wn at *
        clear hb33
        have HSb := rsame_any c1 b1 r1 Ae ce Ye c1 b1 r1 A c L wn hD hl2 hDl HN1.out
        rw [same_ints c1 b1 r1 (hDi.trans HALL.out)] at HSb
        refine HSb.mono ?_
        rintro e wo ⟨rfl, hb34⟩
        replace hW2 := hW2.trans (hb34.mono hW2.size)
        clear hb34 HSb
        go_wp2_with fail
        refine (known_any _).mono ?_
        rintro e wz ⟨rfl, hbz⟩
        go_wp2_with fail
        go_ret
        exact ⟨rfl, hW2.trans (hbz.mono hW2.size)⟩
    · rw [if_pos (by rfl)]
      have hbn : Below wd.heap.size wd (wd.alloc (.cells #[.int .i64 0, .int .i64 0, .int .i64 0, .slice none 0 0] 26)) := (Below.refl _ _).alloc (Nat.le_refl _) _
      have rB := heap_alloc_new wd (.cells #[.int .i64 0, .int .i64 0, .int .i64 0, .slice none 0 0] 26)
      have hgl : wd.heap.size < (wd.alloc (.cells #[.int .i64 0, .int .i64 0, .int .i64 0, .slice none 0 0] 26)).heap.size := by simp
      go_simp
      obtain ⟨gb, hgb⟩ : ∃ gb, gb = wd.heap.size := ⟨_, rfl⟩
      rw [← hgb] at rB hgl ⊢
      have hgd : wd.heap.size ≤ gb := by rw [hgb]; exact hk0.size
      have hk1 := hk0.trans (hbn.mono hk0.size)
      clear hbn hgb
      generalize wd.alloc (.cells #[.int .i64 0, .int .i64 0, .int .i64 0, .slice none 0 0] 26) = we at *
      refine hK.out _ _ (hSd.below hk1) (fun hHeld => ?_)
      clear hK K
      (try simp only [Act.put, List.setIfInBounds_toArray, List.set_cons_zero, List.set_cons_succ])
      refine wpAnyH_ready (rs := [3]) (by kernel_rfl) (by simp) (AllReadyH.cons rfl (fun K hK => ?_) AllReadyH.nil)
      rw [if_pos (by rfl)]
      go_simp
      refine (CC.out we (hl.below hk1)).mono ?_
      rintro e wf ⟨rfl, hbn⟩
      replace rB := (hbn.block _ hgl).trans rB
      replace hgl := Nat.lt_of_lt_of_le hgl hbn.size
      have hk2 := hk1.trans (hbn.mono hk1.size)
      clear hbn
      go_wp2_with fail
      refine hK.out _ _ (hSd.below hk2) (fun hHeld => ?_)
      clear hK K
      (try simp only [Act.put, List.setIfInBounds_toArray, List.set_cons_zero, List.set_cons_succ])
      refine wpAnyH_ready (rs := [4]) (by kernel_rfl) (by simp) (AllReadyH.cons rfl (fun K hK => ?_) AllReadyH.nil)
      rw [if_pos (by rfl)]
      go_simp
      refine (HB.out wf (hl.below hk2)).mono ?_
      rintro e wg ⟨Ab, cb, Yb, rfl, hB, hBi, hBl, hBA, hBX, hbn⟩
      have hBA2 : ∀ a, Ab = some a → a.block ≠ gb := fun a ha => by have := hBA a ha; omega
      have hBX2 : ∀ x ∈ Yb, ∀ a, x.A = some a → a.block ≠ gb := fun x hx a ha => by have := hBX x hx a ha; omega
      replace rB := (hbn.block _ hgl).trans rB
      replace hgl := Nat.lt_of_lt_of_le hgl hbn.size
      have hk3 := hk2.trans (hbn.mono hk2.size)
      clear hbn hBA hBX
      go_wp2_with fail
      refine hK.out _ _ (hSd.below hk3) (fun hHeld => ?_)
      clear hK K
      (try simp only [Act.put, List.setIfInBounds_toArray, List.set_cons_zero, List.set_cons_succ])
      refine wpAnyH_takeD (i := 5) (d := some 55) (v := ?v111) rfl rfl (by kernel_rfl) (by kernel_rfl) (by kernel_rfl) (fun _ _ _ h => h) (Or.inl ⟨by rfl, ?hy111⟩) hHeld ?rest111
      case hy111 =>
        intro wS hS
        go_simp
        all_goals with_reducible rfl
      (try simp only [Act.put, List.setIfInBounds_toArray, List.set_cons_zero, List.set_cons_succ])
      refine wpAnyH_takeD (i := 6) (d := some 61) (v := ?v112) rfl rfl (by kernel_rfl) (by kernel_rfl) (by kernel_rfl) (fun _ _ _ h => h) (Or.inl ⟨by rfl, ?hy112⟩) hHeld ?rest112
      case hy112 =>
        intro wS hS
        go_simp
        all_goals with_reducible rfl
      (try simp only [Act.put, List.setIfInBounds_toArray, List.set_cons_zero, List.set_cons_succ])
      refine wpAnyH_takeD (i := 7) (d := some 62) (v := ?v113) rfl rfl (by kernel_rfl) (by kernel_rfl) (by kernel_rfl) (fun _ _ _ h => h) (Or.inl ⟨by rfl, ?hy113⟩) hHeld ?rest113
      case hy113 =>
        intro wS hS
        go_simp
        all_goals with_reducible rfl
      (try simp only [Act.put, List.setIfInBounds_toArray, List.set_cons_zero, List.set_cons_succ])
      refine wpAnyH_ready (rs := [9]) (by kernel_rfl) (by simp) (AllReadyH.cons rfl (fun K hK => ?_) AllReadyH.nil)
      rw [if_pos (by rfl)]
      refine wp_store_row 26 (.tmp 13) (.tmp 61) rfl rfl gb rfl #[.int .i64 c1, .int .i64 b1, .int .i64 r1, .slice Ab Yb.length cb] rfl 26 #[.int .i64 0, .int .i64 0, .int .i64 0, .slice none 0 0] rB (by kernel_rfl) rfl (by simp [Value.oneCell']) ?_
      have hB2 : SeesL (wg.setRow gb #[.int .i64 c1, .int .i64 b1, .int .i64 r1, .slice Ab Yb.length cb]) Ab Yb := hB.rowFar gb _ hBA2 hBX2
      have hl2 : SeesL (wg.setRow gb #[.int .i64 c1, .int .i64 b1, .int .i64 r1, .slice Ab Yb.length cb]) A L := hl.rowOld (hl.below hk3) gb hgd _
      have hX2 : SeesL (wg.setRow gb #[.int .i64 c1, .int .i64 b1, .int .i64 r1, .slice Ab Yb.length cb]) Ap X := hX.rowOld (hX.below hk3) gb hgd _
      have hA2 : SeesL (wg.setRow gb #[.int .i64 c1, .int .i64 b1, .int .i64 r1, .slice Ab Yb.length cb]) Aa Ya := hA.rowOld (hA.below hk3) gb hgd _
      have hS2 : SndAt (wg.setRow gb #[.int .i64 c1, .int .i64 b1, .int .i64 r1, .slice Ab Yb.length cb]) w.heap.size c1 b1 r1 A L.length c := (hSd.below hk3).row gb (by omega) _
      have hP2 : SndAt (wg.setRow gb #[.int .i64 c1, .int .i64 b1, .int .i64 r1, .slice Ab Yb.length cb]) gp c1 b1 r1 Ap X.length cp := (hPd.below hk3).row gb (by omega) _
      have hZ2 : SndAt (wg.setRow gb #[.int .i64 c1, .int .i64 b1, .int .i64 r1, .slice Ab Yb.length cb]) gz c1 b1 r1 Aa Ya.length ca := (hZd.below hk3).row gb (by omega) _
      have hY2 : SndAt (wg.setRow gb #[.int .i64 c1, .int .i64 b1, .int .i64 r1, .slice Ab Yb.length cb]) gb c1 b1 r1 Ab Yb.length cb := SndAt.ofRow (setRow_heap _ _ _ _ _ _ rB)
      have hW2 : Below w.heap.size w (wg.setRow gb #[.int .i64 c1, .int .i64 b1, .int .i64 r1, .slice Ab Yb.length cb]) := below_setRow (hbW.trans (hk3.mono hbW.size)) (by omega) _
      refine hK.out _ _ hS2 (fun hHeld => ?_)
      clear hK K
      (try simp only [Act.put, List.setIfInBounds_toArray, List.set_cons_zero, List.set_cons_succ])
      refine wpAnyH_takeD (i := 10) (d := some 14) (v := ?v114) rfl rfl (by kernel_rfl) (by kernel_rfl) (by kernel_rfl) (fun _ _ _ h => h) (Or.inl ⟨by rfl, ?hy114⟩) hHeld ?rest114
      case hy114 =>
        intro wS hS
        go_simp
        all_goals with_reducible rfl
      (try simp only [Act.put, List.setIfInBounds_toArray, List.set_cons_zero, List.set_cons_succ])
      refine wpAnyH_done (by kernel_rfl) ?_ _
      clear hHeld
      generalize wg.setRow gb #[.int .i64 c1, .int .i64 b1, .int .i64 r1, .slice Ab Yb.length cb] = wt at *
      clear hSd hPd hZd hl hX hA hB rB hbW HB CC
      obtain ⟨s0, s1, s2, s3⟩ := hS2
      obtain ⟨p0, p1, p2, p3⟩ := hP2
      obtain ⟨z0, z1, z2, z3⟩ := hZ2
      obtain ⟨y0, y1, y2, y3⟩ := hY2
      go_wp2_with fail
      refine (HJ1.out _ _ _ _ _ _ _ hA2 hX2 hAi hXi2).mono ?_
      rintro e wj ⟨Ac, cc, Yc, rfl, hC3, hCi, hCl, hb30⟩
      replace s0 := keep1 hb30 s0
      replace s1 := keep1 hb30 s1
      replace s2 := keep1 hb30 s2
      replace s3 := keep1 hb30 s3
      replace y0 := keep1 hb30 y0
      replace y1 := keep1 hb30 y1
      replace y2 := keep1 hb30 y2
      replace y3 := keep1 hb30 y3
      replace hl2 := hl2.below hb30
      replace hB2 := hB2.below hb30
      replace hW2 := hW2.trans (hb30.mono hW2.size)
      clear hb30 HJ1 p0 p1 p2 p3 z0 z1 z2 z3 hA2 hX2
      have hb31 := below_box wj c1 b1 r1 Ac Yc.length cc
      obtain ⟨u0, u1, u2, u3⟩ := SndAt.new wj c1 b1 r1 Ac Yc.length cc
      replace s0 := keep1 hb31 s0
      replace s1 := keep1 hb31 s1
      replace s2 := keep1 hb31 s2
      replace s3 := keep1 hb31 s3
      replace y0 := keep1 hb31 y0
      replace y1 := keep1 hb31 y1
      replace y2 := keep1 hb31 y2
      replace y3 := keep1 hb31 y3
      replace hl2 := hl2.below hb31
      replace hB2 := hB2.below hb31
      replace hC3 := hC3.below hb31
      replace hW2 := hW2.trans (hb31.mono hW2.size)
      go_wp2_with fail
      generalize hgu : wj.heap.size = gu at *
      replace hgu := hid hgu
      generalize wj.alloc (.cells #[.int .i64 c1, .int .i64 b1, .int .i64 r1, .slice Ac Yc.length cc] 26) = wk at *
      clear hb31
      refine (HJ2.out _ _ _ _ _ _ _ hC3 hB2 hCi hBi).mono ?_
      rintro e wm ⟨Ae, ce, Ye, rfl, hD, hDi, hDl, hb32⟩
      replace s0 := keep1 hb32 s0
      replace s1 := keep1 hb32 s1
      replace s2 := keep1 hb32 s2
      replace s3 := keep1 hb32 s3
      replace hl2 := hl2.below hb32
      replace hW2 := hW2.trans (hb32.mono hW2.size)
      clear hb32 HJ2 y0 y1 y2 y3 u0 u1 u2 u3 hB2 hC3
      have hb33 := below_box wm c1 b1 r1 Ae Ye.length ce
      obtain ⟨v0, v1, v2, v3⟩ := SndAt.new wm c1 b1 r1 Ae Ye.length ce
      replace s0 := keep1 hb33 s0
      replace s1 := keep1 hb33 s1
      replace s2 := keep1 hb33 s2
      replace s3 := keep1 hb33 s3
      replace hl2 := hl2.below hb33
      replace hD := hD.below hb33
      replace hW2 := hW2.trans (hb33.mono hW2.size)
      go_wp2_with fail
      generalize hgv : wm.heap.size = gv at *
      replace hgv := hid hgv
      generalize wm.alloc (.cells #[.int .i64 c1, .int .i64 b1, .int .i64 r1, .slice Ae Ye.length ce] 26) = wn at *
      clear hb33
      have HSb := rsame_any c1 b1 r1 Ae ce Ye c1 b1 r1 A c L wn hD hl2 hDl HN1.out
      rw [same_ints c1 b1 r1 (hDi.trans HALL.out)] at HSb
      refine HSb.mono ?_
      rintro e wo ⟨rfl, hb34⟩
      replace hW2 := hW2.trans (hb34.mono hW2.size)
      clear hb34 HSb
      go_wp2_with fail
      refine (known_any _).mono ?_
      rintro e wz ⟨rfl, hbz⟩
      go_wp2_with fail
      go_ret
      exact ⟨rfl, hW2.trans (hbz.mono hW2.size)⟩
end pcmCuts
end Go.Proofs.Ytfinefhebffpcaa
