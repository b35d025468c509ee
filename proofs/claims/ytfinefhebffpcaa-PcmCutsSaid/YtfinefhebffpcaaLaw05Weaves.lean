/- The walk of PcmWeaves. -/
import Derived.Test.YtfinefhebffpcaaLaw05Known
import Derived.Test.YtfinefhebffpcaaPcmSmall
import Derived.Test.YtfinefhebffpcaaPcmRWeave
import Derived.Test.YtfinefhebffpcaaPcmRound
namespace Go.Proofs.Ytfinefhebffpcaa
set_option linter.unusedVariables false
open Go.RowKit
def ListSees (w : World) (r : Int) (o : List Int) (e : Ending) (w' : World) : Prop := ∃ (A : Option Addr) (c : Nat), e = .returned (.tuple #[.slice A o.length c, .int .i64 r]) ∧ SeesI w' A o ∧ Below w.heap.size w w'
theorem weave_list (ch bi ra : Int) (A : Option Addr) (c : Nat) (L : List Chan) (w : World) (h : SeesL w A L) (hlen : L.length ≤ maxLen) (R : Int) (O : List Int) (hR : checkV ch bi ra L = R) (hO : O = if R = 0 then weaveTo L (countL L) else []) :
    Calls Try.prog 16 #[.agg #[.int .i64 ch, .int .i64 bi, .int .i64 ra, .slice A L.length c]] w (ListSees w R O) := by
  by_cases h0 : R = 0
  · rw [if_pos h0] at hO
    refine (weave_ok ch bi ra A c L w h hlen (hR.trans h0)).mono ?_
    rintro e w' ⟨v, rfl, B, d, rfl, ho, hb⟩
    exact ⟨B, d, by rw [hO, h0], by rw [hO]; exact own_sees ho, hb⟩
  · rw [if_neg h0] at hO
    refine (weave_bad ch bi ra A c L w h hlen (by rw [hR]; exact h0)).mono ?_
    rintro e w' ⟨rfl, hb⟩
    exact ⟨none, 0, by rw [hO, hR]; rfl, by rw [hO]; exact Sees.nil _ _, hb⟩
theorem rweave_list (ch bi ra : Int) (A : Option Addr) (c : Nat) (L : List Chan) (w : World) (h : SeesL w A L) (hlen : L.length ≤ maxLen) (R : Int) (O : List Int) (hR : checkV ch bi ra L = R) (hO : O = if R = 0 then weaveTo L (countL L) else []) :
    Calls Try.prog 17 #[.agg #[.int .i64 ch, .int .i64 bi, .int .i64 ra, .slice A L.length c]] w (ListSees w R O) := by
  by_cases h0 : R = 0
  · rw [if_pos h0] at hO
    refine (rweave_ok ch bi ra A c L w h hlen (hR.trans h0)).mono ?_
    rintro e w' ⟨v, rfl, B, d, rfl, ho, hb⟩
    exact ⟨B, d, by rw [hO, h0], by rw [hO]; exact own_sees ho, hb⟩
  · rw [if_neg h0] at hO
    refine (rweave_bad ch bi ra A c L w h hlen (by rw [hR]; exact h0)).mono ?_
    rintro e w' ⟨rfl, hb⟩
    exact ⟨none, 0, by rw [hO, hR]; rfl, by rw [hO]; exact Sees.nil _ _, hb⟩
def SoundSees (w : World) (r c1 b1 r1 : Int) (ll : List (List Int)) (e : Ending) (w' : World) : Prop :=
  ∃ (A : Option Addr) (c : Nat) (M : List Chan), e = .returned (.tuple #[.agg #[.int .i64 c1, .int .i64 b1, .int .i64 r1, .slice A M.length c], .int .i64 r]) ∧ SeesL w' A M ∧ ints M = ll ∧ M.length ≤ maxLen ∧ Below w.heap.size w w'
theorem snd_sees {w : World} {r ch bi ra : Int} {ll : List (List Int)} {e : Ending} {w' : World} (h : SndPost w r ch bi ra ll e w') (hll : r = 0 → ll.length ≤ maxLen) (c1 b1 r1 : Int) (l1 : List (List Int)) (h1 : r = 0 → c1 = ch ∧ b1 = bi ∧ r1 = ra ∧ l1 = ll) (h2 : r ≠ 0 → c1 = 0 ∧ b1 = 0 ∧ r1 = 0 ∧ l1 = []) : SoundSees w r c1 b1 r1 l1 e w' := by
  unfold SndPost at h
  by_cases hr : r = 0
  · rw [if_pos hr] at h
    obtain ⟨A, c, M, rfl, hs, hi, hb⟩ := h
    obtain ⟨rfl, rfl, rfl, rfl⟩ := h1 hr
    refine ⟨A, c, M, by rw [hr], hs, hi, ?_, hb⟩
    have := congrArg List.length hi
    rw [show (ints M).length = M.length by simp [ints]] at this
    rw [this]
    exact hll hr
  · rw [if_neg hr] at h
    obtain ⟨rfl, hb⟩ := h
    obtain ⟨rfl, rfl, rfl, rfl⟩ := h2 hr
    exact ⟨none, 0, [], rfl, ⟨Sees.nil _ _, by simp⟩, rfl, by simp, hb⟩
theorem cols_len {ch bi ra : Int} {l : List Int} (h : partV ch bi ra l = 0) (f : Nat → List Int) : ((List.range ch.toNat).map f).length ≤ maxLen := by
  unfold partV at h
  cases hr : rightF ch bi ra with
  | false => rw [hr] at h; simp at h
  | true =>
    unfold rightF at hr
    have := of_decide_eq_true hr
    simp [maxLen]
    omega
theorem same_ints (ch bi ra : Int) {L M : List Chan} (h : ints L = ints M) : sameS ch bi ra L ch bi ra M = true := by simp [sameS, sameF, h]
namespace pcmWeaves
set_option maxRecDepth 20000 in
set_option maxHeartbeats 8000000 in
theorem walk (ch bi ra : Int) (A : Option Addr) (c : Nat) (L : List Chan) (Al : Option Addr) (cl : Nat) (l : List Int) (w : World) (h : SeesL w A L ∧ L.length ≤ maxLen) (h' : SeesI w Al l ∧ l.length ≤ cl ∧ cl ≤ maxLen) :
    Calls Try.prog 4 #[.agg #[.int .i64 ch, .int .i64 bi, .int .i64 ra, .slice A L.length c], .slice Al l.length cl] w fun e w' => e = .returned (.bool true) ∧ Below w.heap.size w w' := by
  obtain ⟨hl, n1⟩ := h
  obtain ⟨hi, hic, hicm⟩ := h'
  unfold maxLen at hicm
  have hlm : l.length ≤ 9223372036854775807 := by omega
  have hb := below_box w ch bi ra A L.length c
  have hs := SndAt.new w ch bi ra A L.length c
  replace hl := hl.below hb
  replace hi := hi.below hb
  have hbW := hb
  obtain ⟨s0, s1, s2, s3⟩ := hs
  clear hb hic hicm
  have HS := hid (show ∀ W, SeesL W A L → Calls Try.prog 8 #[.agg #[.int .i64 ch, .int .i64 bi, .int .i64 ra, .slice A L.length c], .int .i64 400] W (SmallPost W 400 L) from fun W hW => rsmall_any ch bi ra A c L 400 W hW n1 (by omega))
  obtain ⟨R, hR⟩ : ∃ R, checkV ch bi ra L = R := ⟨_, rfl⟩
  obtain ⟨O, hO⟩ : ∃ O, O = if R = 0 then weaveTo L (countL L) else [] := ⟨_, rfl⟩
  have HW := hid (fun W hW => weave_list ch bi ra A c L W hW n1 R O hR hO)
  have HV := hid (fun W hW => rweave_list ch bi ra A c L W hW n1 R O hR hO)
  have HR0 := hid (show R = 0 → partV ch bi ra O = 0 ∧ (List.range ch.toNat).map (colL O ch.toNat (O.length / ch.toNat)) = ints L from fun h0 => by
    rw [if_pos h0] at hO
    rw [hO]
    exact part_weave (hR.trans h0))
  have HOl := hid (show SmallOk 400 L → O.length ≤ 3600 from fun hsm => by
    rw [hO]
    split
    · rw [weaveTo_len]
      obtain ⟨a1, a2, a3⟩ := hsm
      have hc : countL L ≤ 400 := by
        cases hLL : L with
        | nil => simp [countL]
        | cons x L' => exact a3 x (by rw [hLL]; simp)
      have : countL L * L.length ≤ 400 * 9 := Nat.mul_le_mul hc a1
      omega
    · simp)
  clear hR hO
  obtain ⟨G, hG⟩ : ∃ G, G = partV ch bi ra l := ⟨_, rfl⟩
  obtain ⟨cols, hcols⟩ : ∃ cols, cols = (List.range ch.toNat).map (colL l ch.toNat (l.length / ch.toNat)) := ⟨_, rfl⟩
  obtain ⟨c1, b1, r1, l1, hp1, hp2⟩ : ∃ (c1 b1 r1 : Int) (l1 : List (List Int)), (G = 0 → c1 = ch ∧ b1 = bi ∧ r1 = ra ∧ l1 = cols) ∧ (G ≠ 0 → c1 = 0 ∧ b1 = 0 ∧ r1 = 0 ∧ l1 = []) := by
    by_cases h0 : G = 0
    · exact ⟨ch, bi, ra, cols, fun _ => ⟨rfl, rfl, rfl, rfl⟩, fun h => absurd h0 h⟩
    · exact ⟨0, 0, 0, [], fun h => absurd h h0, fun _ => ⟨rfl, rfl, rfl, rfl⟩⟩
  have HGl := hid (show G = 0 → cols.length ≤ maxLen from fun h0 => by rw [hcols]; exact cols_len (hG.symm.trans h0) _)
  have HP := hid (fun W (hW : SeesI W Al l) (hl4 : l.length ≤ 4294967296) => (part_any ch bi ra Al cl l W hW hl4).mono fun e w' z => by rw [← hG, ← hcols] at z; exact snd_sees z HGl.out c1 b1 r1 l1 hp1 hp2)
  have HQ := hid (fun W (hW : SeesI W Al l) (hl4 : l.length ≤ 4294967296) => (rpart_any ch bi ra Al cl l W hW hl4).mono fun e w' z => by rw [← hG, ← hcols] at z; exact snd_sees z HGl.out c1 b1 r1 l1 hp1 hp2)
  have HG0 := hid (show ∀ M : List Chan, G = 0 → l.length ≤ 4294967295 → ints M = l1 → c1 = ch ∧ b1 = bi ∧ r1 = ra ∧ checkV ch bi ra M = 0 ∧ weaveTo M (countL M) = l from fun M h0 hl4 hM => by
    obtain ⟨e1, e2, e3, e4⟩ := hp1 h0
    obtain ⟨k1, k2⟩ := weave_part (hG.symm.trans h0) hl4 (hM.trans (e4.trans hcols))
    exact ⟨e1, e2, e3, k1, k2⟩)
  clear hp1 hp2 HGl hG hcols
  go_enter Try.func4, Try.ntmps4
  go_wp2_with fail
  generalize w.alloc (.cells #[.int .i64 ch, .int .i64 bi, .int .i64 ra, .slice A L.length c] 26) = w0 at *
  refine (HS.out _ hl).mono ?_
  rintro e w1 ⟨bs, rfl, hsm, hb1⟩
  replace s0 := keep1 hb1 s0
  replace s1 := keep1 hb1 s1
  replace s2 := keep1 hb1 s2
  replace s3 := keep1 hb1 s3
  replace hl := hl.below hb1
  replace hi := hi.below hb1
  replace hbW := hbW.trans (hb1.mono hbW.size)
  clear hb1
  clear HS
  cases bs with
  | false =>
    clear hsm
    go_wp2_with fail
    refine (known_any _).mono ?_
    rintro e wz ⟨rfl, hbz⟩
    go_wp2_with fail
    go_ret
    exact ⟨rfl, hbW.trans (hbz.mono hbW.size)⟩
  | true =>
  have hsmall := hid (hsm rfl)
  clear hsm
  by_cases hl400 : l.length ≤ 400
  case neg =>
    have dl : decide (400 < (l.length : Int)) = true := decide_eq_true (by omega)
    go_wp2_with fail
    refine (known_any _).mono ?_
    rintro e wz ⟨rfl, hbz⟩
    go_wp2_with fail
    go_ret
    exact ⟨rfl, hbW.trans (hbz.mono hbW.size)⟩
  have dl : decide (400 < (l.length : Int)) = false := decide_eq_false (by omega)
  have HO2 := hid (HOl.out hsmall.out)
  clear HOl hsmall
  go_wp2_with fail
  refine (HW.out _ hl).mono ?_
  rintro e w2 ⟨Ax, cx, rfl, hx, hb2⟩
  replace s0 := keep1 hb2 s0
  replace s1 := keep1 hb2 s1
  replace s2 := keep1 hb2 s2
  replace s3 := keep1 hb2 s3
  replace hl := hl.below hb2
  replace hi := hi.below hb2
  replace hbW := hbW.trans (hb2.mono hbW.size)
  clear hb2
  go_wp2_with fail
  refine (HV.out _ hl).mono ?_
  rintro e w3 ⟨Ay, cy, rfl, hy, hb3⟩
  replace s0 := keep1 hb3 s0
  replace s1 := keep1 hb3 s1
  replace s2 := keep1 hb3 s2
  replace s3 := keep1 hb3 s3
  replace hl := hl.below hb3
  replace hi := hi.below hb3
  replace hx := hx.below hb3
  replace hbW := hbW.trans (hb3.mono hbW.size)
  clear hb3
  clear HW HV
  go_wp2_with fail
  refine (HP.out _ hi (by omega)).mono ?_
  rintro e w4 ⟨Ap, cp, M, rfl, hM, hMi, hMl, hb4⟩
  replace s0 := keep1 hb4 s0
  replace s1 := keep1 hb4 s1
  replace s2 := keep1 hb4 s2
  replace s3 := keep1 hb4 s3
  replace hl := hl.below hb4
  replace hi := hi.below hb4
  replace hx := hx.below hb4
  replace hy := hy.below hb4
  replace hbW := hbW.trans (hb4.mono hbW.size)
  clear hb4
  have hb5 := below_box w4 c1 b1 r1 Ap M.length cp
  obtain ⟨p0, p1, p2, p3⟩ := SndAt.new w4 c1 b1 r1 Ap M.length cp
  replace s0 := keep1 hb5 s0
  replace s1 := keep1 hb5 s1
  replace s2 := keep1 hb5 s2
  replace s3 := keep1 hb5 s3
  replace hl := hl.below hb5
  replace hi := hi.below hb5
  replace hx := hx.below hb5
  replace hy := hy.below hb5
  replace hM := hM.below hb5
  replace hbW := hbW.trans (hb5.mono hbW.size)
  go_wp2_with fail
  generalize w4.alloc (.cells #[.int .i64 c1, .int .i64 b1, .int .i64 r1, .slice Ap M.length cp] 26) = w5 at *
  clear hb5
  refine (HQ.out _ hi (by omega)).mono ?_
  rintro e w6 ⟨Aq, cq, N, rfl, hN, hNi, hNl, hb6⟩
  replace s0 := keep1 hb6 s0
  replace s1 := keep1 hb6 s1
  replace s2 := keep1 hb6 s2
  replace s3 := keep1 hb6 s3
  replace p0 := keep1 hb6 p0
  replace p1 := keep1 hb6 p1
  replace p2 := keep1 hb6 p2
  replace p3 := keep1 hb6 p3
  replace hl := hl.below hb6
  replace hi := hi.below hb6
  replace hx := hx.below hb6
  replace hy := hy.below hb6
  replace hM := hM.below hb6
  replace hbW := hbW.trans (hb6.mono hbW.size)
  clear hb6
  clear HP HQ
  have hb7 := below_box w6 c1 b1 r1 Aq N.length cq
  obtain ⟨q0, q1, q2, q3⟩ := SndAt.new w6 c1 b1 r1 Aq N.length cq
  replace s0 := keep1 hb7 s0
  replace s1 := keep1 hb7 s1
  replace s2 := keep1 hb7 s2
  replace s3 := keep1 hb7 s3
  replace p0 := keep1 hb7 p0
  replace p1 := keep1 hb7 p1
  replace p2 := keep1 hb7 p2
  replace p3 := keep1 hb7 p3
  replace hl := hl.below hb7
  replace hi := hi.below hb7
  replace hx := hx.below hb7
  replace hy := hy.below hb7
  replace hM := hM.below hb7
  replace hN := hN.below hb7
  replace hbW := hbW.trans (hb7.mono hbW.size)
  go_wp2_with fail
  generalize w6.alloc (.cells #[.int .i64 c1, .int .i64 b1, .int .i64 r1, .slice Aq N.length cq] 26) = w7 at *
  clear hb7
  have HI := rints_any Ax Ay cx cy O O w7 hx hy (by unfold maxLen; have := HO2.out; omega) (by unfold maxLen; have := HO2.out; omega)
  rw [show decide (O = O) = true by simp] at HI
  refine (HI).mono ?_
  rintro e w8 ⟨rfl, hb8⟩
  replace s0 := keep1 hb8 s0
  replace s1 := keep1 hb8 s1
  replace s2 := keep1 hb8 s2
  replace s3 := keep1 hb8 s3
  replace p0 := keep1 hb8 p0
  replace p1 := keep1 hb8 p1
  replace p2 := keep1 hb8 p2
  replace p3 := keep1 hb8 p3
  replace q0 := keep1 hb8 q0
  replace q1 := keep1 hb8 q1
  replace q2 := keep1 hb8 q2
  replace q3 := keep1 hb8 q3
  replace hl := hl.below hb8
  replace hi := hi.below hb8
  replace hx := hx.below hb8
  replace hM := hM.below hb8
  replace hN := hN.below hb8
  replace hbW := hbW.trans (hb8.mono hbW.size)
  clear hb8
  clear HI hy
  go_wp2_with fail
  have HSm := rsame_any c1 b1 r1 Ap cp M c1 b1 r1 Aq cq N w8 hM hN hMl hNl
  rw [same_ints c1 b1 r1 (hMi.trans hNi.symm)] at HSm
  refine (HSm).mono ?_
  rintro e w9 ⟨rfl, hb9⟩
  replace s0 := keep1 hb9 s0
  replace s1 := keep1 hb9 s1
  replace s2 := keep1 hb9 s2
  replace s3 := keep1 hb9 s3
  replace p0 := keep1 hb9 p0
  replace p1 := keep1 hb9 p1
  replace p2 := keep1 hb9 p2
  replace p3 := keep1 hb9 p3
  replace hl := hl.below hb9
  replace hi := hi.below hb9
  replace hx := hx.below hb9
  replace hM := hM.below hb9
  replace hbW := hbW.trans (hb9.mono hbW.size)
  clear hb9
  clear HSm q0 q1 q2 q3 hN hNi hNl
  by_cases hR : R = 0
  · have hO0 := HR0.out hR
    have HPO := hid (fun W (hW : SeesI W Ax O) => (part_any ch bi ra Ax cx O W hW (by have := HO2.out; omega)).mono fun e w' z => by rw [hO0.1, hO0.2] at z; exact snd_sees (c1 := ch) (b1 := bi) (r1 := ra) (l1 := ints L) z (fun _ => by simp [ints]; exact n1) (fun _ => ⟨rfl, rfl, rfl, rfl⟩) (fun h => absurd rfl h))
    clear HR0 hO0
    subst hR
    go_wp2_with fail
    refine (HPO.out _ hx).mono ?_
    rintro e wa ⟨Ab, cb, Mb, rfl, hB, hBi, hBl, hb10⟩
    replace s0 := keep1 hb10 s0
    replace s1 := keep1 hb10 s1
    replace s2 := keep1 hb10 s2
    replace s3 := keep1 hb10 s3
    replace p0 := keep1 hb10 p0
    replace p1 := keep1 hb10 p1
    replace p2 := keep1 hb10 p2
    replace p3 := keep1 hb10 p3
    replace hl := hl.below hb10
    replace hi := hi.below hb10
    replace hM := hM.below hb10
    replace hbW := hbW.trans (hb10.mono hbW.size)
    clear hb10
    clear HPO hx
    have hb11 := below_box wa ch bi ra Ab Mb.length cb
    obtain ⟨z0, z1, z2, z3⟩ := SndAt.new wa ch bi ra Ab Mb.length cb
    replace s0 := keep1 hb11 s0
    replace s1 := keep1 hb11 s1
    replace s2 := keep1 hb11 s2
    replace s3 := keep1 hb11 s3
    replace p0 := keep1 hb11 p0
    replace p1 := keep1 hb11 p1
    replace p2 := keep1 hb11 p2
    replace p3 := keep1 hb11 p3
    replace hl := hl.below hb11
    replace hi := hi.below hb11
    replace hM := hM.below hb11
    replace hB := hB.below hb11
    replace hbW := hbW.trans (hb11.mono hbW.size)
    go_wp2_with fail
    generalize wa.alloc (.cells #[.int .i64 ch, .int .i64 bi, .int .i64 ra, .slice Ab Mb.length cb] 26) = wb at *
    clear hb11
    have HSb := rsame_any ch bi ra Ab cb Mb ch bi ra A c L wb hB hl hBl n1
    rw [same_ints ch bi ra hBi] at HSb
    refine (HSb).mono ?_
    rintro e wc ⟨rfl, hb12⟩
    replace p0 := keep1 hb12 p0
    replace p1 := keep1 hb12 p1
    replace p2 := keep1 hb12 p2
    replace p3 := keep1 hb12 p3
    replace hi := hi.below hb12
    replace hM := hM.below hb12
    replace hbW := hbW.trans (hb12.mono hbW.size)
    clear hb12
    clear HSb z0 z1 z2 z3 s0 s1 s2 s3 hB hBi hBl hl
    by_cases hG : G = 0
    · obtain ⟨rfl, rfl, rfl, hk1, hk2⟩ := HG0.out M hG (by omega) hMi
      have HWV := hid (fun W hW => weave_list c1 b1 r1 Ap cp M W hW hMl 0 l hk1 (by rw [if_pos rfl]; exact hk2.symm))
      clear hk1 hk2 HG0 hMi
      subst hG
      go_wp2_with fail
      refine (HWV.out _ hM).mono ?_
      rintro e wp ⟨Aw, cw, rfl, hw, hb20⟩
      replace hi := hi.below hb20
      replace hbW := hbW.trans (hb20.mono hbW.size)
      clear hb20
      go_wp2_with fail
      have HJ := rints_any Aw Al cw cl l l wp hw hi (by unfold maxLen; omega) (by unfold maxLen; omega)
      rw [show decide (l = l) = true by simp] at HJ
      refine (HJ).mono ?_
      rintro e wr ⟨rfl, hb21⟩
      replace hbW := hbW.trans (hb21.mono hbW.size)
      clear hb21
      go_wp2_with fail
      refine (known_any _).mono ?_
      rintro e wz ⟨rfl, hbz⟩
      go_wp2_with fail
      go_ret
      exact ⟨rfl, hbW.trans (hbz.mono hbW.size)⟩
    · have dG : (G != 0) = true := by simpa using hG
      have dG' : decide (G = 0) = false := decide_eq_false hG
      have dG2 : (G == 0) = false := by simpa using hG
      go_wp2_with fail
      refine (known_any _).mono ?_
      rintro e wz ⟨rfl, hbz⟩
      go_wp2_with fail
      go_ret
      exact ⟨rfl, hbW.trans (hbz.mono hbW.size)⟩
  · have dR : (R != 0) = true := by simpa using hR
    have dR' : decide (R = 0) = false := decide_eq_false hR
    have dR2 : (R == 0) = false := by simpa using hR
    clear HR0 hx
    by_cases hG : G = 0
    · obtain ⟨rfl, rfl, rfl, hk1, hk2⟩ := HG0.out M hG (by omega) hMi
      have HWV := hid (fun W hW => weave_list c1 b1 r1 Ap cp M W hW hMl 0 l hk1 (by rw [if_pos rfl]; exact hk2.symm))
      clear hk1 hk2 HG0 hMi
      subst hG
      go_wp2_with fail
      refine (HWV.out _ hM).mono ?_
      rintro e wp ⟨Aw, cw, rfl, hw, hb20⟩
      replace hi := hi.below hb20
      replace hbW := hbW.trans (hb20.mono hbW.size)
      clear hb20
      go_wp2_with fail
      have HJ := rints_any Aw Al cw cl l l wp hw hi (by unfold maxLen; omega) (by unfold maxLen; omega)
      rw [show decide (l = l) = true by simp] at HJ
      refine (HJ).mono ?_
      rintro e wr ⟨rfl, hb21⟩
      replace hbW := hbW.trans (hb21.mono hbW.size)
      clear hb21
      go_wp2_with fail
      refine (known_any _).mono ?_
      rintro e wz ⟨rfl, hbz⟩
      go_wp2_with fail
      go_ret
      exact ⟨rfl, hbW.trans (hbz.mono hbW.size)⟩
    · have dG : (G != 0) = true := by simpa using hG
      have dG' : decide (G = 0) = false := decide_eq_false hG
      have dG2 : (G == 0) = false := by simpa using hG
      go_wp2_with fail
      refine (known_any _).mono ?_
      rintro e wz ⟨rfl, hbz⟩
      go_wp2_with fail
      go_ret
      exact ⟨rfl, hbW.trans (hbz.mono hbW.size)⟩
end pcmWeaves
end Go.Proofs.Ytfinefhebffpcaa
