/- The walk of PcmApart. -/
import Derived.Test.YtfinefhebffpcaaLaw05Known
import Derived.Test.YtfinefhebffpcaaPcmSmall
import Derived.Test.YtfinefhebffpcaaPcmRApart
import Derived.Test.YtfinefhebffpcaaPcmPSame
namespace Go.Proofs.Ytfinefhebffpcaa
set_option linter.unusedVariables false
open Go.RowKit
theorem farTo_zero (l m : List Int) : ∀ k, farTo l m k = 0 ↔ ∀ j, j < k → l.getD j 0 = m.getD j 0
  | 0 => by simp [farTo]
  | k + 1 => by
    have ih := farTo_zero l m k
    have h0 := farTo_nonneg l m k
    have ha : 0 ≤ absI (l.getD k 0 - m.getD k 0) := by unfold absI; split <;> omega
    have hz : absI (l.getD k 0 - m.getD k 0) = 0 ↔ l.getD k 0 = m.getD k 0 := by unfold absI; split <;> omega
    have hs : farTo l m (k + 1) = 0 ↔ farTo l m k = 0 ∧ absI (l.getD k 0 - m.getD k 0) = 0 := by
      show (if farTo l m k < absI (l.getD k 0 - m.getD k 0) then absI (l.getD k 0 - m.getD k 0) else farTo l m k) = 0 ↔ _
      split <;> omega
    rw [hs, ih, hz]
    constructor
    · rintro ⟨h1, h2⟩ j hj
      by_cases h : j = k
      · rw [h]; exact h2
      · exact h1 j (by omega)
    · intro h
      exact ⟨fun j hj => h j (by omega), h k (by omega)⟩
theorem same_iff_far {L M : List Chan} {C : Nat} (hLM : L.length = M.length) (h1 : ∀ x ∈ L, x.l.length = C) (h2 : ∀ x ∈ M, x.l.length = C) : (apartTo L M L.length).all (fun z => z == 0) = decide (ints L = ints M) := by
  have iff : ((apartTo L M L.length).all (fun z => z == 0) = true) ↔ ints L = ints M := by
    rw [List.all_eq_true]
    constructor
    · intro h
      apply List.ext_getElem (by simp [ints, hLM])
      intro i hi hi'
      have hiL : i < L.length := by simpa [ints] using hi
      have hiM : i < M.length := by omega
      have e1 : (ints L)[i] = L[i].l := by simp [ints]
      have e2 : (ints M)[i] = M[i].l := by simp [ints]
      have d1 : (ints L).getD i [] = L[i].l := by simp [ints, List.getD, hiL]
      have d2 : (ints M).getD i [] = M[i].l := by simp [ints, List.getD, hiM]
      have hz := h (farTo ((ints L).getD i []) ((ints M).getD i []) (((ints L).getD i []).length)) (by
        unfold apartTo
        exact List.mem_map.2 ⟨i, by simpa using hiL, rfl⟩)
      rw [beq_iff_eq, farTo_zero, d1, d2] at hz
      rw [e1, e2]
      have n1 := h1 L[i] (List.getElem_mem hiL)
      have n2 := h2 M[i] (List.getElem_mem hiM)
      apply List.ext_getElem (by omega)
      intro j hj hj'
      have := hz j hj
      rwa [show (L[i].l).getD j 0 = L[i].l[j] by simp [List.getD, hj], show (M[i].l).getD j 0 = M[i].l[j] by simp [List.getD, hj']] at this
    · intro h z hz
      unfold apartTo at hz
      obtain ⟨i, hi, rfl⟩ := List.mem_map.1 hz
      rw [beq_iff_eq, farTo_zero, h]
      intro j _
      rfl
  cases hA : (apartTo L M L.length).all (fun z => z == 0) with
  | true => exact (decide_eq_true (iff.1 hA)).symm
  | false =>
    symm
    apply decide_eq_false
    intro h
    have := iff.2 h
    rw [hA] at this
    cases this
theorem apart_same {ch bi ra : Int} {L : List Chan} {ch' bi' ra' : Int} {M : List Chan} (h : apartV ch bi ra L ch' bi' ra' M = 0) : (apartTo L M L.length).all (fun z => z == 0) = sameS ch bi ra L ch' bi' ra' M := by
  unfold apartV at h
  by_cases h1 : bothV ch bi ra L ch' bi' ra' M = 0
  · rw [if_neg (by simpa using h1)] at h
    obtain ⟨k1, k2, k3⟩ := both_ok h1
    have hc : countL L = countL M := by
      by_cases hc : countL L = countL M
      · exact hc
      · rw [if_neg hc] at h; simp at h
    obtain ⟨_, n1, _, a1⟩ := check_ok k1
    obtain ⟨_, n2, _, a2⟩ := check_ok k2
    unfold sameS
    rw [k3, Bool.true_and]
    unfold sameF at k3
    simp at k3
    exact same_iff_far (C := countL M) (by omega) (fun x hx => by rw [(a1 x hx).1, hc]) (fun x hx => (a2 x hx).1)
  · rw [if_pos h1] at h; exact absurd h h1
/-- what a call of Apart leaves: a slice that reads as these numbers -/
def ApartSees (w : World) (r : Int) (o : List Int) (e : Ending) (w' : World) : Prop := ∃ (A : Option Addr) (c : Nat), e = .returned (.tuple #[.slice A o.length c, .int .i64 r]) ∧ SeesI w' A o ∧ Below w.heap.size w w'
theorem apart_sees {w : World} {r : Int} {o : List Int} {e : Ending} {w' : World} (h : ApartPost w r o e w') : ApartSees w r (if r = 0 then o else []) e w' := by
  unfold ApartPost at h
  by_cases hr : r = 0
  · rw [if_pos hr] at h ⊢
    obtain ⟨v, rfl, A, c, rfl, ho, hb⟩ := h
    exact ⟨A, c, by rw [hr], own_sees ho, hb⟩
  · rw [if_neg hr] at h ⊢
    obtain ⟨rfl, hb⟩ := h
    exact ⟨none, 0, rfl, Sees.nil _ _, hb⟩
theorem same_self (ch bi ra : Int) (L : List Chan) : sameS ch bi ra L ch bi ra L = true := by simp [sameS, sameF]
namespace pcmApart
set_option maxRecDepth 20000 in
set_option maxHeartbeats 8000000 in
theorem walk (ch bi ra : Int) (A : Option Addr) (c : Nat) (L : List Chan) (ch' bi' ra' : Int) (B : Option Addr) (d : Nat) (M : List Chan) (w : World) (h : SeesL w A L ∧ L.length ≤ maxLen) (h' : SeesL w B M ∧ M.length ≤ maxLen) :
    Calls Try.prog 5 #[.agg #[.int .i64 ch, .int .i64 bi, .int .i64 ra, .slice A L.length c], .agg #[.int .i64 ch', .int .i64 bi', .int .i64 ra', .slice B M.length d]] w fun e w' => e = .returned (.bool true) ∧ Below w.heap.size w w' := by
  obtain ⟨hl, n1⟩ := h
  obtain ⟨hm, n2⟩ := h'
  have hb := below_box2 w (.cells #[.int .i64 ch, .int .i64 bi, .int .i64 ra, .slice A L.length c] 26) (.cells #[.int .i64 ch', .int .i64 bi', .int .i64 ra', .slice B M.length d] 26)
  obtain ⟨ha, hc⟩ := snd_two w ch bi ra A L.length c ch' bi' ra' B M.length d
  replace hl := hl.below hb
  replace hm := hm.below hb
  have hbW := hb
  obtain ⟨s0, s1, s2, s3⟩ := ha
  obtain ⟨t0, t1, t2, t3⟩ := hc
  have HS := hid (show ∀ W, SeesL W A L → Calls Try.prog 8 #[.agg #[.int .i64 ch, .int .i64 bi, .int .i64 ra, .slice A L.length c], .int .i64 300] W (SmallPost W 300 L) from fun W hW => rsmall_any ch bi ra A c L 300 W hW n1 (by omega))
  have HT := hid (show ∀ W, SeesL W B M → Calls Try.prog 8 #[.agg #[.int .i64 ch', .int .i64 bi', .int .i64 ra', .slice B M.length d], .int .i64 300] W (SmallPost W 300 M) from fun W hW => rsmall_any ch' bi' ra' B d M 300 W hW n2 (by omega))
  obtain ⟨R, hR⟩ : ∃ R, R = apartV ch bi ra L ch' bi' ra' M := ⟨_, rfl⟩
  obtain ⟨sS, hsS⟩ : ∃ sS, sS = sameS ch bi ra L ch' bi' ra' M := ⟨_, rfl⟩
  obtain ⟨O, hO⟩ : ∃ O, O = if R = 0 then apartTo L M L.length else [] := ⟨_, rfl⟩
  have HA := hid (show ∀ W, SeesL W A L → SeesL W B M → Calls Try.prog 22 #[.agg #[.int .i64 ch, .int .i64 bi, .int .i64 ra, .slice A L.length c], .agg #[.int .i64 ch', .int .i64 bi', .int .i64 ra', .slice B M.length d]] W (ApartSees W R O) from fun W x y => (apart_any ch bi ra A c L ch' bi' ra' B d M W x y n1 n2).mono fun e w' z => by rw [← hR] at z; rw [hO]; exact apart_sees z)
  have HB := hid (show ∀ W, SeesL W A L → SeesL W B M → Calls Try.prog 23 #[.agg #[.int .i64 ch, .int .i64 bi, .int .i64 ra, .slice A L.length c], .agg #[.int .i64 ch', .int .i64 bi', .int .i64 ra', .slice B M.length d]] W (ApartSees W R O) from fun W x y => (rapart_any ch bi ra A c L ch' bi' ra' B d M W x y n1 n2).mono fun e w' z => by rw [← hR] at z; rw [hO]; exact apart_sees z)
  have HP := hid (fun W x y => psame_any ch bi ra A c L ch' bi' ra' B d M W x y n1 n2)
  have HQ := hid (fun W x y => rsame_any ch bi ra A c L ch' bi' ra' B d M W x y n1 n2)
  have HAA := hid (fun W x => psame_any ch bi ra A c L ch bi ra A c L W x x n1 n1)
  rw [← hsS] at HP HQ
  rw [same_self] at HAA
  have hZ : R = 0 → O.all (fun z => z == 0) = sS := fun h0 => by
    rw [hO, if_pos h0, hsS]
    exact apart_same (hR.symm.trans h0)
  have hO2 : O.length ≤ maxLen := by
    rw [hO]
    split
    · rw [apartTo_len]; exact n1
    · simp [maxLen]
  have HZ := hid hZ
  have HO2 := hid hO2
  clear hZ hR hsS hO hb n1 n2 hO2
  go_enter Try.func5, Try.ntmps5
  go_wp2_with fail
  generalize (w.alloc (.cells #[.int .i64 ch, .int .i64 bi, .int .i64 ra, .slice A L.length c] 26)).alloc (.cells #[.int .i64 ch', .int .i64 bi', .int .i64 ra', .slice B M.length d] 26) = w0 at *
  refine (HS.out _ hl).mono ?_
  rintro e w1 ⟨b1, rfl, -, hb1⟩
  replace hl := hl.below hb1
  replace hm := hm.below hb1
  replace s0 := keep1 hb1 s0
  replace s1 := keep1 hb1 s1
  replace s2 := keep1 hb1 s2
  replace s3 := keep1 hb1 s3
  replace t0 := keep1 hb1 t0
  replace t1 := keep1 hb1 t1
  replace t2 := keep1 hb1 t2
  replace t3 := keep1 hb1 t3
  replace hbW := hbW.trans (hb1.mono hbW.size)
  clear hb1
  clear HS
  cases b1 with
  | false =>
    go_wp2_with fail
    refine (known_any _).mono ?_
    rintro e w9 ⟨rfl, hb9⟩
    go_wp2_with fail
    go_ret
    exact ⟨rfl, hbW.trans (hb9.mono hbW.size)⟩
  | true =>
  go_wp2_with fail
  refine (HT.out _ hm).mono ?_
  rintro e w2 ⟨b2, rfl, -, hb2⟩
  replace hl := hl.below hb2
  replace hm := hm.below hb2
  replace s0 := keep1 hb2 s0
  replace s1 := keep1 hb2 s1
  replace s2 := keep1 hb2 s2
  replace s3 := keep1 hb2 s3
  replace t0 := keep1 hb2 t0
  replace t1 := keep1 hb2 t1
  replace t2 := keep1 hb2 t2
  replace t3 := keep1 hb2 t3
  replace hbW := hbW.trans (hb2.mono hbW.size)
  clear hb2
  clear HT
  cases b2 with
  | false =>
    go_wp2_with fail
    refine (known_any _).mono ?_
    rintro e w9 ⟨rfl, hb9⟩
    go_wp2_with fail
    go_ret
    exact ⟨rfl, hbW.trans (hb9.mono hbW.size)⟩
  | true =>
  go_wp2_with fail
  refine (HA.out _ hl hm).mono ?_
  rintro e w3 ⟨A1, c1, rfl, h1, hb3⟩
  replace hl := hl.below hb3
  replace hm := hm.below hb3
  replace s0 := keep1 hb3 s0
  replace s1 := keep1 hb3 s1
  replace s2 := keep1 hb3 s2
  replace s3 := keep1 hb3 s3
  replace t0 := keep1 hb3 t0
  replace t1 := keep1 hb3 t1
  replace t2 := keep1 hb3 t2
  replace t3 := keep1 hb3 t3
  replace hbW := hbW.trans (hb3.mono hbW.size)
  clear hb3
  go_wp2_with fail
  refine (HB.out _ hl hm).mono ?_
  rintro e w4 ⟨A2, c2, rfl, h2, hb4⟩
  replace hl := hl.below hb4
  replace hm := hm.below hb4
  replace h1 := h1.below hb4
  replace s0 := keep1 hb4 s0
  replace s1 := keep1 hb4 s1
  replace s2 := keep1 hb4 s2
  replace s3 := keep1 hb4 s3
  replace t0 := keep1 hb4 t0
  replace t1 := keep1 hb4 t1
  replace t2 := keep1 hb4 t2
  replace t3 := keep1 hb4 t3
  replace hbW := hbW.trans (hb4.mono hbW.size)
  clear hb4
  go_wp2_with fail
  have HI := hid (show ∀ W, SeesI W A1 O → SeesI W A2 O → Calls Try.prog 20 #[.slice A1 O.length c1, .slice A2 O.length c2] W fun e w' => e = .returned (.bool true) ∧ Below W.heap.size W w' from fun W x y => by
    have := rints_any A1 A2 c1 c2 O O W x y HO2.out HO2.out
    rwa [show decide (O = O) = true by simp] at this)
  clear HA HB
  go_region_held3 (fun w' => w'.cell? ⟨w.heap.size, 0, none⟩ = some (.int .i64 ch) ∧ w'.cell? ⟨w.heap.size, 1, none⟩ = some (.int .i64 bi) ∧ w'.cell? ⟨w.heap.size, 2, none⟩ = some (.int .i64 ra) ∧ w'.cell? ⟨w.heap.size, 3, none⟩ = some (.slice A L.length c) ∧ w'.cell? ⟨w.heap.size + 1, 0, none⟩ = some (.int .i64 ch') ∧ w'.cell? ⟨w.heap.size + 1, 1, none⟩ = some (.int .i64 bi') ∧ w'.cell? ⟨w.heap.size + 1, 2, none⟩ = some (.int .i64 ra') ∧ w'.cell? ⟨w.heap.size + 1, 3, none⟩ = some (.slice B M.length d)) (first | exact ⟨s0, s1, s2, s3, t0, t1, t2, t3⟩ | go_keep)
    (first | (go_at_call 20; refine (HI.out _ ?_ ?_).mono ?_; exact h1; exact h2; rintro e wa ⟨rfl, hba⟩; replace s0 := keep1 hba s0; replace s1 := keep1 hba s1; replace s2 := keep1 hba s2; replace s3 := keep1 hba s3; replace t0 := keep1 hba t0; replace t1 := keep1 hba t1; replace t2 := keep1 hba t2; replace t3 := keep1 hba t3; replace hl := hl.below ⟨hba.os, hba.tape, hba.output, hba.size, hba.block⟩; replace hm := hm.below ⟨hba.os, hba.tape, hba.output, hba.size, hba.block⟩; replace h1 := h1.below ⟨hba.os, hba.tape, hba.output, hba.size, hba.block⟩; replace h2 := h2.below ⟨hba.os, hba.tape, hba.output, hba.size, hba.block⟩; replace hbW := Below.trans hbW (Below.mono (w := _) ⟨hba.os, hba.tape, hba.output, hba.size, hba.block⟩ hbW.size); clear hba) | (go_at_call 24; refine (HP.out _ ?_ ?_).mono ?_; exact hl; exact hm; rintro e wa ⟨rfl, hba⟩; replace s0 := keep1 hba s0; replace s1 := keep1 hba s1; replace s2 := keep1 hba s2; replace s3 := keep1 hba s3; replace t0 := keep1 hba t0; replace t1 := keep1 hba t1; replace t2 := keep1 hba t2; replace t3 := keep1 hba t3; replace hl := hl.below ⟨hba.os, hba.tape, hba.output, hba.size, hba.block⟩; replace hm := hm.below ⟨hba.os, hba.tape, hba.output, hba.size, hba.block⟩; replace h1 := h1.below ⟨hba.os, hba.tape, hba.output, hba.size, hba.block⟩; replace h2 := h2.below ⟨hba.os, hba.tape, hba.output, hba.size, hba.block⟩; replace hbW := Below.trans hbW (Below.mono (w := _) ⟨hba.os, hba.tape, hba.output, hba.size, hba.block⟩ hbW.size); clear hba) | (go_at_call 21; refine (HQ.out _ ?_ ?_).mono ?_; exact hl; exact hm; rintro e wa ⟨rfl, hba⟩; replace s0 := keep1 hba s0; replace s1 := keep1 hba s1; replace s2 := keep1 hba s2; replace s3 := keep1 hba s3; replace t0 := keep1 hba t0; replace t1 := keep1 hba t1; replace t2 := keep1 hba t2; replace t3 := keep1 hba t3; replace hl := hl.below ⟨hba.os, hba.tape, hba.output, hba.size, hba.block⟩; replace hm := hm.below ⟨hba.os, hba.tape, hba.output, hba.size, hba.block⟩; replace h1 := h1.below ⟨hba.os, hba.tape, hba.output, hba.size, hba.block⟩; replace h2 := h2.below ⟨hba.os, hba.tape, hba.output, hba.size, hba.block⟩; replace hbW := Below.trans hbW (Below.mono (w := _) ⟨hba.os, hba.tape, hba.output, hba.size, hba.block⟩ hbW.size); clear hba))
  clear HI HQ
  generalize wa = w5 at *
  go_wp2_with fail
  go_loop [9, 10] (fun sv iv => ∃ (k : Nat) (Z : Bool), k ≤ O.length ∧ iv = .int .i64 (k : Int) ∧ sv = .bool Z ∧ Hid (Z = (O.take k).all fun z => z == 0)) (fun _ iv => O.length - (intOf iv).toNat)
  case atStart => exact ⟨0, true, by omega, rfl, rfl, hid rfl⟩
  case round =>
    obtain ⟨k, Z, hk, rfl, rfl, hE⟩ := hrel
    have hOl := HO2.out
    unfold maxLen at hOl
    by_cases hlt : k < O.length
    · have dk : decide ((k : Int) < (O.length : Int)) = true := decide_eq_true (by omega)
      obtain ⟨a, rfl, hcx⟩ := h1.at hlt
      have HT := hid (show ((O.take (k + 1)).all fun z => z == 0) = (((O.take k).all fun z => z == 0) && (O[k] == 0)) by rw [List.take_succ_eq_append_getElem hlt, List.all_append]; simp)
      generalize O[k] = X at *
      cases Z with
      | false =>
        go_wp2_with fail
        go_round
        case rel => exact ⟨k + 1, false, by omega, by go_num, rfl, hid (by rw [HT.out, ← hE.out]; rfl)⟩
        case measure => simp [intOf]; omega
      | true =>
        by_cases hX : X = 0
        · subst hX
          go_wp2_with fail
          go_round
          case rel => exact ⟨k + 1, true, by omega, by go_num, rfl, hid (by rw [HT.out, ← hE.out]; rfl)⟩
          case measure => simp [intOf]; omega
        · have dX : decide (X = 0) = false := decide_eq_false hX
          have dX' : (X == 0) = false := by simpa using hX
          rw [dX'] at HT
          go_wp2_with fail
          go_round
          case rel => exact ⟨k + 1, false, by omega, by go_num, by simp, hid (by rw [HT.out, ← hE.out]; rfl)⟩
          case measure => simp [intOf]; omega
    · obtain rfl : k = O.length := by omega
      have dk : decide ((O.length : Int) < (O.length : Int)) = false := decide_eq_false (by omega)
      have hZO : Z = O.all fun z => z == 0 := by rw [hE.out, List.take_length]
      by_cases hR0 : R = 0
      · obtain rfl : Z = sS := hZO.trans (HZ.out hR0)
        subst hR0
        clear HZ hE hZO
        go_wp2_with fail
        refine (HP.out _ hl hm).mono ?_
        rintro e w6 ⟨rfl, hb6⟩
        replace hl := hl.below hb6
        replace s0 := keep1 hb6 s0
        replace s1 := keep1 hb6 s1
        replace s2 := keep1 hb6 s2
        replace s3 := keep1 hb6 s3
        replace hbW := hbW.trans (hb6.mono hbW.size)
        clear hb6 HP hm h1 h2 t0 t1 t2 t3
        go_wp2_with fail
        refine (HAA.out _ hl).mono ?_
        rintro e w7 ⟨rfl, hb7⟩
        replace hbW := hbW.trans (hb7.mono hbW.size)
        clear hb7 HAA hl s0 s1 s2 s3
        go_wp2_with fail
        refine (known_any _).mono ?_
        rintro e w8 ⟨rfl, hb8⟩
        go_wp2_with fail
        go_ret
        exact ⟨rfl, hbW.trans (hb8.mono hbW.size)⟩
      · have dR : (R != 0) = true := by simpa using hR0
        have dR' : decide (R = 0) = false := decide_eq_false hR0
        clear HZ hE hZO HP
        go_wp2_with fail
        refine (HAA.out _ hl).mono ?_
        rintro e w7 ⟨rfl, hb7⟩
        replace hbW := hbW.trans (hb7.mono hbW.size)
        clear hb7 HAA hl s0 s1 s2 s3
        go_wp2_with fail
        refine (known_any _).mono ?_
        rintro e w8 ⟨rfl, hb8⟩
        go_wp2_with fail
        go_ret
        exact ⟨rfl, hbW.trans (hb8.mono hbW.size)⟩
end pcmApart
end Go.Proofs.Ytfinefhebffpcaa
