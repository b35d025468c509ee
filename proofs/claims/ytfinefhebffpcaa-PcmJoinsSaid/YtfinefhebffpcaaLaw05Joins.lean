/- The walk of PcmJoins. -/
import Derived.Test.YtfinefhebffpcaaLaw05Weaves
import Derived.Test.YtfinefhebffpcaaPcmRJoin
import Derived.Test.YtfinefhebffpcaaPcmSil
namespace Go.Proofs.Ytfinefhebffpcaa
set_option linter.unusedVariables false
open Go.RowKit
def SoundIs (w : World) (c1 b1 r1 : Int) (ll : List (List Int)) (e : Ending) (w' : World) : Prop :=
  ∃ (A : Option Addr) (c : Nat) (M : List Chan), e = .returned (.agg #[.int .i64 c1, .int .i64 b1, .int .i64 r1, .slice A M.length c]) ∧ SeesL w' A M ∧ ints M = ll ∧ M.length ≤ maxLen ∧ Below w.heap.size w w'
theorem sil_sees {w : World} {ch N : Nat} {bi ra : Int} {e : Ending} {w' : World} (h : SilPost w ch bi ra N e w') (hch : ch ≤ 8) (hN : N ≤ maxLen) : SoundIs w ch bi ra ((List.range ch).map fun _ => List.replicate N 0) e w' := by
  obtain ⟨A, c, gs, rfl, hgl, ho, hG, hg, hb⟩ := h
  refine ⟨A, c, gs.map fun g => ⟨some ⟨g, 0, none⟩, N, List.replicate N 0⟩, by simp [hgl], ⟨?_, ?_⟩, ?_, by simp [maxLen]; omega, hb⟩
  · have he : (gs.map fun g => (⟨some ⟨g, 0, none⟩, N, List.replicate N 0⟩ : Chan)).map Chan.v = gs.map fun g => Value.slice (some ⟨g, 0, none⟩) N N := by
      rw [List.map_map]
      apply List.map_congr_left
      intro g _
      simp [Chan.v]
    rw [he]
    exact own_sees ho
  · intro x hx
    obtain ⟨g, hg', rfl⟩ := List.mem_map.1 hx
    obtain ⟨i, hi, rfl⟩ := List.getElem_of_mem hg'
    refine ⟨?_, by simpa using hN⟩
    exact Sees.of_block (hG.1 i hi) (by simp)
  · unfold ints
    rw [List.map_map]
    apply List.ext_getElem (by simp [hgl])
    intro i h1 h2
    simp
theorem both_small {m : Nat} {L : List Chan} (h : SmallOk m L) : countL L ≤ m := by
  cases hLL : L with
  | nil => simp [countL]
  | cons x L' => exact h.2.2 x (by rw [hLL]; simp)
namespace pcmJoins
set_option maxRecDepth 20000 in
set_option maxHeartbeats 16000000 in
theorem walk (ch bi ra : Int) (A : Option Addr) (c : Nat) (L : List Chan) (ch' bi' ra' : Int) (B : Option Addr) (d : Nat) (M : List Chan) (n : Int) (w : World) (h : SeesL w A L ∧ L.length ≤ maxLen) (h' : SeesL w B M ∧ M.length ≤ maxLen) (hn0 : -9223372036854775808 ≤ n ∧ n < 9223372036854775808) :
    Calls Try.prog 6 #[.agg #[.int .i64 ch, .int .i64 bi, .int .i64 ra, .slice A L.length c], .agg #[.int .i64 ch', .int .i64 bi', .int .i64 ra', .slice B M.length d], .int .i64 n] w fun e w' => e = .returned (.bool true) ∧ Below w.heap.size w w' := by
  obtain ⟨hl, n1⟩ := h
  obtain ⟨hm, n2⟩ := h'
  have hb := below_box2 w (.cells #[.int .i64 ch, .int .i64 bi, .int .i64 ra, .slice A L.length c] 26) (.cells #[.int .i64 ch', .int .i64 bi', .int .i64 ra', .slice B M.length d] 26)
  obtain ⟨ha, hc⟩ := snd_two w ch bi ra A L.length c ch' bi' ra' B M.length d
  obtain ⟨s0, s1, s2, s3⟩ := ha
  obtain ⟨t0, t1, t2, t3⟩ := hc
  replace hl := hl.below hb
  replace hm := hm.below hb
  have hbW := hb
  clear hb hn0
  have HS := hid (show ∀ W, SeesL W A L → Calls Try.prog 8 #[.agg #[.int .i64 ch, .int .i64 bi, .int .i64 ra, .slice A L.length c], .int .i64 300] W (SmallPost W 300 L) from fun W hW => rsmall_any ch bi ra A c L 300 W hW n1 (by omega))
  have HT := hid (show ∀ W, SeesL W B M → Calls Try.prog 8 #[.agg #[.int .i64 ch', .int .i64 bi', .int .i64 ra', .slice B M.length d], .int .i64 300] W (SmallPost W 300 M) from fun W hW => rsmall_any ch' bi' ra' B d M 300 W hW n2 (by omega))
  obtain ⟨G, hG⟩ : ∃ G, G = bothV ch bi ra L ch' bi' ra' M := ⟨_, rfl⟩
  obtain ⟨cols, hcols⟩ : ∃ cols, cols = (List.range L.length).map (catL L M) := ⟨_, rfl⟩
  obtain ⟨c1, b1, r1, l1, hp1, hp2⟩ : ∃ (c1 b1 r1 : Int) (l1 : List (List Int)), (G = 0 → c1 = ch ∧ b1 = bi ∧ r1 = ra ∧ l1 = cols) ∧ (G ≠ 0 → c1 = 0 ∧ b1 = 0 ∧ r1 = 0 ∧ l1 = []) := by
    by_cases h0 : G = 0
    · exact ⟨ch, bi, ra, cols, fun _ => ⟨rfl, rfl, rfl, rfl⟩, fun h => absurd h0 h⟩
    · exact ⟨0, 0, 0, [], fun h => absurd h h0, fun _ => ⟨rfl, rfl, rfl, rfl⟩⟩
  have HGl := hid (show G = 0 → cols.length ≤ maxLen from fun _ => by rw [hcols]; simpa using n1)
  have HP := hid (fun W (hW : SeesL W A L) (hW2 : SeesL W B M) (hs : countL L + countL M ≤ 4294967295) => (join_any ch bi ra A c L ch' bi' ra' B d M W hW hW2 n1 n2 hs).mono fun e w' z => by rw [← hG, ← hcols] at z; exact snd_sees z HGl.out c1 b1 r1 l1 hp1 hp2)
  have HQ := hid (fun W (hW : SeesL W A L) (hW2 : SeesL W B M) => (rjoin_any ch bi ra A c L ch' bi' ra' B d M W hW hW2 n1 n2).mono fun e w' z => by rw [← hG, ← hcols] at z; exact snd_sees z HGl.out c1 b1 r1 l1 hp1 hp2)
  clear hp1 hp2 HGl hG hcols n1 n2
  obtain ⟨V, hV⟩ : ∃ V, V = silV ch bi ra n := ⟨_, rfl⟩
  obtain ⟨c2, b2, r2, l2, hv1, hv2⟩ : ∃ (c2 b2 r2 : Int) (l2 : List (List Int)), (V = 0 → c2 = ch ∧ b2 = bi ∧ r2 = ra ∧ l2 = (List.range ch.toNat).map fun _ => List.replicate n.toNat 0) ∧ (V ≠ 0 → c2 = 0 ∧ b2 = 0 ∧ r2 = 0 ∧ l2 = []) := by
    by_cases h0 : V = 0
    · exact ⟨ch, bi, ra, _, fun _ => ⟨rfl, rfl, rfl, rfl⟩, fun h => absurd h0 h⟩
    · exact ⟨0, 0, 0, [], fun h => absurd h h0, fun _ => ⟨rfl, rfl, rfl, rfl⟩⟩
  have hch : V = 0 → rightF ch bi ra = true := fun h0 => by
    unfold silV at hV
    cases hr : rightF ch bi ra with
    | true => rfl
    | false => rw [hr] at hV; simp at hV; omega
  have HVl := hid (show V = 0 → ((List.range ch.toNat).map fun _ => List.replicate n.toNat (0 : Int)).length ≤ maxLen from fun h0 => by
    have := hch h0
    unfold rightF at this
    have := of_decide_eq_true this
    simp [maxLen]
    omega)
  have HZ := hid (fun W => (sil_any ch bi ra n W).mono fun e w' z => by rw [← hV] at z; exact snd_sees z HVl.out c2 b2 r2 l2 hv1 hv2)
  have HV1 := hid hv1
  have HV2 := hid hv2
  have HVV := hid hV
  clear hv1 hv2 HVl hV hch
  go_enter Try.func6, Try.ntmps6
  go_wp2_with fail
  generalize (w.alloc (.cells #[.int .i64 ch, .int .i64 bi, .int .i64 ra, .slice A L.length c] 26)).alloc (.cells #[.int .i64 ch', .int .i64 bi', .int .i64 ra', .slice B M.length d] 26) = w0 at *
  refine (HS.out _ hl).mono ?_
  rintro e w1 ⟨bs, rfl, hsm, hb1⟩
  replace s0 := keep1 hb1 s0
  replace s1 := keep1 hb1 s1
  replace s2 := keep1 hb1 s2
  replace s3 := keep1 hb1 s3
  replace t0 := keep1 hb1 t0
  replace t1 := keep1 hb1 t1
  replace t2 := keep1 hb1 t2
  replace t3 := keep1 hb1 t3
  replace hl := hl.below hb1
  replace hm := hm.below hb1
  replace hbW := hbW.trans (hb1.mono hbW.size)
  clear hb1
  clear HS
  cases bs with
  | false =>
    clear hsm
    go_wp2_with fail
    refine (known_any _).mono ?_
    rintro e wz ⟨rfl, hbz⟩
    go_wp2_with fail
    go_ret
    exact ⟨rfl, hbW.trans (hbz.mono hbW.size)⟩
  | true =>
  have hsa := hid (hsm rfl)
  clear hsm
  go_wp2_with fail
  refine (HT.out _ hm).mono ?_
  rintro e w2 ⟨bs, rfl, hsm, hb2⟩
  replace s0 := keep1 hb2 s0
  replace s1 := keep1 hb2 s1
  replace s2 := keep1 hb2 s2
  replace s3 := keep1 hb2 s3
  replace t0 := keep1 hb2 t0
  replace t1 := keep1 hb2 t1
  replace t2 := keep1 hb2 t2
  replace t3 := keep1 hb2 t3
  replace hl := hl.below hb2
  replace hm := hm.below hb2
  replace hbW := hbW.trans (hb2.mono hbW.size)
  clear hb2
  clear HT
  cases bs with
  | false =>
    clear hsm
    go_wp2_with fail
    refine (known_any _).mono ?_
    rintro e wz ⟨rfl, hbz⟩
    go_wp2_with fail
    go_ret
    exact ⟨rfl, hbW.trans (hbz.mono hbW.size)⟩
  | true =>
  have hsb := hid (hsm rfl)
  clear hsm
  go_wp2_with fail
  have hsum : countL L + countL M ≤ 4294967295 := by have := both_small hsa.out; have := both_small hsb.out; omega
  have HSUM := hid hsum
  clear hsum
  refine (HP.out _ hl hm HSUM.out).mono ?_
  rintro e w4 ⟨Ap, cp, X, rfl, hX, hXi, hXl, hb4⟩
  replace s0 := keep1 hb4 s0
  replace s1 := keep1 hb4 s1
  replace s2 := keep1 hb4 s2
  replace s3 := keep1 hb4 s3
  replace t0 := keep1 hb4 t0
  replace t1 := keep1 hb4 t1
  replace t2 := keep1 hb4 t2
  replace t3 := keep1 hb4 t3
  replace hl := hl.below hb4
  replace hm := hm.below hb4
  replace hbW := hbW.trans (hb4.mono hbW.size)
  clear hb4
  have hb5 := below_box w4 c1 b1 r1 Ap X.length cp
  obtain ⟨p0, p1, p2, p3⟩ := SndAt.new w4 c1 b1 r1 Ap X.length cp
  replace s0 := keep1 hb5 s0
  replace s1 := keep1 hb5 s1
  replace s2 := keep1 hb5 s2
  replace s3 := keep1 hb5 s3
  replace t0 := keep1 hb5 t0
  replace t1 := keep1 hb5 t1
  replace t2 := keep1 hb5 t2
  replace t3 := keep1 hb5 t3
  replace hl := hl.below hb5
  replace hm := hm.below hb5
  replace hX := hX.below hb5
  replace hbW := hbW.trans (hb5.mono hbW.size)
  go_wp2_with fail
  generalize hgp : w4.heap.size = gp at *
  replace hgp := hid hgp
  generalize w4.alloc (.cells #[.int .i64 c1, .int .i64 b1, .int .i64 r1, .slice Ap X.length cp] 26) = w5 at *
  clear hb5
  refine (HQ.out _ hl hm).mono ?_
  rintro e w6 ⟨Aq, cq, N, rfl, hN, hNi, hNl, hb6⟩
  replace s0 := keep1 hb6 s0
  replace s1 := keep1 hb6 s1
  replace s2 := keep1 hb6 s2
  replace s3 := keep1 hb6 s3
  replace p0 := keep1 hb6 p0
  replace p1 := keep1 hb6 p1
  replace p2 := keep1 hb6 p2
  replace p3 := keep1 hb6 p3
  replace hX := hX.below hb6
  replace hbW := hbW.trans (hb6.mono hbW.size)
  clear hb6
  clear HP HQ t0 t1 t2 t3 hl hm s3
  have hb7 := below_box w6 c1 b1 r1 Aq N.length cq
  obtain ⟨q0, q1, q2, q3⟩ := SndAt.new w6 c1 b1 r1 Aq N.length cq
  replace s0 := keep1 hb7 s0
  replace s1 := keep1 hb7 s1
  replace s2 := keep1 hb7 s2
  replace p0 := keep1 hb7 p0
  replace p1 := keep1 hb7 p1
  replace p2 := keep1 hb7 p2
  replace p3 := keep1 hb7 p3
  replace hX := hX.below hb7
  replace hN := hN.below hb7
  replace hbW := hbW.trans (hb7.mono hbW.size)
  go_wp2_with fail
  generalize hgq : w6.heap.size = gq at *
  replace hgq := hid hgq
  generalize w6.alloc (.cells #[.int .i64 c1, .int .i64 b1, .int .i64 r1, .slice Aq N.length cq] 26) = w7 at *
  clear hb7
  have HSm := rsame_any c1 b1 r1 Ap cp X c1 b1 r1 Aq cq N w7 hX hN hXl hNl
  rw [same_ints c1 b1 r1 (hXi.trans hNi.symm)] at HSm
  refine (HSm).mono ?_
  rintro e w9 ⟨rfl, hb9⟩
  replace s0 := keep1 hb9 s0
  replace s1 := keep1 hb9 s1
  replace s2 := keep1 hb9 s2
  replace hbW := hbW.trans (hb9.mono hbW.size)
  clear hb9
  clear HSm q0 q1 q2 q3 p0 p1 p2 p3 hN hNi hNl hX hXi hXl
  by_cases hn1 : 400 < n ∧ n ≤ 1048576
  case pos =>
    obtain ⟨hn1, hn2⟩ := hn1
    have d1 : decide (400 < n) = true := decide_eq_true hn1
    have d2 : decide (n ≤ 1048576) = true := decide_eq_true hn2
    clear hn1 hn2
    go_wp2_with fail
    refine (known_any _).mono ?_
    rintro e wz ⟨rfl, hbz⟩
    go_wp2_with fail
    go_ret
    exact ⟨rfl, hbW.trans (hbz.mono hbW.size)⟩
  by_cases h4 : 400 < n
  case pos =>
    cases hr : rightF ch bi ra with
    | false =>
      have hVe : V = 20 := by rw [HVV.out]; unfold silV; rw [hr]; simp
      obtain ⟨rfl, rfl, rfl, rfl⟩ := HV2.out (by rw [hVe]; omega)
      subst hVe
      have d1 : decide (400 < n) = true := decide_eq_true h4
      have d2 : decide (n ≤ 1048576) = false := decide_eq_false (by omega)
      have hn9 := hid hn1
      have h49 := hid h4
      clear hn1 h4
      go_wp2_with fail
      refine (HZ.out _).mono ?_
      rintro e wa ⟨Ay, cy, Y, rfl, hY, hYi, hYl, hb10⟩
      replace s0 := keep1 hb10 s0
      replace s1 := keep1 hb10 s1
      replace s2 := keep1 hb10 s2
      replace hbW := hbW.trans (hb10.mono hbW.size)
      clear hb10
      clear HZ
      have hb11 := below_box wa 0 0 0 Ay Y.length cy
      obtain ⟨z0, z1, z2, z3⟩ := SndAt.new wa 0 0 0 Ay Y.length cy
      replace s0 := keep1 hb11 s0
      replace s1 := keep1 hb11 s1
      replace s2 := keep1 hb11 s2
      replace hY := hY.below hb11
      replace hbW := hbW.trans (hb11.mono hbW.size)
      go_wp2_with fail
      generalize hgz : wa.heap.size = gz at *
      replace hgz := hid hgz
      generalize wa.alloc (.cells #[.int .i64 0, .int .i64 0, .int .i64 0, .slice Ay Y.length cy] 26) = wb at *
      clear hb11
      have HRR := rpright_any ch bi ra wb
      rw [hr] at HRR
      refine (HRR).mono ?_
      rintro e wc ⟨rfl, hb12⟩
      replace s0 := keep1 hb12 s0
      replace s1 := keep1 hb12 s1
      replace s2 := keep1 hb12 s2
      replace z0 := keep1 hb12 z0
      replace z1 := keep1 hb12 z1
      replace z2 := keep1 hb12 z2
      replace z3 := keep1 hb12 z3
      replace hY := hY.below hb12
      replace hbW := hbW.trans (hb12.mono hbW.size)
      clear hb12
      clear HRR
      go_wp2_with fail
      have HSb := rsame_any 0 0 0 Ay cy Y 0 0 0 none 0 [] wc hY ⟨Sees.nil _ _, by simp⟩ hYl (by simp)
      rw [same_ints 0 0 0 (L := Y) (M := []) (by rw [hYi]; rfl)] at HSb
      refine (HSb).mono ?_
      rintro e wd ⟨rfl, hb13⟩
      replace hbW := hbW.trans (hb13.mono hbW.size)
      clear hb13
      clear HSb
      go_wp2_with fail
      refine (known_any _).mono ?_
      rintro e wz ⟨rfl, hbz⟩
      go_wp2_with fail
      go_ret
      exact ⟨rfl, hbW.trans (hbz.mono hbW.size)⟩
    | true =>
      have hVe : V = 1 := by rw [HVV.out]; unfold silV; rw [hr, if_neg (by simp), if_neg (by omega)]
      obtain ⟨rfl, rfl, rfl, rfl⟩ := HV2.out (by rw [hVe]; omega)
      subst hVe
      have d1 : decide (400 < n) = true := decide_eq_true h4
      have d2 : decide (n ≤ 1048576) = false := decide_eq_false (by omega)
      have d3 : decide (n < 0) = false := decide_eq_false (by omega)
      have hn9 := hid hn1
      have h49 := hid h4
      clear hn1 h4
      go_wp2_with fail
      refine (HZ.out _).mono ?_
      rintro e wa ⟨Ay, cy, Y, rfl, hY, hYi, hYl, hb10⟩
      replace s0 := keep1 hb10 s0
      replace s1 := keep1 hb10 s1
      replace s2 := keep1 hb10 s2
      replace hbW := hbW.trans (hb10.mono hbW.size)
      clear hb10
      clear HZ
      have hb11 := below_box wa 0 0 0 Ay Y.length cy
      obtain ⟨z0, z1, z2, z3⟩ := SndAt.new wa 0 0 0 Ay Y.length cy
      replace s0 := keep1 hb11 s0
      replace s1 := keep1 hb11 s1
      replace s2 := keep1 hb11 s2
      replace hY := hY.below hb11
      replace hbW := hbW.trans (hb11.mono hbW.size)
      go_wp2_with fail
      generalize hgz : wa.heap.size = gz at *
      replace hgz := hid hgz
      generalize wa.alloc (.cells #[.int .i64 0, .int .i64 0, .int .i64 0, .slice Ay Y.length cy] 26) = wb at *
      clear hb11
      have HRR := rpright_any ch bi ra wb
      rw [hr] at HRR
      refine (HRR).mono ?_
      rintro e wc ⟨rfl, hb12⟩
      replace s0 := keep1 hb12 s0
      replace s1 := keep1 hb12 s1
      replace s2 := keep1 hb12 s2
      replace z0 := keep1 hb12 z0
      replace z1 := keep1 hb12 z1
      replace z2 := keep1 hb12 z2
      replace z3 := keep1 hb12 z3
      replace hY := hY.below hb12
      replace hbW := hbW.trans (hb12.mono hbW.size)
      clear hb12
      clear HRR
      go_wp2_with fail
      have HSb := rsame_any 0 0 0 Ay cy Y 0 0 0 none 0 [] wc hY ⟨Sees.nil _ _, by simp⟩ hYl (by simp)
      rw [same_ints 0 0 0 (L := Y) (M := []) (by rw [hYi]; rfl)] at HSb
      refine (HSb).mono ?_
      rintro e wd ⟨rfl, hb13⟩
      replace hbW := hbW.trans (hb13.mono hbW.size)
      clear hb13
      clear HSb
      go_wp2_with fail
      refine (known_any _).mono ?_
      rintro e wz ⟨rfl, hbz⟩
      go_wp2_with fail
      go_ret
      exact ⟨rfl, hbW.trans (hbz.mono hbW.size)⟩
  have d1 : decide (400 < n) = false := decide_eq_false h4
  cases hr : rightF ch bi ra with
  | false =>
    have hVe : V = 20 := by rw [HVV.out]; unfold silV; rw [hr]; simp
    obtain ⟨rfl, rfl, rfl, rfl⟩ := HV2.out (by rw [hVe]; omega)
    subst hVe
    clear hn1 h4
    go_wp2_with fail
    refine (HZ.out _).mono ?_
    rintro e wa ⟨Ay, cy, Y, rfl, hY, hYi, hYl, hb10⟩
    replace s0 := keep1 hb10 s0
    replace s1 := keep1 hb10 s1
    replace s2 := keep1 hb10 s2
    replace hbW := hbW.trans (hb10.mono hbW.size)
    clear hb10
    clear HZ
    have hb11 := below_box wa 0 0 0 Ay Y.length cy
    obtain ⟨z0, z1, z2, z3⟩ := SndAt.new wa 0 0 0 Ay Y.length cy
    replace s0 := keep1 hb11 s0
    replace s1 := keep1 hb11 s1
    replace s2 := keep1 hb11 s2
    replace hY := hY.below hb11
    replace hbW := hbW.trans (hb11.mono hbW.size)
    go_wp2_with fail
    generalize hgz : wa.heap.size = gz at *
    replace hgz := hid hgz
    generalize wa.alloc (.cells #[.int .i64 0, .int .i64 0, .int .i64 0, .slice Ay Y.length cy] 26) = wb at *
    clear hb11
    have HRR := rpright_any ch bi ra wb
    rw [hr] at HRR
    refine (HRR).mono ?_
    rintro e wc ⟨rfl, hb12⟩
    replace s0 := keep1 hb12 s0
    replace s1 := keep1 hb12 s1
    replace s2 := keep1 hb12 s2
    replace z0 := keep1 hb12 z0
    replace z1 := keep1 hb12 z1
    replace z2 := keep1 hb12 z2
    replace z3 := keep1 hb12 z3
    replace hY := hY.below hb12
    replace hbW := hbW.trans (hb12.mono hbW.size)
    clear hb12
    clear HRR
    go_wp2_with fail
    have HSb := rsame_any 0 0 0 Ay cy Y 0 0 0 none 0 [] wc hY ⟨Sees.nil _ _, by simp⟩ hYl (by simp)
    rw [same_ints 0 0 0 (L := Y) (M := []) (by rw [hYi]; rfl)] at HSb
    refine (HSb).mono ?_
    rintro e wd ⟨rfl, hb13⟩
    replace hbW := hbW.trans (hb13.mono hbW.size)
    clear hb13
    clear HSb
    go_wp2_with fail
    refine (known_any _).mono ?_
    rintro e wz ⟨rfl, hbz⟩
    go_wp2_with fail
    go_ret
    exact ⟨rfl, hbW.trans (hbz.mono hbW.size)⟩
  | true =>
    by_cases h0 : n < 0
    case pos =>
      have hVe : V = 1 := by rw [HVV.out]; unfold silV; rw [hr, if_neg (by simp), if_neg (by omega)]
      obtain ⟨rfl, rfl, rfl, rfl⟩ := HV2.out (by rw [hVe]; omega)
      subst hVe
      have d3 : decide (n < 0) = true := decide_eq_true h0
      have h09 := hid h0
      clear hn1 h4 h0
      go_wp2_with fail
      refine (HZ.out _).mono ?_
      rintro e wa ⟨Ay, cy, Y, rfl, hY, hYi, hYl, hb10⟩
      replace s0 := keep1 hb10 s0
      replace s1 := keep1 hb10 s1
      replace s2 := keep1 hb10 s2
      replace hbW := hbW.trans (hb10.mono hbW.size)
      clear hb10
      clear HZ
      have hb11 := below_box wa 0 0 0 Ay Y.length cy
      obtain ⟨z0, z1, z2, z3⟩ := SndAt.new wa 0 0 0 Ay Y.length cy
      replace s0 := keep1 hb11 s0
      replace s1 := keep1 hb11 s1
      replace s2 := keep1 hb11 s2
      replace hY := hY.below hb11
      replace hbW := hbW.trans (hb11.mono hbW.size)
      go_wp2_with fail
      generalize hgz : wa.heap.size = gz at *
      replace hgz := hid hgz
      generalize wa.alloc (.cells #[.int .i64 0, .int .i64 0, .int .i64 0, .slice Ay Y.length cy] 26) = wb at *
      clear hb11
      have HRR := rpright_any ch bi ra wb
      rw [hr] at HRR
      refine (HRR).mono ?_
      rintro e wc ⟨rfl, hb12⟩
      replace s0 := keep1 hb12 s0
      replace s1 := keep1 hb12 s1
      replace s2 := keep1 hb12 s2
      replace z0 := keep1 hb12 z0
      replace z1 := keep1 hb12 z1
      replace z2 := keep1 hb12 z2
      replace z3 := keep1 hb12 z3
      replace hY := hY.below hb12
      replace hbW := hbW.trans (hb12.mono hbW.size)
      clear hb12
      clear HRR
      go_wp2_with fail
      have HSb := rsame_any 0 0 0 Ay cy Y 0 0 0 none 0 [] wc hY ⟨Sees.nil _ _, by simp⟩ hYl (by simp)
      rw [same_ints 0 0 0 (L := Y) (M := []) (by rw [hYi]; rfl)] at HSb
      refine (HSb).mono ?_
      rintro e wd ⟨rfl, hb13⟩
      replace hbW := hbW.trans (hb13.mono hbW.size)
      clear hb13
      clear HSb
      go_wp2_with fail
      refine (known_any _).mono ?_
      rintro e wz ⟨rfl, hbz⟩
      go_wp2_with fail
      go_ret
      exact ⟨rfl, hbW.trans (hbz.mono hbW.size)⟩
    have d3 : decide (n < 0) = false := decide_eq_false h0
    have hVe : V = 0 := by rw [HVV.out]; unfold silV; rw [hr, if_neg (by simp), if_pos (by omega)]
    obtain ⟨rfl, rfl, rfl, hl2⟩ := HV1.out hVe
    subst hVe
    have HL2 := hid hl2
    have HNN := hid (show 0 ≤ n ∧ n ≤ 400 by omega)
    clear hn1 h4 h0 hl2
    have HSIL := hid (fun W => show Calls Try.prog 28 #[.agg #[.int .i64 c2, .int .i64 b2, .int .i64 r2], .int .i64 n] W (SoundIs W c2 b2 r2 l2) from by
      have hrr := hr
      unfold rightF at hrr
      have hrr := of_decide_eq_true hrr
      obtain ⟨CH, hCH⟩ : ∃ CH : Nat, c2 = (CH : Int) := ⟨c2.toNat, by omega⟩
      obtain ⟨NN, hNN⟩ : ∃ NN : Nat, n = (NN : Int) := ⟨n.toNat, by have := HNN.out; omega⟩
      rw [HL2.out, hCH, hNN, Int.toNat_natCast, Int.toNat_natCast]
      have h4 := HNN.out
      exact (rsil_any CH NN b2 r2 W (by omega) (by omega)).mono fun e w' z => sil_sees z (by omega) (by unfold maxLen; omega))
    have HSAME := hid (fun (W : World) (A1 A2 : Option Addr) (k1 k2 : Nat) (Y1 Y2 : List Chan) (hY1 : SeesL W A1 Y1) (hY2 : SeesL W A2 Y2) (m1 : Y1.length ≤ maxLen) (m2 : Y2.length ≤ maxLen) (i1 : ints Y1 = l2) (i2 : ints Y2 = l2) => show Calls Try.prog 21 #[.agg #[.int .i64 c2, .int .i64 b2, .int .i64 r2, .slice A1 Y1.length k1], .agg #[.int .i64 c2, .int .i64 b2, .int .i64 r2, .slice A2 Y2.length k2]] W (fun e w' => e = .returned (.bool true) ∧ Below W.heap.size W w') from by
      have h := rsame_any c2 b2 r2 A1 k1 Y1 c2 b2 r2 A2 k2 Y2 W hY1 hY2 m1 m2
      rw [same_ints c2 b2 r2 (i1.trans i2.symm)] at h
      exact h)
    go_wp2_with fail
    refine (HZ.out _).mono ?_
    rintro e wa ⟨Ay, cy, Y, rfl, hY, hYi, hYl, hb10⟩
    replace s0 := keep1 hb10 s0
    replace s1 := keep1 hb10 s1
    replace s2 := keep1 hb10 s2
    replace hbW := hbW.trans (hb10.mono hbW.size)
    clear hb10
    clear HZ
    have hb11 := below_box wa c2 b2 r2 Ay Y.length cy
    obtain ⟨z0, z1, z2, z3⟩ := SndAt.new wa c2 b2 r2 Ay Y.length cy
    replace s0 := keep1 hb11 s0
    replace s1 := keep1 hb11 s1
    replace s2 := keep1 hb11 s2
    replace hY := hY.below hb11
    replace hbW := hbW.trans (hb11.mono hbW.size)
    go_wp2_with fail
    generalize hgz : wa.heap.size = gz at *
    replace hgz := hid hgz
    generalize wa.alloc (.cells #[.int .i64 c2, .int .i64 b2, .int .i64 r2, .slice Ay Y.length cy] 26) = wb at *
    clear hb11
    have HRR := rpright_any c2 b2 r2 wb
    rw [hr] at HRR
    refine (HRR).mono ?_
    rintro e wc ⟨rfl, hb12⟩
    replace s0 := keep1 hb12 s0
    replace s1 := keep1 hb12 s1
    replace s2 := keep1 hb12 s2
    replace z0 := keep1 hb12 z0
    replace z1 := keep1 hb12 z1
    replace z2 := keep1 hb12 z2
    replace z3 := keep1 hb12 z3
    replace hY := hY.below hb12
    replace hbW := hbW.trans (hb12.mono hbW.size)
    clear hb12
    clear HRR
    go_wp2_with fail
    clear HV1 HV2 HVV HL2 HNN hr
    go_region_held3 (fun w' => w'.cell? ⟨w.heap.size, 0, none⟩ = some (.int .i64 c2) ∧ w'.cell? ⟨w.heap.size, 1, none⟩ = some (.int .i64 b2) ∧ w'.cell? ⟨w.heap.size, 2, none⟩ = some (.int .i64 r2) ∧ w'.cell? ⟨gz, 0, none⟩ = some (.int .i64 c2) ∧ w'.cell? ⟨gz, 1, none⟩ = some (.int .i64 b2) ∧ w'.cell? ⟨gz, 2, none⟩ = some (.int .i64 r2) ∧ w'.cell? ⟨gz, 3, none⟩ = some (.slice Ay Y.length cy)) (first | exact ⟨s0, s1, s2, z0, z1, z2, z3⟩ | go_keep) (first | (go_at_call 28; refine (HSIL.out _).mono ?_; rintro e wf ⟨A2, k2, Y2, rfl, hY2, hYi2, hYl2, hbf⟩; replace s0 := keep1 hbf s0; replace s1 := keep1 hbf s1; replace s2 := keep1 hbf s2; replace z0 := keep1 hbf z0; replace z1 := keep1 hbf z1; replace z2 := keep1 hbf z2; replace z3 := keep1 hbf z3; replace hY := hY.below ⟨hbf.os, hbf.tape, hbf.output, hbf.size, hbf.block⟩; replace hbW := Below.trans hbW (Below.mono (w := _) ⟨hbf.os, hbf.tape, hbf.output, hbf.size, hbf.block⟩ hbW.size); clear hbf HSIL) | (go_at_call 21; refine (HSAME.out _ _ _ _ _ _ _ hY hY2 hYl hYl2 hYi hYi2).mono ?_; rintro e wg ⟨rfl, hbg⟩; replace s0 := keep1 hbg s0; replace s1 := keep1 hbg s1; replace s2 := keep1 hbg s2; replace z0 := keep1 hbg z0; replace z1 := keep1 hbg z1; replace z2 := keep1 hbg z2; replace z3 := keep1 hbg z3; replace hbW := Below.trans hbW (Below.mono (w := _) ⟨hbg.os, hbg.tape, hbg.output, hbg.size, hbg.block⟩ hbW.size); clear hbg hY hY2 hYi2 hYl2 HSAME) | (go_at_call 9; refine (known_any _).mono ?_; rintro e wh ⟨rfl, hbh⟩; replace s0 := keep1 hbh s0; replace s1 := keep1 hbh s1; replace s2 := keep1 hbh s2; replace z0 := keep1 hbh z0; replace z1 := keep1 hbh z1; replace z2 := keep1 hbh z2; replace z3 := keep1 hbh z3; replace hbW := Below.trans hbW (Below.mono (w := _) ⟨hbh.os, hbh.tape, hbh.output, hbh.size, hbh.block⟩ hbW.size); clear hbh))
    all_goals (go_wp2_with fail; go_ret; exact ⟨rfl, hbW⟩)
end pcmJoins
end Go.Proofs.Ytfinefhebffpcaa
