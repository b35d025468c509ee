/- The reference's taker: Is; its signed numbers. -/
import Derived.Test.YtbcddeiicneajaaRefTaker2
namespace Go.Proofs.Ytbcddeiicneajaa
set_option linter.unusedVariables false
open Go.RowKit
def RIsPost (w : World) (g : Nat) (l : List UInt8) (r : (Int × Nat) × Bool) (e : Ending) (w' : World) : Prop :=
  e = .returned (.bool r.2) ∧ Rk w' g r.1.1 r.1.2 l ∧ But (Only g) w w'
theorem take_ne {x b : List UInt8} {k : Nat} (h : k < x.length) (h' : k < b.length) (hne : x[k] ≠ b[k]) : x ≠ b := by
  rintro rfl
  exact hne rfl
theorem take_eq {x b : List UInt8} {k : Nat} (h : k < x.length) (h' : k < b.length) (he : x[k] = b[k]) (ht : x.take k = b.take k) : x.take (k + 1) = b.take (k + 1) := by
  rw [List.take_succ_eq_append_getElem h, List.take_succ_eq_append_getElem h', ht, he]
theorem tis_bad {err : Int} {p : Nat} {l b : List UInt8} (h : (takeRaw (err, p) l (b.length : Int)).1.1 ≠ 0) : tisR (err, p) l b = ((takeRaw (err, p) l (b.length : Int)).1, false) ∧ (takeRaw (err, p) l (b.length : Int)).2 = [] := by
  unfold takeRaw at h ⊢
  unfold tisR
  dsimp only at h ⊢
  by_cases he : err ≠ 0
  · rw [if_pos he, if_pos he]; exact ⟨rfl, rfl⟩
  · rw [if_neg he, if_neg (show ¬ (b.length : Int) < 0 by omega)] at h ⊢
    rw [if_neg he]
    unfold tnext at h ⊢
    rw [show ((b.length : Int)).toNat = b.length from rfl] at h ⊢
    by_cases hlt : l.length - p < b.length
    · rw [if_pos hlt, if_pos hlt]; exact ⟨rfl, rfl⟩
    · rw [if_neg hlt] at h; exact absurd rfl h
set_option maxRecDepth 20000 in
set_option maxHeartbeats 4000000 in
theorem ris_any (g : Nat) (err : Int) (p : Nat) (l : List UInt8) (A : Option Addr) (c : Nat) (b : List UInt8) (w : World) (h : Rk w g err p l) (hb : SeesB w A b) (hlen : l.length ≤ 140737488355328) (hbl : b.length ≤ 140737488355328) :
    Calls Try.prog 43 #[.pointer (some ⟨g, 0, none⟩), .slice A b.length c] w (RIsPost w g l (tisR (err, p) l b)) := by
  have hN := rnext_any g err p (b.length : Int) false l w h hlen (by omega)
  rw [nextR_false] at hN
  by_cases hbad : (takeRaw (err, p) l (b.length : Int)).1.1 ≠ 0
  · have hsame := tis_bad hbad
    obtain ⟨hs1, hs2⟩ := hsame
    rw [hs1]
    obtain ⟨R, hR⟩ : ∃ R, R = takeRaw (err, p) l (b.length : Int) := ⟨_, rfl⟩
    rw [← hR] at hN hbad hs2 ⊢
    obtain ⟨⟨E, q⟩, x⟩ := R
    simp only at hbad hs2 ⊢
    subst hs2
    have HN := hid hN
    have dE : (E != 0) = true := by simpa using hbad
    have dE3 : decide (E = 0) = false := decide_eq_false hbad
    clear hN hR hbad hs1
    go_enter Try.func43, Try.ntmps43
    go_wp2_with fail
    refine HN.out.mono ?_
    rintro e w1 ⟨A1, c1, rfl, hsx, hT, hB⟩
    obtain ⟨A2, c2, hc0, hc1, hc2, _, _, _, _, hf⟩ := hT.cells
    go_wp2_with fail
    go_ret
    exact ⟨rfl, hT, hB⟩
  have he : err = 0 := by
    by_cases he : err = 0
    · exact he
    · exfalso
      apply hbad
      unfold takeRaw
      rw [if_pos he]
      exact he
  subst he
  have hge : ¬ l.length - p < b.length := by
    intro hlt
    apply hbad
    unfold takeRaw tnext
    rw [if_neg (by simp), if_neg (by omega), show ((b.length : Int)).toNat = b.length from rfl, if_pos hlt]
    simp
  have hr : takeRaw (0, p) l (b.length : Int) = ((0, p + b.length), (l.drop p).take b.length) := by
    unfold takeRaw tnext
    rw [if_neg (by simp), if_neg (by omega), show ((b.length : Int)).toNat = b.length from rfl, if_neg hge]
  rw [tisR, if_neg (by simp), if_neg hge]
  rw [hr] at hN
  have hxl : ((l.drop p).take b.length).length = b.length := by rw [List.length_take, List.length_drop]; omega
  generalize (l.drop p).take b.length = x at *
  have HN := hid (show Calls Try.prog 40 #[.pointer (some ⟨g, 0, none⟩), .int .i64 (b.length : Int), .bool false] w (fun e w' => ∃ A1 c1, e = .returned (.slice A1 b.length c1) ∧ SeesB w' A1 x ∧ Rk w' g 0 (p + b.length) l ∧ But (Only g) w w') from by
    refine hN.mono ?_
    rintro e w' ⟨A1, c1, rfl, hs, hT, hB⟩
    exact ⟨A1, c1, by rw [← hxl], hs, hT, hB⟩)
  have HB := hid (fun (w1 : World) (hB : But (Only g) w w1) => show SeesB w1 A b by
    obtain ⟨A', c', hg', _⟩ := h
    exact SeesB.butTyped hb hB hg' (rk_row _ _ _ _ _))
  obtain ⟨D, hD⟩ : ∃ D : Bool, D = decide (x = b) := ⟨_, rfl⟩
  rw [← hD]
  have HD := hid hD
  have HXL := hid hxl
  obtain ⟨N, hNb⟩ : ∃ N, N = b.length := ⟨_, rfl⟩
  have hbN : b.length = N := hNb.symm
  rw [← hNb] at HN
  rw [← hNb]
  have HNB := hid hbN
  clear hN hD hr hbad hge hb hxl hNb hbN
  have hN2 : N ≤ 140737488355328 := by rw [← HNB.out]; exact hbl
  go_enter Try.func43, Try.ntmps43
  go_wp2_with fail
  refine HN.out.mono ?_
  rintro e w1 ⟨A1, c1, rfl, hsx, hT, hB⟩
  have hsb := HB.out w1 hB
  obtain ⟨A2, c2, hc0, hc1, hc2, _, _, _, _, hf⟩ := hT.cells
  have hsx' : SeesB w1 A1 x := hsx
  go_wp2_with fail
  clear hc0 hc1 hc2 hf
  go_loopw [6] (fun i wr => ∃ k : Nat, k ≤ N ∧ i = .int .i64 (k : Int) ∧ Below w1.heap.size w1 wr ∧ Hid (x.take k = b.take k)) (fun i _ => N - (intOf i).toNat)
  case atStart => exact ⟨0, by omega, rfl, Below.refl _ _, hid rfl⟩
  case round =>
    obtain ⟨k, hk, rfl, hbr, hE⟩ := hrel
    by_cases hlt : k < N
    · have dk : decide ((k : Int) < (N : Int)) = true := decide_eq_true (by omega)
      have ck : (k : Int) < (N : Int) := by omega
      have hkb : k < b.length := by rw [HNB.out]; exact hlt
      have hkx : k < x.length := by rw [HXL.out]; exact hkb
      have hxl2 : x.length = N := HXL.out.trans HNB.out
      obtain ⟨a, hAa, hcx⟩ := (hsx'.below hbr).at hkx
      obtain ⟨a2, hAb, hcb⟩ := (hsb.below hbr).at hkb
      have HT := hid (fun (he : x[k] = b[k]) => take_eq hkx hkb he hE.out)
      have HNE := hid (fun (he : x[k] ≠ b[k]) => take_ne hkx hkb he)
      have hxb := byte_lt x[k]
      have hbb := byte_lt b[k]
      have HIJ := hid (show (x[k].toNat : Int) = (b[k].toNat : Int) → x[k] = b[k] from fun he => UInt8.toNat_inj.1 (by omega))
      generalize x[k] = X at *
      generalize b[k] = Y at *
      clear hkb hkx hxl2
      subst hAa hAb
      by_cases hq : X = Y
      · subst hq
        have HQ := hid (HT.out rfl)
        clear HT HNE HIJ hE
        go_wp2_with fail
        go_quiet (fail)
        go_wp2_with fail
        go_roundw
        case rel => exact ⟨k + 1, by omega, by go_num, below_drewN hbr _, HQ⟩
        case measure => simp [intOf]; omega
      · have hne : ((X.toNat : Int) != (Y.toNat : Int)) = true := by
          simp only [bne_iff_ne, ne_eq]
          exact fun he => hq (HIJ.out he)
        have hne2 : decide ((X.toNat : Int) = (Y.toNat : Int)) = false := decide_eq_false fun he => hq (HIJ.out he)
        obtain rfl : D = false := by rw [HD.out]; exact decide_eq_false (HNE.out hq)
        clear HT HNE HIJ hE hq
        go_wp2_with fail
        go_quiet (fail)
        go_wp2_with fail
        go_ret
        exact ⟨rfl, (hT.below hbr).below (below_drewN (Below.refl _ _) _), hB.trans (But.of_below (R := fun _ => False) (below_drewN hbr _)) (fun n h => h.elim)⟩
    · obtain rfl : k = N := by omega
      have dk : decide ((k : Int) < (k : Int)) = false := decide_eq_false (by omega)
      obtain rfl : D = true := by
        rw [HD.out]
        apply decide_eq_true
        have := hE.out
        rwa [List.take_of_length_le (by rw [HXL.out, HNB.out]; exact Nat.le_refl _), List.take_of_length_le (by rw [HNB.out]; exact Nat.le_refl _)] at this
      go_wp2_with fail
      go_ret
      exact ⟨rfl, hT.below hbr, hB.trans (But.of_below (R := fun _ => False) hbr) (fun n h => h.elim)⟩
/-- a field's bytes as a signed number -/
def sgnL (l : List UInt8) : Int := if l.length = 8 then wrap64 (valLE l : Nat) else if 0 < l.length ∧ 128 ≤ (l.getD (l.length - 1) 0).toNat then (valLE l : Nat) - ((256 ^ l.length : Nat) : Int) else (valLE l : Nat)
set_option maxRecDepth 20000 in
set_option maxHeartbeats 2000000 in
theorem signed_any (A : Option Addr) (c : Nat) (l : List UInt8) (w : World) (hl : SeesB w A l) (hlen : l.length ≤ 8) :
    Calls Try.prog 41 #[.slice A l.length c] w fun e w' => e = .returned (.int .i64 (sgnL l)) ∧ w = w' := by
  have hV := rvalue_any A c l w hl hlen
  have hvl := valLE_lt l
  obtain ⟨V, hVe⟩ : ∃ V, V = valLE l := ⟨_, rfl⟩
  unfold sgnL
  rw [← hVe] at hV hvl ⊢
  clear hVe
  by_cases h8 : l.length = 8
  · rw [if_pos h8]
    have d8 : decide ((l.length : Int) = 8) = true := decide_eq_true (by omega)
    have HV := hid hV
    rw [h8] at hvl
    have hw : wrap64 (V : Int) = IntKind.i64.wrap (V : Int) := by rw [IntKind.wrap_i64]; unfold wrap64; omega
    clear hV
    rw [h8] at HV ⊢
    go_enter Try.func41, Try.ntmps41
    go_wp2_with fail
    refine HV.out.mono ?_
    rintro e w1 ⟨rfl, rfl⟩
    go_wp2_with fail
    go_ret
    exact ⟨rfl, rfl⟩
  rw [if_neg h8]
  have h7 : l.length ≤ 7 := by omega
  have hP := Nat.pow_le_pow_right (show 0 < 256 by omega) h7
  have hwV : wrap64 (V : Int) = (V : Int) := by unfold wrap64; omega
  have HP := hid (fun W => power_any l.length W h7)
  by_cases h0 : l.length = 0
  · rw [if_neg (by omega)]
    have HV := hid hV
    clear hV HP
    rw [h0] at HV ⊢
    go_enter Try.func41, Try.ntmps41
    go_wp2_with fail
    refine HV.out.mono ?_
    rintro e w1 ⟨rfl, rfl⟩
    go_wp2_with fail
    go_ret
    exact ⟨rfl, rfl⟩
  have hM : l.length - 1 < l.length := by omega
  obtain ⟨a, rfl, hc⟩ := hl.at hM
  rw [show l.getD (l.length - 1) 0 = l[l.length - 1] by simp [List.getD, hM]]
  generalize l[l.length - 1] = B at *
  obtain ⟨M, hMe⟩ : ∃ M, l.length = M + 1 := ⟨l.length - 1, by omega⟩
  rw [hMe, Nat.add_sub_cancel] at hc
  have HV := hid hV
  obtain ⟨Q, hQ⟩ : ∃ Q, Q = 256 ^ l.length := ⟨_, rfl⟩
  rw [← hQ] at hvl HP hP ⊢
  clear hV hQ hM hl
  rw [hMe] at HV HP h7 h8 h0 ⊢
  clear hMe
  have hbl := byte_lt B
  have d8 : decide (((M + 1 : Nat) : Int) = 8) = false := decide_eq_false (by omega)
  have d8' : decide ((M : Int) + 1 = 8) = false := decide_eq_false (by omega)
  have d0 : decide (0 < (M : Int) + 1) = true := decide_eq_true (by omega)
  have i1 : wrap64 ((M : Int) + 1 - 1) = (M : Int) := by unfold wrap64; omega
  have i2 : (M : Int) < (M : Int) + 1 := by omega
  by_cases hb : 128 ≤ B.toNat
  · rw [if_pos ⟨by omega, hb⟩]
    have db : decide (128 ≤ (B.toNat : Int)) = true := decide_eq_true (by omega)
    have hwQ : wrap64 (Q : Int) = (Q : Int) := by unfold wrap64; omega
    have hwS : wrap64 ((V : Int) - (Q : Int)) = (V : Int) - (Q : Int) := by unfold wrap64; omega
    go_enter Try.func41, Try.ntmps41
    go_wp2_with fail
    refine HV.out.mono ?_
    rintro e w1 ⟨rfl, rfl⟩
    go_wp2_with fail
    refine (HP.out _).mono ?_
    rintro e w1 ⟨rfl, rfl⟩
    go_wp2_with fail
    go_ret
    exact ⟨rfl, rfl⟩
  · rw [if_neg (by omega)]
    have db : decide (128 ≤ (B.toNat : Int)) = false := decide_eq_false (by omega)
    go_enter Try.func41, Try.ntmps41
    go_wp2_with fail
    refine HV.out.mono ?_
    rintro e w1 ⟨rfl, rfl⟩
    go_wp2_with fail
    go_ret
    exact ⟨rfl, rfl⟩
theorem sgn_num (N B V : Nat) (h1 : 1 ≤ N) (h8 : N ≤ 8) (hV : V < 256 ^ (N - 1)) (hB : B < 256) : (if N = 8 then wrap64 ((V + B * 256 ^ (N - 1) : Nat)) else if 0 < N ∧ 128 ≤ B then ((V + B * 256 ^ (N - 1) : Nat) : Int) - ((256 ^ N : Nat) : Int) else ((V + B * 256 ^ (N - 1) : Nat) : Int)) = wrap64 (IntKind.u64.wrap (((V + B * 256 ^ (N - 1) : Nat) : Int) * 2 ^ (8 * (8 - N)))) / 2 ^ (8 * (8 - N)) := by
  have hcase : N = 1 ∨ N = 2 ∨ N = 3 ∨ N = 4 ∨ N = 5 ∨ N = 6 ∨ N = 7 ∨ N = 8 := by omega
  rcases hcase with rfl | rfl | rfl | rfl | rfl | rfl | rfl | rfl
  all_goals
    rw [IntKind.wrap_u64]
    unfold wrap64
    simp only [Nat.reduceSub, Nat.reducePow, Nat.reduceMul, Nat.reduceEqDiff, if_false, if_true, Int.reducePow] at hV ⊢
    (try split) <;> omega
/-- both readings of a signed field are one -/
theorem sgn_eq (l : List UInt8) (h1 : 1 ≤ l.length) (h8 : l.length ≤ 8) : sgnL l = signI l.length (valLE l) := by
  have hM : l.length - 1 < l.length := by omega
  have hl : l = l.take (l.length - 1) ++ [l[l.length - 1]] := by
    have h := List.take_succ_eq_append_getElem hM
    rw [show l.length - 1 + 1 = l.length by omega, List.take_length] at h
    exact h
  have hv : valLE l = valLE (l.take (l.length - 1)) + l[l.length - 1].toNat * 256 ^ (l.length - 1) := by
    have h := valLE_snoc (l.take (l.length - 1)) l[l.length - 1]
    rw [← hl, List.length_take, Nat.min_eq_left (by omega)] at h
    exact h
  have hlo := valLE_lt (l.take (l.length - 1))
  rw [List.length_take, Nat.min_eq_left (by omega)] at hlo
  have hb := byte_lt l[l.length - 1]
  have hn := sgn_num l.length l[l.length - 1].toNat (valLE (l.take (l.length - 1))) h1 h8 hlo (by omega)
  unfold sgnL signI
  rw [show l.getD (l.length - 1) 0 = l[l.length - 1] by simp [List.getD, hM], hv]
  exact hn
end Go.Proofs.Ytbcddeiicneajaa
