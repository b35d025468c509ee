/- The reference's taker: Text, Is; its signed numbers. -/
import Derived.Test.YtbcddeiicneajaaRefTaker
import Derived.Test.YtbcddeiicneajaaTakerText2
import Derived.Test.YtbcddeiicneajaaRefField
namespace Go.Proofs.Ytbcddeiicneajaa
set_option linter.unusedVariables false
open Go.RowKit
def RTextPost (w : World) (g : Nat) (l : List UInt8) (r : (Int × Nat) × List UInt8) (e : Ending) (w' : World) : Prop :=
  e = .returned (.string ⟨r.2.toArray⟩) ∧ Rk w' g r.1.1 r.1.2 l ∧ But (Only g) w w'
theorem nextR_true (s : Int × Nat) (l : List UInt8) (n : Int) : nextR s l n true = takeU s l n := by unfold nextR; rw [if_pos rfl]
theorem nextR_false (s : Int × Nat) (l : List UInt8) (n : Int) : nextR s l n false = takeRaw s l n := by unfold nextR; rw [if_neg (by simp)]
set_option maxHeartbeats 4000000 in
theorem rtktext_any (g : Nat) (err : Int) (p : Nat) (n : Int) (l : List UInt8) (w : World) (h : Rk w g err p l) (hlen : l.length ≤ 140737488355328) (hn : n ≤ 9223372036854775807) :
    Calls Try.prog 42 #[.pointer (some ⟨g, 0, none⟩), .int .i64 n] w (RTextPost w g l (textR (err, p) l n)) := by
  obtain ⟨A, c, hc0, hc1, hc2, _, _, _, hpl, hf⟩ := h.cells
  have hN := rnext_any g err p n true l w h hlen hn
  rw [nextR_true] at hN
  have h8 := takeU_len (err, p) l n
  by_cases hu : (takeU (err, p) l n).1.1 ≠ 0
  · have hub := takeU_bad hu
    have htx : textR (err, p) l n = (((takeU (err, p) l n).1.1, p), []) := by
      unfold textR
      by_cases he : err = 0
      · subst he
        rw [if_neg (by simp), if_pos hu]
      · rw [if_pos he]
        unfold takeU
        rw [if_pos he]
    rw [htx]
    obtain ⟨E, hE⟩ : ∃ E, E = (takeU (err, p) l n).1.1 := ⟨_, rfl⟩
    rw [← hE] at hub hu ⊢
    rw [hub] at hN
    have HN := hid hN
    have dE : (E == 0) = false := by simpa using hu
    have dE2 : (E != 0) = true := by simpa using hu
    have dE3 : decide (E = 0) = false := decide_eq_false hu
    clear hN hub hE hu htx h8
    go_enter Try.func42, Try.ntmps42
    go_wp2_with fail
    refine HN.out.mono ?_
    rintro e w1 ⟨A1, c1, rfl, hs1, hT, hB⟩
    clear hc0 hc1 hc2 hf
    obtain ⟨A2, c2, hc0, hc1, hc2, _, _, _, _, hf⟩ := hT.cells
    have hf1 := hf 1
    go_wp2_with fail
    refine (rvalue_any A1 c1 [] w1 hs1 (by simp)).mono ?_
    rintro e w2 ⟨rfl, rfl⟩
    go_wp2_with fail
    go_quiet (fail)
    have hdr : Below w1.heap.size w1 (w1.drewN nq) := ⟨rfl, rfl, rfl, Nat.le_refl _, fun _ _ => rfl⟩
    have hTd := (hT.below hdr).setAt p hpl
    have hcd : (w1.drewN nq).cell? ⟨g, 2, none⟩ = some (.int .i64 E) := hc2
    have hcd1 : (w1.drewN nq).cell? ⟨g, 1, none⟩ = some (.int .i64 (p : Int)) := hc1
    have hfd : (w1.drewN nq).frozen? ⟨g, 1, none⟩ = false := hf1
    have hBB : But (Only g) w (w1.drewN nq) := hB.trans (But.of_below (R := fun _ => False) hdr) (fun n h => h.elim)
    clear hc0 hc1 hc2 hf hf1 hT hB hdr
    generalize w1.drewN nq = w2 at *
    go_wp2_with fail
    go_ret
    exact ⟨rfl, hTd.1, hBB.trans hTd.2 (fun n h => .inl h)⟩
  have he0 : err = 0 := by
    by_cases he : err = 0
    · exact he
    · exfalso
      apply hu
      unfold takeU
      rw [if_pos he]
      exact he
  subst he0
  obtain ⟨_, hn1, hn8, hr, hle⟩ := takeU_good (s := (0, p)) (l := l) (n := n) (by omega)
  obtain ⟨N, rfl⟩ := Int.eq_ofNat_of_zero_le (show 0 ≤ n by omega)
  rw [textR, if_neg (by simp), if_neg hu]
  rw [show ((N : Int)).toNat = N from rfl] at hr hle
  rw [hr] at hN h8 ⊢
  clear hu hr
  simp only at hle h8 ⊢
  obtain ⟨x, hx⟩ : ∃ x, x = (l.drop p).take N := ⟨_, rfl⟩
  rw [← hx] at hN h8 ⊢
  clear hx
  have hpN : p + N ≤ l.length := by omega
  have hv8 : valLE x < 18446744073709551616 := by
    have := valLE_lt x
    have := Nat.pow_le_pow_right (show 0 < 256 by omega) h8
    omega
  have HV := hid (fun (A1 : Option Addr) (c1 : Nat) (w1 : World) (hs1 : SeesB w1 A1 x) => rvalue_any A1 c1 _ w1 hs1 h8)
  have HN := hid hN
  obtain ⟨V, hV⟩ : ∃ V, V = valLE x := ⟨_, rfl⟩
  rw [← hV] at HV hv8 ⊢
  clear hN hV hle
  by_cases hlt : l.length - (p + N) < V
  · rw [if_pos hlt]
    have hd : decide (((l.length : Int) - ((p + N : Nat) : Int)) < (V : Int)) = true := by simp; omega
    have hd2 : decide (((l.length : Int) - ((p : Int) + (N : Int))) < (V : Int)) = true := by simp; omega
    have hg1 : 0 ≤ (l.length : Int) - ((p : Int) + (N : Int)) := by omega
    clear hlt
    go_enter Try.func42, Try.ntmps42
    go_wp2_with fail
    refine HN.out.mono ?_
    rintro e w1 ⟨A1, c1, rfl, hs1, hT, hB⟩
    clear hc0 hc1 hc2 hf
    obtain ⟨A2, c2, hc0, hc1, hc2, _, _, _, _, hf⟩ := hT.cells
    have hf1 := hf 1
    have hf2 := hf 2
    go_wp2_with fail
    refine (HV.out A1 c1 w1 hs1).mono ?_
    rintro e w2 ⟨rfl, rfl⟩
    go_wp2_with fail
    go_quiet (fail)
    have hdr : Below w1.heap.size w1 (w1.drewN nq) := ⟨rfl, rfl, rfl, Nat.le_refl _, fun _ _ => rfl⟩
    have hTd := (hT.below hdr).setErr 10
    have hTe := hTd.1.setAt p (by omega)
    obtain ⟨A3, c3, k0, k1, k2, _, _, _, _, kf⟩ := hTd.1.cells
    have kf1 := kf 1
    have hcd : (w1.drewN nq).cell? ⟨g, 2, none⟩ = some (.int .i64 0) := hc2
    have hfd : (w1.drewN nq).frozen? ⟨g, 2, none⟩ = false := hf2
    have hBB : But (Only g) w (w1.drewN nq) := hB.trans (But.of_below (R := fun _ => False) hdr) (fun n h => h.elim)
    clear hc0 hc1 hc2 hf hf1 hf2 hT hB hdr hs1
    generalize w1.drewN nq = w2 at *
    go_wp2_with fail
    go_ret
    exact ⟨rfl, hTe.1, (hBB.trans hTd.2 (fun n h => .inl h)).trans hTe.2 (fun n h => .inl h)⟩
  · rw [if_neg hlt]
    have hd : decide (((l.length : Int) - ((p + N : Nat) : Int)) < (V : Int)) = false := by simp; omega
    have hd2 : decide (((l.length : Int) - ((p : Int) + (N : Int))) < (V : Int)) = false := by simp; omega
    have hg1 : 0 ≤ (l.length : Int) - ((p : Int) + (N : Int)) := by omega
    have hVl : V ≤ l.length := by omega
    have HTN := hid (show nextR (0, p + N) l (V : Int) false = ((0, p + N + V), (l.drop (p + N)).take V) by
      rw [nextR_false]; unfold takeRaw; rw [if_neg (by simp), if_neg (by omega)]; unfold tnext; rw [show ((V : Int)).toNat = V from rfl, if_neg hlt])
    generalize (l.drop (p + N)).take V = s at *
    clear hlt
    go_enter Try.func42, Try.ntmps42
    go_wp2_with fail
    refine HN.out.mono ?_
    rintro e w1 ⟨A1, c1, rfl, hs1, hT, hB⟩
    clear hc0 hc1 hc2 hf
    obtain ⟨A2, c2, hc0, hc1, hc2, _, _, _, _, hf⟩ := hT.cells
    go_wp2_with fail
    refine (HV.out A1 c1 w1 hs1).mono ?_
    rintro e w2 ⟨rfl, rfl⟩
    go_wp2_with fail
    go_quiet (fail)
    have hdr : Below w1.heap.size w1 (w1.drewN nq) := ⟨rfl, rfl, rfl, Nat.le_refl _, fun _ _ => rfl⟩
    have hTd := hT.below hdr
    have HN2 := hid (rnext_any g 0 (p + N) (V : Int) false l (w1.drewN nq) hTd hlen (by omega))
    rw [HTN.out] at HN2
    have hcd : (w1.drewN nq).cell? ⟨g, 2, none⟩ = some (.int .i64 0) := hc2
    have hBB : But (Only g) w (w1.drewN nq) := hB.trans (But.of_below (R := fun _ => False) hdr) (fun n h => h.elim)
    clear hc0 hc1 hc2 hf hT hB hdr hTd hs1
    generalize w1.drewN nq = w2 at *
    go_wp2_with fail
    refine HN2.out.mono ?_
    rintro e w3 ⟨A3, c3, rfl, hs3, hT3, hB3⟩
    have hcv := conv_bs A3 c3 _ w3 hs3
    have hfin : RTextPost w g l ((0, p + N + V), s) (.returned (.string ⟨s.toArray⟩)) w3 := ⟨rfl, hT3, hBB.trans hB3 (fun n h => .inl h)⟩
    go_wp2_with fail
    go_ret
    exact hfin
end Go.Proofs.Ytbcddeiicneajaa
