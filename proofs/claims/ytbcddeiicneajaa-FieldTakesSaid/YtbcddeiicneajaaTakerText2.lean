/- A taker's text, whatever stands there. -/
import Derived.Test.YtbcddeiicneajaaTakerText
namespace Go.Proofs.Ytbcddeiicneajaa
set_option linter.unusedVariables false
open Go.RowKit
/-- what a taker gives of a text behind a field of n bytes -/
def textR (s : Int × Nat) (l : List UInt8) (n : Int) : (Int × Nat) × List UInt8 :=
  if s.1 ≠ 0 then (s, []) else if (takeU s l n).1.1 ≠ 0 then (((takeU s l n).1.1, s.2), [])
  else if l.length - (takeU s l n).1.2 < valLE (takeU s l n).2 then ((10, s.2), []) else ((0, (takeU s l n).1.2 + valLE (takeU s l n).2), (l.drop (takeU s l n).1.2).take (valLE (takeU s l n).2))
def TextPostR (w : World) (g : Nat) (l : List UInt8) (r : (Int × Nat) × List UInt8) (e : Ending) (w' : World) : Prop :=
  e = .returned (.string ⟨r.2.toArray⟩) ∧ Tk w' g r.1.1 r.1.2 l ∧ But (Only g) w w'
theorem takeU_bad {s : Int × Nat} {l : List UInt8} {n : Int} (h : (takeU s l n).1.1 ≠ 0) : takeU s l n = (((takeU s l n).1.1, s.2), []) := by
  unfold takeU at h ⊢
  by_cases h0 : s.1 ≠ 0
  · rw [if_pos h0]
  · rw [if_neg h0] at h ⊢
    by_cases hn : n < 1 ∨ 8 < n
    · rw [if_pos hn]
    · rw [if_neg hn] at h ⊢
      unfold tnext at h ⊢
      by_cases hl : l.length - s.2 < n.toNat
      · rw [if_pos hl]
      · rw [if_neg hl] at h; simp at h
theorem takeU_len (s : Int × Nat) (l : List UInt8) (n : Int) : (takeU s l n).2.length ≤ 8 := by
  unfold takeU
  split
  · simp
  · split
    · simp
    · unfold tnext
      split
      · simp
      · simp; omega
set_option maxHeartbeats 4000000 in
theorem ttext_any (g : Nat) (err : Int) (p : Nat) (n : Int) (l : List UInt8) (w : World) (h : Tk w g err p l) (hlen : l.length ≤ 140737488355328) :
    Calls Try.prog 19 #[.pointer (some ⟨g, 0, none⟩), .int .i64 n] w (TextPostR w g l (textR (err, p) l n)) := by
  obtain ⟨A, c, hc0, hc1, hc2, _, _, _, _, hf⟩ := h.cells
  by_cases he : err = 0
  case neg =>
    have d0 : (err == 0) = false := by simpa using he
    rw [textR, if_pos he]
    go_enter Try.func19, Try.ntmps19
    go_wp2_with fail
    refine (tready_is g err false _ hc0 d0).mono ?_
    rintro e w' ⟨rfl, rfl⟩
    go_wp2_with fail
    go_ret
    exact ⟨rfl, h, But.refl _ _⟩
  subst he
  have hU := takerU_any g 0 p n l w h hlen
  by_cases hu : (takeU (0, p) l n).1.1 ≠ 0
  · have hub := takeU_bad hu
    rw [textR, if_neg (by simp), if_pos hu]
    obtain ⟨E, hE⟩ : ∃ E, E = (takeU (0, p) l n).1.1 := ⟨_, rfl⟩
    rw [← hE] at hub hu ⊢
    rw [hub] at hU
    unfold UPost at hU
    have HU := hid hU
    have dE : (E == 0) = false := by simpa using hu
    clear hU hub hE hu
    go_enter Try.func19, Try.ntmps19
    go_wp2_with fail
    refine (tready_is g 0 true _ hc0 rfl).mono ?_
    rintro e w' ⟨rfl, rfl⟩
    go_wp2_with fail
    refine HU.out.mono ?_
    rintro e w1 ⟨rfl, hT, hB⟩
    clear hc0 hc1 hc2 hf
    obtain ⟨A1, c1, hc0, hc1, hc2, _, _, _, _, hf⟩ := hT.cells
    have hf2 := hf 2
    go_wp2_with fail
    go_quiet ((go_at_call 36; refine Calls.quiet_of_same (same (tready_is g E false _ ?_ dE)); exact hc0))
    have hdr : Below w1.heap.size w1 (w1.drewN nq) := ⟨rfl, rfl, rfl, Nat.le_refl _, fun _ _ => rfl⟩
    have hTd := (hT.below hdr).setAt p (by obtain ⟨_, _, _, _, _, _, h3, _⟩ := h; exact h3)
    have hcd : (w1.drewN nq).cell? ⟨g, 0, none⟩ = some (.int .i64 E) := hc0
    have hcd2 : (w1.drewN nq).cell? ⟨g, 2, none⟩ = some (.int .i64 (p : Int)) := hc2
    have hfd2 : (w1.drewN nq).frozen? ⟨g, 2, none⟩ = false := hf2
    have hBB : But (Only g) w (w1.drewN nq) := hB.trans (But.of_below (R := fun _ => False) hdr) (fun n h => h.elim)
    clear hc0 hc1 hc2 hf hf2 hT hB hdr
    generalize w1.drewN nq = w2 at *
    go_wp2_with fail
    refine (tready_is g E false _ hcd dE).mono ?_
    rintro e w' ⟨rfl, rfl⟩
    go_wp2_with fail
    go_ret
    exact ⟨rfl, hTd.1, hBB.trans hTd.2 (fun n h => .inl h)⟩
  obtain ⟨_, hn1, hn8, hr, hle⟩ := takeU_good (s := (0, p)) (l := l) (n := n) (by omega)
  obtain ⟨N, rfl⟩ := Int.eq_ofNat_of_zero_le (show 0 ≤ n by omega)
  rw [textR, if_neg (by simp), if_neg hu]
  rw [show ((N : Int)).toNat = N from rfl] at hr hle
  rw [hr] at hU ⊢
  clear hu hr
  have hpN : p + N ≤ l.length := by
    obtain ⟨_, _, _, _, _, _, h3, _⟩ := h
    simp only at hle
    omega
  have hv8 : valLE ((l.drop p).take N) < 18446744073709551616 := by
    have := valLE_lt ((l.drop p).take N)
    have h8 : ((l.drop p).take N).length ≤ 8 := by rw [List.length_take]; omega
    have := Nat.pow_le_pow_right (show 0 < 256 by omega) h8
    omega
  unfold UPost at hU
  simp only at hU hle ⊢
  obtain ⟨V, hV⟩ : ∃ V, V = valLE ((l.drop p).take N) := ⟨_, rfl⟩
  rw [← hV] at hU hv8 ⊢
  have HU := hid hU
  have HLE := hid hle
  clear hU hV hle
  by_cases hlt : l.length - (p + N) < V
  · rw [if_pos hlt]
    have hd : decide (((l.length : Int) - ((p + N : Nat) : Int)) < (V : Int)) = true := by simp; omega
    have hd2 : decide (((l.length : Int) - ((p : Int) + (N : Int))) < (V : Int)) = true := by simp; omega
    have hg1 : 0 ≤ (l.length : Int) - ((p : Int) + (N : Int)) := by omega
    clear hlt
    go_enter Try.func19, Try.ntmps19
    go_wp2_with fail
    refine (tready_is g 0 true _ hc0 rfl).mono ?_
    rintro e w' ⟨rfl, rfl⟩
    go_wp2_with fail
    refine HU.out.mono ?_
    rintro e w1 ⟨rfl, hT, hB⟩
    clear hc0 hc1 hc2 hf
    obtain ⟨A1, c1, hc0, hc1, hc2, _, _, _, _, hf⟩ := hT.cells
    have hf0 := hf 0
    go_wp2_with fail
    go_quiet ((go_at_call 36; refine Calls.quiet_of_same (same (tready_is g 0 true _ ?_ rfl)); exact hc0))
    have hdr : Below w1.heap.size w1 (w1.drewN nq) := ⟨rfl, rfl, rfl, Nat.le_refl _, fun _ _ => rfl⟩
    have hTd := (hT.below hdr).setErr 10
    have hTe := hTd.1.setAt p (by omega)
    have hcd : (w1.drewN nq).cell? ⟨g, 0, none⟩ = some (.int .i64 0) := hc0
    have hfd : (w1.drewN nq).frozen? ⟨g, 0, none⟩ = false := hf0
    have hBB : But (Only g) w (w1.drewN nq) := hB.trans (But.of_below (R := fun _ => False) hdr) (fun n h => h.elim)
    obtain ⟨A2, c2, k0, k1, k2, _, _, _, _, kf⟩ := hTd.1.cells
    have kf2 := kf 2
    clear hc0 hc1 hc2 hf hf0 hT hB hdr
    generalize w1.drewN nq = w2 at *
    go_wp2_with fail
    refine (fail_ok g 10 w2 hcd hfd).mono ?_
    rintro e w' ⟨rfl, rfl⟩
    go_wp2_with fail
    refine (tready_is g 10 false _ k0 rfl).mono ?_
    rintro e w' ⟨rfl, rfl⟩
    go_wp2_with fail
    go_ret
    exact ⟨rfl, hTe.1, (hBB.trans hTd.2 (fun n h => .inl h)).trans hTe.2 (fun n h => .inl h)⟩
  · rw [if_neg hlt]
    have hd : decide (((l.length : Int) - ((p + N : Nat) : Int)) < (V : Int)) = false := by simp; omega
    have hd2 : decide (((l.length : Int) - ((p : Int) + (N : Int))) < (V : Int)) = false := by simp; omega
    have hg1 : 0 ≤ (l.length : Int) - ((p : Int) + (N : Int)) := by omega
    have hVl : V ≤ l.length := by omega
    have HTN := hid (show tnext (p + N) l V = ((0, p + N + V), (l.drop (p + N)).take V) by unfold tnext; rw [if_neg hlt])
    generalize (l.drop (p + N)).take V = s at *
    clear hlt
    go_enter Try.func19, Try.ntmps19
    go_wp2_with fail
    refine (tready_is g 0 true _ hc0 rfl).mono ?_
    rintro e w' ⟨rfl, rfl⟩
    go_wp2_with fail
    refine HU.out.mono ?_
    rintro e w1 ⟨rfl, hT, hB⟩
    clear hc0 hc1 hc2 hf
    obtain ⟨A1, c1, hc0, hc1, hc2, _, _, _, _, hf⟩ := hT.cells
    go_wp2_with fail
    go_quiet ((go_at_call 36; refine Calls.quiet_of_same (same (tready_is g 0 true _ ?_ rfl)); exact hc0))
    have hdr : Below w1.heap.size w1 (w1.drewN nq) := ⟨rfl, rfl, rfl, Nat.le_refl _, fun _ _ => rfl⟩
    have hTd := hT.below hdr
    have HN2 := hid (tnext_any g (p + N) V l (w1.drewN nq) hTd hlen (by omega))
    rw [HTN.out] at HN2
    have hcd : (w1.drewN nq).cell? ⟨g, 0, none⟩ = some (.int .i64 0) := hc0
    have hBB : But (Only g) w (w1.drewN nq) := hB.trans (But.of_below (R := fun _ => False) hdr) (fun n h => h.elim)
    clear hc0 hc1 hc2 hf hT hB hdr hTd
    generalize w1.drewN nq = w2 at *
    go_wp2_with fail
    refine (tready_is g 0 true _ hcd rfl).mono ?_
    rintro e w' ⟨rfl, rfl⟩
    go_wp2_with fail
    refine HN2.out.mono ?_
    rintro e w3 ⟨A3, c3, rfl, hs3, h31, h32, hT3, hB3⟩
    have hcv := conv_bs A3 c3 _ w3 hs3
    have hfin : TextPostR w g l ((0, p + N + V), s) (.returned (.string ⟨s.toArray⟩)) w3 := ⟨rfl, hT3, hBB.trans hB3 (fun n h => .inl h)⟩
    go_wp2_with fail
    go_ret
    exact hfin
end Go.Proofs.Ytbcddeiicneajaa
