/- A taker's text, where it is there. -/
import Derived.Test.YtbcddeiicneajaaTaker3
namespace Go.Proofs.Ytbcddeiicneajaa
set_option linter.unusedVariables false
open Go.RowKit
def TextPost (w : World) (g : Nat) (l s : List UInt8) (p : Nat) (e : Ending) (w' : World) : Prop :=
  e = .returned (.string ⟨s.toArray⟩) ∧ Tk w' g 0 p l ∧ But (Only g) w w'
set_option maxHeartbeats 2000000 in
theorem ttext_ok (g p N : Nat) (l s : List UInt8) (w : World) (h : Tk w g 0 p l) (hlen : l.length ≤ 140737488355328) (hN : 1 ≤ N ∧ N ≤ 8)
    (hu : takeU (0, p) l (N : Int) = ((0, p + N), bytesLE s.length N)) (hv : valLE (bytesLE s.length N) = s.length) (hs : tnext (p + N) l s.length = ((0, p + N + s.length), s)) (hle : p + N + s.length ≤ l.length) :
    Calls Try.prog 19 #[.pointer (some ⟨g, 0, none⟩), .int .i64 (N : Int)] w (TextPost w g l s (p + N + s.length)) := by
  obtain ⟨A, c, hc0, hc1, hc2, _, _, _, _, hf⟩ := h.cells
  have hU := takerU_any g 0 p (N : Int) l w h hlen
  rw [hu] at hU
  unfold UPost at hU
  rw [hv] at hU
  have HU := hid hU
  clear hU hu hv
  go_enter Try.func19, Try.ntmps19
  go_wp2_with fail
  refine (tready_is g 0 true _ hc0 rfl).mono ?_
  rintro e w' ⟨rfl, rfl⟩
  go_wp2_with fail
  refine HU.out.mono ?_
  rintro e w1 ⟨rfl, hT, hB⟩
  clear hc0 hc1 hc2 hf
  obtain ⟨A1, c1, hc0, hc1, hc2, _, _, _, _, hf⟩ := hT.cells
  have hsub : wrap64 ((l.length : Int) - ((p + N : Nat) : Int)) = ((l.length - (p + N) : Nat) : Int) := by unfold wrap64; omega
  have hd : decide (((l.length : Int) - ((p + N : Nat) : Int)) < (s.length : Int)) = false := by simp; omega
  have hd2 : decide (((l.length : Int) - ((p : Int) + (N : Int))) < (s.length : Int)) = false := by simp; omega
  have hg1 : 0 ≤ (l.length : Int) - ((p : Int) + (N : Int)) := by omega
  have HN := hid (tnext_any g (p + N) s.length l w1 hT hlen (by omega))
  rw [hs] at HN
  go_wp2_with fail
  go_quiet ((go_at_call 36; refine Calls.quiet_of_same (same (tready_is g 0 true _ ?_ rfl)); exact hc0))
  have hdr : Below w1.heap.size w1 (w1.drewN nq) := ⟨rfl, rfl, rfl, Nat.le_refl _, fun _ _ => rfl⟩
  have hTd := hT.below hdr
  have HN2 := hid (tnext_any g (p + N) s.length l (w1.drewN nq) hTd hlen (by omega))
  rw [hs] at HN2
  clear HN
  have hcd : (w1.drewN nq).cell? ⟨g, 0, none⟩ = some (.int .i64 0) := hc0
  go_wp2_with fail
  refine (tready_is g 0 true _ hcd rfl).mono ?_
  rintro e w' ⟨rfl, rfl⟩
  go_wp2_with fail
  refine HN2.out.mono ?_
  rintro e w3 ⟨A3, c3, rfl, hs3, h31, h32, hT3, hB3⟩
  have hcv := conv_bs A3 c3 s w3 hs3
  have hf : TextPost w g l s (p + N + s.length) (.returned (.string ⟨s.toArray⟩)) w3 := ⟨rfl, hT3, (hB.trans (But.of_below (R := fun _ => False) hdr) (fun n h => h.elim)).trans hB3 (fun n h => .inl h)⟩
  go_wp2_with fail
  go_ret
  exact hf
end Go.Proofs.Ytbcddeiicneajaa
