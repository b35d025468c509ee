/- A taker's bytes. -/
import Derived.Test.YtbcddeiicneajaaTaker2
namespace Go.Proofs.Ytbcddeiicneajaa
set_option linter.unusedVariables false
open Go.RowKit
def takeRaw (s : Int × Nat) (l : List UInt8) (n : Int) : (Int × Nat) × List UInt8 :=
  if s.1 ≠ 0 then (s, []) else if n < 0 then ((1, s.2), []) else tnext s.2 l n.toNat
def RawPost (w : World) (g : Nat) (l : List UInt8) (r : (Int × Nat) × List UInt8) (e : Ending) (w' : World) : Prop :=
  ∃ (A : Option Addr) (c : Nat), e = .returned (.slice A r.2.length c) ∧ SeesB w' A r.2 ∧ (∀ a, A = some a → w.heap.size ≤ a.block ∧ a.block < w'.heap.size) ∧ r.2.length ≤ c ∧ c ≤ maxLen ∧ Tk w' g r.1.1 r.1.2 l ∧ But (Only g) w w'
theorem tnext_len (p : Nat) (l : List UInt8) (n : Nat) : (tnext p l n).2.length ≤ l.length := by
  unfold tnext; split <;> simp <;> omega
set_option maxHeartbeats 1000000 in
theorem traw_any (g : Nat) (err : Int) (p : Nat) (n : Int) (l : List UInt8) (w : World) (h : Tk w g err p l) (hlen : l.length ≤ 140737488355328) (hn : n ≤ 9223372036854775807) :
    Calls Try.prog 27 #[.pointer (some ⟨g, 0, none⟩), .int .i64 n] w (RawPost w g l (takeRaw (err, p) l n)) := by
  obtain ⟨A, c, hc0, hc1, hc2, hs, h1, h2, h3, hf⟩ := h.cells
  have hf0 := hf 0
  by_cases he : err ≠ 0
  · have hd : (err == 0) = false := by simpa using he
    have hfin : RawPost w g l (takeRaw (err, p) l n) (.returned (.slice none 0 0)) w := by
      unfold takeRaw; rw [if_pos he]
      exact ⟨none, 0, rfl, Sees.nil _ _, fun a ha => by (cases ha), Nat.le_refl _, Nat.zero_le _, h, But.refl _ _⟩
    go_enter Try.func27, Try.ntmps27
    go_wp2_with fail
    refine (tready_is g err false _ hc0 hd).mono ?_
    rintro e w' ⟨rfl, rfl⟩
    go_wp2_with fail
    go_ret
    exact hfin
  have he0 : err = 0 := by omega
  subst he0
  by_cases hneg : n < 0
  · have d1 : decide (n < 0) = true := by simpa using hneg
    have hT := h.setErr 1
    have hfin : RawPost w g l (takeRaw (0, p) l n) (.returned (.slice none 0 0)) (w.setCell ⟨g, 0, none⟩ (.int .i64 1)) := by
      unfold takeRaw; rw [if_neg (by simp), if_pos hneg]
      exact ⟨none, 0, rfl, Sees.nil _ _, fun a ha => by (cases ha), Nat.le_refl _, Nat.zero_le _, hT.1, hT.2⟩
    go_enter Try.func27, Try.ntmps27
    go_wp2_with fail
    refine (tready_is g 0 true _ hc0 rfl).mono ?_
    rintro e w' ⟨rfl, rfl⟩
    go_wp2_with fail
    refine (fail_ok g 1 _ hc0 hf0).mono ?_
    rintro e w' ⟨rfl, rfl⟩
    go_wp2_with fail
    go_ret
    exact hfin
  have d1 : decide (n < 0) = false := by simpa using hneg
  obtain ⟨N, rfl⟩ := Int.eq_ofNat_of_zero_le (show 0 ≤ n by omega)
  have hN := hid (tnext_any g p N l w h hlen (by omega))
  have htl := hid (tnext_len p l N)
  obtain ⟨R, hR⟩ : ∃ R, R = tnext p l N := ⟨_, rfl⟩
  rw [show takeRaw (0, p) l (N : Int) = R by unfold takeRaw; rw [if_neg (by simp), if_neg hneg, hR]; rfl]
  rw [← hR] at hN htl
  clear hR hneg
  go_enter Try.func27, Try.ntmps27
  go_wp2_with fail
  refine (tready_is g 0 true _ hc0 rfl).mono ?_
  rintro e w' ⟨rfl, rfl⟩
  go_wp2_with fail
  refine hN.out.mono ?_
  rintro e w1 ⟨A1, c1, rfl, hs1, h11, h12, hT1, hB1⟩
  clear hc0 hc1 hc2 hf hf0
  go_wp2_with fail
  refine (clone_any A1 c1 R.2 w1 hs1 (Nat.le_trans htl.out hlen)).mono ?_
  rintro e w2 ⟨v, rfl, hv⟩
  obtain ⟨A2, c2, rfl, hs2, hA2, ho2, hb2⟩ := hv.parts
  have hfin : RawPost w g l R (.returned (.slice A2 R.2.length c2)) w2 :=
    ⟨A2, c2, rfl, hs2, fun a ha => ⟨Nat.le_trans hB1.size (hA2 a ha).1, (hA2 a ha).2⟩, (own_cap ho2).1, (own_cap ho2).2, hT1.below hb2, hB1.trans (But.of_below (R := fun _ => False) hb2) (fun n h => h.elim)⟩
  go_wp2_with fail
  go_ret
  exact hfin
end Go.Proofs.Ytbcddeiicneajaa
