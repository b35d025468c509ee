/- One call of a maker, and what it must lay. -/
import Derived.Test.YtbcddeiicneajaaRefText
namespace Go.Proofs.Ytbcddeiicneajaa
set_option linter.unusedVariables false
open Go.RowKit
def actR (k : Int) (v : Nat) (n : Int) (s : List UInt8) : Int × List UInt8 :=
  if k = 0 then refU v n else if k = 1 then refI (IntKind.i64.wrap v) n else if k = 2 then (0, s) else if k = 3 then refText s n else (0, [])
theorem refU_bad {v : Nat} {n : Int} (h : (refU v n).1 ≠ 0) : (refU v n).2 = [] := by
  unfold refU at h ⊢
  split
  · rfl
  · rename_i h1
    rw [if_neg h1] at h
    split
    · rfl
    · rename_i h2
      rw [if_neg h2] at h; exact absurd rfl h
theorem putText_lay (s : Int × List UInt8) (b : List UInt8) (n : Int) : putText s b n = lay s (refText b n) := by
  unfold putText putRaw
  rw [putU_lay]
  unfold refText lay
  by_cases h0 : s.1 ≠ 0
  · rw [if_pos h0, if_pos h0, if_pos h0]
  · rw [if_neg h0, if_neg h0]
    by_cases h1 : (refU b.length n).1 ≠ 0
    · rw [if_pos h1, if_pos h1, refU_bad h1]
    · rw [if_neg h1, if_neg h1, List.append_assoc]
theorem putRaw_lay (s : Int × List UInt8) (b : List UInt8) : putRaw s b = lay s (0, b) := rfl
theorem wrap_i64_range (v : Int) : -9223372036854775808 ≤ IntKind.i64.wrap v ∧ IntKind.i64.wrap v < 9223372036854775808 := by
  rw [IntKind.wrap_i64]; omega
/-- behind a call, and its bytes told by the reference -/
def DoPost (w : World) (g : Nat) (R : Nat → Prop) (s r : Int × List UInt8) (e : Ending) (w' : World) : Prop :=
  ∃ (A : Option Addr) (c : Nat), e = .returned (.tuple #[.slice A r.2.length c, .int .i64 r.1]) ∧ SeesB w' A r.2 ∧ ∃ R', Mk w' g R' (lay s r).1 (lay s r).2 ∧ But R w w' ∧ (∀ b, R' b → R b ∨ w.heap.size ≤ b)
theorem Mk.size {w : World} {g : Nat} {R : Nat → Prop} {err : Int} {l : List UInt8} (h : Mk w g R err l) : ∀ b, R b → b < w.heap.size := by
  obtain ⟨_, _, _, _, _, _, hz⟩ := h; exact hz
theorem doPost_sees {w0 w w1 w2 : World} {g : Nat} {R R1 : Nat → Prop} {s r : Int × List UInt8} {A : Option Addr} {c n : Nat} (h0 : Below w0.heap.size w0 w) (hm : Mk w1 g R1 (lay s r).1 (lay s r).2) (hb : But R w w1) (hR : ∀ b, R1 b → R b ∨ w.heap.size ≤ b) (hs : SeesB w2 A r.2) (hn : r.2.length = n) (hb2 : Below w1.heap.size w1 w2) :
    DoPost w0 g R s r (.returned (.tuple #[.slice A n c, .int .i64 r.1])) w2 := by
  refine ⟨A, c, by rw [hn], hs, R1, hm.below hb2, ?_, ?_⟩
  · exact ((But.of_below (R := R) h0).trans hb (fun n h => .inl h)).trans (But.of_below (R := fun _ => False) hb2) (fun n h => h.elim)
  · intro b h
    rcases hR b h with h | h
    · exact .inl h
    · exact .inr (Nat.le_trans h0.size h)
theorem doPost_of {w0 w w1 w2 : World} {g : Nat} {R R1 : Nat → Prop} {s r : Int × List UInt8} {v : Value} (h0 : Below w0.heap.size w0 w) (hm : Mk w1 g R1 (lay s r).1 (lay s r).2) (hb : But R w w1) (hR : ∀ b, R1 b → R b ∨ w.heap.size ≤ b) (hv : NewB w1 r.2 v w2) :
    DoPost w0 g R s r (.returned (.tuple #[v, .int .i64 r.1])) w2 := by
  obtain ⟨A, c, rfl, hs, hA, ho, hb2⟩ := hv.parts
  exact doPost_sees h0 hm hb hR hs rfl hb2
@[reducible] def actV (k : Int) (v : Nat) (n : Int) (s : ByteArray) : Value := .agg #[.int .i64 k, .int .u64 (v : Int), .int .i64 n, .string s]
set_option maxHeartbeats 1000000 in
theorem do_raw (g : Nat) (R : Nat → Prop) (err : Int) (l : List UInt8) (v : Nat) (n : Int) (s : ByteArray) (w : World) (hm : Mk w g R err l) (hl : l.length + s.size ≤ 140737488355000) :
    Calls Try.prog 10 #[.pointer (some ⟨g, 0, none⟩), .agg #[.int .i64 2, .int .u64 (v : Int), .int .i64 n, .string s]] w (DoPost w g R (err, l) (actR 2 v n s.data.toList)) := by
  have hbel : Below w.heap.size w (w.alloc (.cells #[.int .i64 2, .int .u64 (v : Int), .int .i64 n, .string s] 36)) := (Below.refl _ w).alloc (Nat.le_refl _) _
  have hrow := heap_alloc_new w (.cells #[.int .i64 2, .int .u64 (v : Int), .int .i64 n, .string s] 36)
  have hmb := hm.below hbel
  have hno : ¬ R w.heap.size := fun h => by have := hm.size _ h; omega
  have c1 := cell_of_row _ w.heap.size 1 _ _ _ hrow
  have c3 := cell_of_row _ w.heap.size 3 _ _ _ hrow
  rw [show actR 2 v n s.data.toList = (0, s.data.toList) from rfl]
  obtain ⟨cc, wc, hconv, hbc, hsc, hsl2⟩ := conv_sb s (w.alloc (.cells #[.int .i64 2, .int .u64 (v : Int), .int .i64 n, .string s] 36))
  have HSL := hid hsl2
  have hsz : (w.alloc (.cells #[.int .i64 2, .int .u64 (v : Int), .int .i64 n, .string s] 36)).heap.size = w.heap.size + 1 := by simp
  rw [hsz] at hconv hsc
  clear hsl2 hrow hsz
  go_enter Try.func10, Try.ntmps10
  go_wp2_with fail
  generalize hw0 : w.alloc (.cells #[.int .i64 2, .int .u64 (v : Int), .int .i64 n, .string s] 36) = wb at *
  rw [← HSL.out]
  refine (raw_any g R err l _ cc s.data.toList wc (hmb.below hbc) hsc (by rw [HSL.out]; omega)).mono ?_
  rintro e w1 ⟨rfl, R', hm1, hb1, hR1⟩
  have d1 : w1.cell? ⟨w.heap.size, 3, none⟩ = some (.string s) := (World.cell?_of_block (w := wc) (hb1.block w.heap.size (Nat.lt_of_lt_of_le (block_lt_of_cell c1) hbc.size) hno)).trans ((hbc.cell (block_lt_of_cell c3)).trans c3)
  obtain ⟨cd, wd, hconv2, hbd, hsd, hsl3⟩ := conv_sb s w1
  clear hsl3 c1 c3
  go_wp2_with fail
  rw [putRaw_lay] at hm1
  have hf : DoPost w g R (err, l) (0, s.data.toList) (.returned (.tuple #[.slice (some ⟨w1.heap.size, 0, none⟩) s.size cd, .int .i64 0])) wd :=
    doPost_sees (hbel.trans (hbc.mono hbel.size)) hm1 hb1 hR1 hsd HSL.out hbd
  go_ret2
  exact hf
end Go.Proofs.Ytbcddeiicneajaa
