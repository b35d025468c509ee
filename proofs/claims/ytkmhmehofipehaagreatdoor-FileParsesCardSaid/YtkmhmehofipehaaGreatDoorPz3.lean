/- Powers of 2: the reference's. -/
import Derived.Test.YtkmhmehofipehaaGreatDoorPz1
import Derived.Test.YtkmhmehofipehaaGreatDoorProg
import Derived.Test.YtkmhmehofipehaaGreatDoorPz2
import Derived.Laws.Bits64b
import Derived.Laws.ResultCell
import Derived.WalkSpells
import Derived.WalkLawsBesides
import Derived.Still
namespace Go.Proofs.YtkmhmehofipehaaGreatDoor
set_option linter.unusedVariables false
open Go.RowKit
set_option maxHeartbeats 1000000 in
theorem pow2_any (n : Nat) (w : World) (h : n ≤ 23) :
    Calls Tryz.prog 73 #[.int .i64 (n : Int)] w fun e w' => e = .returned (.int .i64 ((2 ^ n : Nat) : Int)) ∧ w = w' := by
  obtain ⟨R, hR⟩ : ∃ R, R = 2 ^ n := ⟨_, rfl⟩
  rw [← hR]
  have HR := hid hR
  clear hR
  go_enter Tryz.func73, Tryz.ntmps73
  go_wp2_with fail
  go_loop [3, 4] (fun p i => ∃ k P : Nat, k ≤ n ∧ i = .int .i64 (k : Int) ∧ p = .int .i64 (P : Int) ∧ P ≤ 8388608 ∧ Hid (P = 2 ^ k)) (fun _ i => n - (intOf i).toNat)
  case atStart => exact ⟨0, 1, by omega, rfl, rfl, by omega, hid rfl⟩
  case round =>
    obtain ⟨k, P, hk, rfl, rfl, hP, hE⟩ := hrel
    by_cases hlt : k < n
    · have dk : decide ((k : Int) < (n : Int)) = true := decide_eq_true (by omega)
      have d62 : decide ((k : Int) < 62) = true := decide_eq_true (by omega)
      have hb : 2 ^ (k + 1) ≤ 2 ^ 23 := Nat.pow_le_pow_right (by omega) (by omega)
      have HS := hid (show 2 * P = 2 ^ (k + 1) by rw [hE.out, Nat.pow_succ, Nat.mul_comm])
      have hB : 2 * P ≤ 8388608 := by rw [HS.out]; omega
      clear hb
      go_wp2_with fail
      go_round
      case rel => exact ⟨k + 1, 2 * P, by omega, by go_num, by go_num, hB, hid HS.out⟩
      case measure => simp [intOf]; omega
    · obtain rfl : k = n := by omega
      have dk : decide ((k : Int) < (k : Int)) = false := decide_eq_false (by omega)
      obtain rfl : P = R := by rw [hE.out, HR.out]
      go_wp2_with fail
      go_ret
      exact ⟨rfl, rfl⟩
end Go.Proofs.YtkmhmehofipehaaGreatDoor
/- Which steps may be: the program's and the reference's. -/
namespace Go.Proofs.YtkmhmehofipehaaGreatDoor
set_option linter.unusedVariables false
open Go.RowKit
def stepR (q n : Int) : Bool := decide (1 ≤ n ∧ n ≤ 32 ∧ 1 ≤ q ∧ q ≤ 2 ^ (n - 1).toNat)
set_option maxHeartbeats 1000000 in
theorem stepq_any (q n : Int) (w : World) : Calls Tryz.prog 93 #[.int .i64 q, .int .i64 n] w fun e w' => e = .returned (.bool (stepR q n)) ∧ w = w' := by
  obtain ⟨R, hR⟩ : ∃ R, R = stepR q n := ⟨_, rfl⟩
  rw [← hR]
  by_cases h1 : 1 ≤ n
  case neg =>
    have d1 : decide (1 ≤ n) = false := decide_eq_false h1
    obtain rfl : R = false := by rw [hR]; unfold stepR; exact decide_eq_false (by omega)
    clear hR
    go_enter Tryz.func93, Tryz.ntmps93
    go_wp2_with fail
    go_ret
    exact ⟨rfl, rfl⟩
  have d1 : decide (1 ≤ n) = true := decide_eq_true h1
  by_cases h2 : n ≤ 32
  case neg =>
    have d2 : decide (n ≤ 32) = false := decide_eq_false h2
    obtain rfl : R = false := by rw [hR]; unfold stepR; exact decide_eq_false (by omega)
    clear hR
    go_enter Tryz.func93, Tryz.ntmps93
    go_wp2_with fail
    go_ret
    exact ⟨rfl, rfl⟩
  have d2 : decide (n ≤ 32) = true := decide_eq_true h2
  by_cases h3 : 1 ≤ q
  case neg =>
    have d3 : decide (1 ≤ q) = false := decide_eq_false h3
    obtain rfl : R = false := by rw [hR]; unfold stepR; exact decide_eq_false (by omega)
    clear hR
    go_enter Tryz.func93, Tryz.ntmps93
    go_wp2_with fail
    go_ret
    exact ⟨rfl, rfl⟩
  have d3 : decide (1 ≤ q) = true := decide_eq_true h3
  obtain ⟨N, rfl⟩ : ∃ N : Nat, n = (N : Int) + 1 := ⟨(n - 1).toNat, by omega⟩
  have hN : N < 32 := by omega
  have hRR : R = decide (q ≤ 2 ^ N) := by
    rw [hR]
    unfold stepR
    rw [show ((N : Int) + 1 - 1).toNat = N by omega]
    by_cases h4 : q ≤ 2 ^ N
    · rw [decide_eq_true h4]; exact decide_eq_true ⟨h1, h2, h3, h4⟩
    · rw [decide_eq_false h4]; exact decide_eq_false (by omega)
  clear hR
  go_enter Tryz.func93, Tryz.ntmps93
  go_wp2_with fail
  have hw : wrap64 ((2 : Int) ^ N) = 2 ^ N := by
    have h5 : (2 : Nat) ^ N ≤ 2 ^ 31 := Nat.pow_le_pow_right (by omega) (by omega)
    have h6 : (2 : Int) ^ N = ((2 ^ N : Nat) : Int) := by simp
    rw [h6]
    generalize (2 : Nat) ^ N = P at *
    unfold wrap64
    omega
  go_ret
  exact ⟨ret_bool (by rw [hRR, hw]), rfl⟩
set_option maxHeartbeats 1000000 in
theorem rstepq_any (q n : Int) (w : World) (hn : 8 ≤ n ∧ n ≤ 24) : Calls Tryz.prog 43 #[.int .i64 q, .int .i64 n] w fun e w' => e = .returned (.bool (stepR q n)) ∧ w = w' := by
  obtain ⟨R, hR⟩ : ∃ R, R = stepR q n := ⟨_, rfl⟩
  rw [← hR]
  have d1 : decide (1 ≤ n) = true := decide_eq_true (by omega)
  have d2 : decide (n ≤ 32) = true := decide_eq_true (by omega)
  by_cases h3 : 1 ≤ q
  case neg =>
    have d3 : decide (1 ≤ q) = false := decide_eq_false h3
    obtain rfl : R = false := by rw [hR]; unfold stepR; exact decide_eq_false (by omega)
    clear hR
    go_enter Tryz.func43, Tryz.ntmps43
    go_wp2_with fail
    go_ret
    exact ⟨rfl, rfl⟩
  have d3 : decide (1 ≤ q) = true := decide_eq_true h3
  obtain ⟨N, rfl⟩ : ∃ N : Nat, n = (N : Int) + 1 := ⟨(n - 1).toNat, by omega⟩
  have hRR : R = decide (q ≤ ((2 ^ N : Nat) : Int)) := by
    rw [hR, show ((2 ^ N : Nat) : Int) = (2 : Int) ^ N by simp]
    unfold stepR
    rw [show ((N : Int) + 1 - 1).toNat = N by omega]
    by_cases h4 : q ≤ 2 ^ N
    · rw [decide_eq_true h4]; exact decide_eq_true ⟨by omega, by omega, h3, h4⟩
    · rw [decide_eq_false h4]; exact decide_eq_false (by omega)
  clear hR
  have hp := hid (pow2_any N w (by omega))
  generalize 2 ^ N = P at *
  go_enter Tryz.func43, Tryz.ntmps43
  go_wp2_with fail
  refine hp.out.mono ?_
  rintro e w1 ⟨rfl, rfl⟩
  go_wp2_with fail
  go_ret
  exact ⟨ret_bool (by rw [hRR]), rfl⟩
end Go.Proofs.YtkmhmehofipehaaGreatDoor
/- A taker's number. -/
namespace Go.Proofs.YtkmhmehofipehaaGreatDoor
set_option linter.unusedVariables false
open Go.RowKit
/-- a number of its bytes, the lowest first -/
def valLE (l : List UInt8) : Nat := l.foldr (fun b v => b.toNat + 256 * v) 0
theorem valLE_snoc (l : List UInt8) (b : UInt8) : valLE (l ++ [b]) = valLE l + b.toNat * 256 ^ l.length := by
  induction l with
  | nil => simp [valLE]
  | cons x l ih =>
    have e1 : valLE (x :: l ++ [b]) = x.toNat + 256 * valLE (l ++ [b]) := rfl
    have e2 : valLE (x :: l) = x.toNat + 256 * valLE l := rfl
    rw [e1, ih, e2, List.length_cons, Nat.pow_succ, Nat.mul_add, ← Nat.mul_assoc, Nat.add_assoc]
    congr 2
    rw [Nat.mul_comm 256, Nat.mul_assoc, Nat.mul_comm 256]
theorem valLE_lt (l : List UInt8) : valLE l < 256 ^ l.length := by
  induction l with
  | nil => simp [valLE]
  | cons x l ih =>
    have e2 : valLE (x :: l) = x.toNat + 256 * valLE l := rfl
    have := x.toNat_lt
    rw [e2, List.length_cons, Nat.pow_succ]
    omega
/-- what a taker that is fine gives of a field of n bytes -/
def takeU (s : Int × Nat) (l : List UInt8) (n : Int) : (Int × Nat) × List UInt8 :=
  if s.1 ≠ 0 then (s, []) else if n < 1 ∨ 8 < n then ((1, s.2), []) else tnext s.2 l n.toNat
def UPost (w : World) (g : Nat) (l : List UInt8) (r : (Int × Nat) × List UInt8) (e : Ending) (w' : World) : Prop :=
  e = .returned (.int .u64 (valLE r.2 : Nat)) ∧ Tk w' g r.1.1 r.1.2 l ∧ But (Only g) w w'
theorem or_add (v : Nat) (b : UInt8) (k : Nat) (hk : k < 8) (hv : v < 256 ^ k) : bits .or .u64 (v : Int) (IntKind.u64.wrap ((b.toNat : Int) * 2 ^ (8 * k))) = ((v + b.toNat * 256 ^ k : Nat) : Int) := by
  have hb := b.toNat_lt
  have hp : (2 : Nat) ^ (8 * k) = 256 ^ k := by rw [Nat.pow_mul]
  have h8 : 256 ^ k ≤ 256 ^ 7 := Nat.pow_le_pow_right (by omega) (by omega)
  have hm : b.toNat * 256 ^ k < 18446744073709551616 := by
    have := Nat.mul_le_mul (show b.toNat ≤ 255 by omega) h8
    omega
  have hw : IntKind.u64.wrap ((b.toNat : Int) * 2 ^ (8 * k)) = ((b.toNat * 2 ^ (8 * k) : Nat) : Int) := by
    rw [IntKind.wrap_u64, show (b.toNat : Int) * 2 ^ (8 * k) = ((b.toNat * 2 ^ (8 * k) : Nat) : Int) by push_cast; rfl, hp]
    omega
  have ho : v ||| b.toNat * 2 ^ (8 * k) = v + b.toNat * 256 ^ k := by
    rw [Nat.or_comm, Nat.mul_comm b.toNat, ← Nat.two_pow_add_eq_or_of_lt (by rw [hp]; exact hv), hp, Nat.mul_comm]; omega
  rw [hw, bits_or_u64_nat v _ (by omega) (by rw [hp]; exact hm), ho]
set_option maxHeartbeats 1000000 in
theorem takerU_any (g : Nat) (err : Int) (p : Nat) (n : Int) (l : List UInt8) (w : World) (h : Tk w g err p l) (hlen : l.length ≤ 140737488355328) :
    Calls Tryz.prog 55 #[.pointer (some ⟨g, 0, none⟩), .int .i64 n] w (UPost w g l (takeU (err, p) l n)) := by
  obtain ⟨A, c, hc0, hc1, hc2, hs, h1, h2, h3, hf⟩ := h.cells
  have hf0 := hf 0
  by_cases h0 : err = 0
  · subst h0
    by_cases hn : n < 1 ∨ 8 < n
    · rw [takeU, if_neg (by simp), if_pos hn]
      have hT := h.setErr 1
      go_enter Tryz.func55, Tryz.ntmps55
      go_wp2_with fail
      refine (tready_is g 0 true _ hc0 rfl).mono ?_
      rintro e w' ⟨rfl, rfl⟩
      go_wp2_with fail
      refine (may_no g n _ hc0 hf0 hn).mono ?_
      rintro e w' ⟨rfl, rfl⟩
      go_wp2_with fail
      go_ret
      exact ⟨rfl, hT.1, hT.2⟩
    · rw [takeU, if_neg (by simp), if_neg hn]
      obtain ⟨N, rfl⟩ := Int.eq_ofNat_of_zero_le (show 0 ≤ n by omega)
      have hN : 1 ≤ N ∧ N ≤ 8 := by omega
      rw [show ((N : Int)).toNat = N from rfl]
      have hr8 : (tnext p l N).2.length ≤ 8 := by
        unfold tnext; split
        · simp
        · simp; omega
      have hnx := tnext_any g p N l w h hlen (by omega)
      generalize tnext p l N = r at hr8 hnx
      go_enter Tryz.func55, Tryz.ntmps55
      go_wp2_with fail
      refine (tready_is g 0 true _ hc0 rfl).mono ?_
      rintro e w' ⟨rfl, rfl⟩
      go_wp2_with fail
      refine (may_yes g (N : Int) _ hc0 (by omega)).mono ?_
      rintro e w' ⟨rfl, rfl⟩
      go_wp2_with fail
      refine hnx.mono ?_
      rintro e w1 ⟨A1, c1, rfl, hs1, hc1', hc2', hT, hB⟩
      obtain ⟨m, hm⟩ : ∃ m, m = r.2.length := ⟨_, rfl⟩
      rw [← hm]
      go_wp2_with fail
      go_loop [5, 6, 7, 23] (fun v x y i => ∃ k : Nat, k ≤ r.2.length ∧ i = .int .i64 k ∧ v = .int .u64 (valLE (r.2.take k) : Nat)) (fun _ _ _ i => r.2.length - (intOf i).toNat)
      case atStart => exact ⟨0, by omega, rfl, rfl⟩
      case round =>
        obtain ⟨k, hk, rfl, rfl⟩ := hrel
        by_cases hlt : k < r.2.length
        · have hd : decide ((k : Int) < m) = true := by simp; omega
          obtain ⟨a, rfl, hc⟩ := hs1.at hlt
          have hbl := byte_lt r.2[k]
          go_wp2_with fail
          exact ⟨⟨k + 1, hlt, by go_num, by rw [or_add _ _ k (by omega) (by have := valLE_lt (r.2.take k); rwa [List.length_take, Nat.min_eq_left hk] at this), List.take_succ_eq_append_getElem hlt, valLE_snoc, List.length_take, Nat.min_eq_left hk]⟩, by simp [intOf]; omega⟩
        · obtain rfl : k = m := by omega
          have hd : decide ((k : Int) < k) = false := by simp
          have hfull : r.2.take k = r.2 := by rw [hm]; exact List.take_length
          rw [hfull]
          go_wp2_with fail
          go_ret
          exact ⟨rfl, hT, hB⟩
  · have d0 : (err == 0) = false := by simpa using h0
    rw [takeU, if_pos h0]
    go_enter Tryz.func55, Tryz.ntmps55
    go_wp2_with fail
    refine (tready_is g err false _ hc0 d0).mono ?_
    rintro e w' ⟨rfl, rfl⟩
    go_wp2_with fail
    go_ret
    exact ⟨rfl, h, But.refl _ _⟩
end Go.Proofs.YtkmhmehofipehaaGreatDoor
/- Bytes of a number, and the number of bytes: each from the other. -/
namespace Go.Proofs.YtkmhmehofipehaaGreatDoor
set_option linter.unusedVariables false
open Go.RowKit
theorem bytesLE_cons (v n : Nat) : bytesLE v (n + 1) = UInt8.ofNat (v % 256) :: bytesLE (v / 256) n := by
  unfold bytesLE
  rw [List.range_succ_eq_map, List.map_cons, List.map_map]
  congr 1
  · simp
  · apply List.map_congr_left
    intro i _
    simp only [Function.comp, Nat.pow_succ, Nat.mul_comm (256 ^ i), Nat.div_div_eq_div_mul]
theorem bytesLE_val (l : List UInt8) : bytesLE (valLE l) l.length = l := by
  induction l with
  | nil => rfl
  | cons x l ih =>
    have h := x.toNat_lt
    have e : valLE (x :: l) = x.toNat + 256 * valLE l := rfl
    rw [List.length_cons, bytesLE_cons, e, show (x.toNat + 256 * valLE l) % 256 = x.toNat by omega, show (x.toNat + 256 * valLE l) / 256 = valLE l by omega, ih]
    simp
end Go.Proofs.YtkmhmehofipehaaGreatDoor
/- A taker's bytes. -/
namespace Go.Proofs.YtkmhmehofipehaaGreatDoor
set_option linter.unusedVariables false
open Go.RowKit
def takeRaw (s : Int × Nat) (l : List UInt8) (n : Int) : (Int × Nat) × List UInt8 :=
  if s.1 ≠ 0 then (s, []) else if n < 0 then ((1, s.2), []) else tnext s.2 l n.toNat
def RawPost (w : World) (g : Nat) (l : List UInt8) (r : (Int × Nat) × List UInt8) (e : Ending) (w' : World) : Prop :=
  ∃ (A : Option Addr) (c : Nat), e = .returned (.slice A r.2.length c) ∧ SeesB w' A r.2 ∧ (∀ a, A = some a → w.heap.size ≤ a.block ∧ a.block < w'.heap.size) ∧ r.2.length ≤ c ∧ c ≤ maxLen ∧ Tk w' g r.1.1 r.1.2 l ∧ But (Only g) w w'
theorem tnext_len (p : Nat) (l : List UInt8) (n : Nat) : (tnext p l n).2.length ≤ l.length := by
  unfold tnext; split <;> simp <;> omega
set_option maxHeartbeats 1000000 in
theorem traw_any (g : Nat) (err : Int) (p : Nat) (n : Int) (l : List UInt8) (w : World) (h : Tk w g err p l) (hlen : l.length ≤ 140737488355328) (hn : n ≤ 9223372036854775807) :
    Calls Tryz.prog 58 #[.pointer (some ⟨g, 0, none⟩), .int .i64 n] w (RawPost w g l (takeRaw (err, p) l n)) := by
  obtain ⟨A, c, hc0, hc1, hc2, hs, h1, h2, h3, hf⟩ := h.cells
  have hf0 := hf 0
  by_cases he : err ≠ 0
  · have hd : (err == 0) = false := by simpa using he
    have hfin : RawPost w g l (takeRaw (err, p) l n) (.returned (.slice none 0 0)) w := by
      unfold takeRaw; rw [if_pos he]
      exact ⟨none, 0, rfl, Sees.nil _ _, fun a ha => by (cases ha), Nat.le_refl _, Nat.zero_le _, h, But.refl _ _⟩
    go_enter Tryz.func58, Tryz.ntmps58
    go_wp2_with fail
    refine (tready_is g err false _ hc0 hd).mono ?_
    rintro e w' ⟨rfl, rfl⟩
    go_wp2_with fail
    go_ret
    exact hfin
  have he0 : err = 0 := by omega
  subst he0
  by_cases hneg : n < 0
  · have d1 : decide (n < 0) = true := by simpa using hneg
    have hT := h.setErr 1
    have hfin : RawPost w g l (takeRaw (0, p) l n) (.returned (.slice none 0 0)) (w.setCell ⟨g, 0, none⟩ (.int .i64 1)) := by
      unfold takeRaw; rw [if_neg (by simp), if_pos hneg]
      exact ⟨none, 0, rfl, Sees.nil _ _, fun a ha => by (cases ha), Nat.le_refl _, Nat.zero_le _, hT.1, hT.2⟩
    go_enter Tryz.func58, Tryz.ntmps58
    go_wp2_with fail
    refine (tready_is g 0 true _ hc0 rfl).mono ?_
    rintro e w' ⟨rfl, rfl⟩
    go_wp2_with fail
    refine (fail_ok g 1 _ hc0 hf0).mono ?_
    rintro e w' ⟨rfl, rfl⟩
    go_wp2_with fail
    go_ret
    exact hfin
  have d1 : decide (n < 0) = false := by simpa using hneg
  obtain ⟨N, rfl⟩ := Int.eq_ofNat_of_zero_le (show 0 ≤ n by omega)
  have hN := hid (tnext_any g p N l w h hlen (by omega))
  have htl := hid (tnext_len p l N)
  obtain ⟨R, hR⟩ : ∃ R, R = tnext p l N := ⟨_, rfl⟩
  rw [show takeRaw (0, p) l (N : Int) = R by unfold takeRaw; rw [if_neg (by simp), if_neg hneg, hR]; rfl]
  rw [← hR] at hN htl
  clear hR hneg
  go_enter Tryz.func58, Tryz.ntmps58
  go_wp2_with fail
  refine (tready_is g 0 true _ hc0 rfl).mono ?_
  rintro e w' ⟨rfl, rfl⟩
  go_wp2_with fail
  refine hN.out.mono ?_
  rintro e w1 ⟨A1, c1, rfl, hs1, h11, h12, hT1, hB1⟩
  clear hc0 hc1 hc2 hf hf0
  go_wp2_with fail
  refine (clone_any A1 c1 R.2 w1 hs1 (Nat.le_trans htl.out hlen)).mono ?_
  rintro e w2 ⟨v, rfl, hv⟩
  obtain ⟨A2, c2, rfl, hs2, hA2, ho2, hb2⟩ := hv.parts
  have hfin : RawPost w g l R (.returned (.slice A2 R.2.length c2)) w2 :=
    ⟨A2, c2, rfl, hs2, fun a ha => ⟨Nat.le_trans hB1.size (hA2 a ha).1, (hA2 a ha).2⟩, (own_cap ho2).1, (own_cap ho2).2, hT1.below hb2, hB1.trans (But.of_below (R := fun _ => False) hb2) (fun n h => h.elim)⟩
  go_wp2_with fail
  go_ret
  exact hfin
end Go.Proofs.YtkmhmehofipehaaGreatDoor
/- How the bytes of a block begin; the fields of a head, as bytes say them. -/
namespace Go.Proofs.YtkmhmehofipehaaGreatDoor
set_option linter.unusedVariables false
open Go.RowKit
/-- the number that stands at a place of bytes -/
def fldH (l : List UInt8) (p n : Nat) : Nat := valLE ((l.drop p).take n)
theorem fldH_lt (l : List UInt8) (p n : Nat) : fldH l p n < 256 ^ n := by
  have h1 := valLE_lt ((l.drop p).take n)
  have h2 : ((l.drop p).take n).length ≤ n := by simp; omega
  exact Nat.lt_of_lt_of_le h1 (Nat.pow_le_pow_right (by omega) h2)
theorem takeU_at (p n : Nat) (T : List UInt8) (h : p + n ≤ T.length) (hn : 1 ≤ n ∧ n ≤ 8) : takeU (0, p) T (n : Int) = ((0, p + n), (T.drop p).take n) := by
  unfold takeU tnext
  rw [if_neg (by simp), if_neg (by omega), Int.toNat_natCast, if_neg (by omega)]
def startsH (l : List UInt8) : Bool := (l[0]?.getD 222 == 222) && (l[1]?.getD 92 == 92)
theorem byte_eq (x : UInt8) (n : Nat) (hn : n < 256) : ((x.toNat : Int) != (n : Int)) = !(x == UInt8.ofNat n) := by
  have h : ((x.toNat : Int) = (n : Int)) ↔ x = UInt8.ofNat n := by
    constructor
    · intro h
      have h2 : x.toNat = n := by omega
      rw [← h2]; simp
    · intro h
      rw [h]; simp; omega
  rw [Bool.eq_iff_iff]
  simp [h]
set_option maxHeartbeats 1000000 in
theorem hstarts_any (A : Option Addr) (c : Nat) (l : List UInt8) (w : World) (hl : SeesB w A l) :
    Calls Tryz.prog 91 #[.slice A l.length c] w fun e w' => e = .returned (.bool (startsH l)) ∧ w = w' := by
  have i0 : ∀ w, (Instr.index 156 (.agg #[.int .u8 222, .int .u8 92]) (.int .i64 0)).run Tryz.prog w = .ok (.int .u8 222) w := fun _ => by kernel_rfl
  have i1 : ∀ w, (Instr.index 156 (.agg #[.int .u8 222, .int .u8 92]) (.int .i64 1)).run Tryz.prog w = .ok (.int .u8 92) w := fun _ => by kernel_rfl
  obtain ⟨S, hS⟩ : ∃ S, S = startsH l := ⟨_, rfl⟩
  rw [← hS]
  have HS := hid hS
  clear hS
  go_enter Tryz.func91, Tryz.ntmps91
  go_wp2_with fail
  go_loop [3, 4, 6] (fun x y i => ∃ n : Nat, n ≤ 2 ∧ i = .int .i64 n ∧ Hid ((0 < n → (l[0]?.getD 222 == 222) = true) ∧ (1 < n → (l[1]?.getD 92 == 92) = true))) (fun _ _ i => 2 - (intOf i).toNat)
  case atStart => exact ⟨0, by omega, rfl, hid ⟨fun h => by omega, fun h => by omega⟩⟩
  case round =>
    obtain ⟨n, hn, rfl, hP⟩ := hrel
    have hcase : n = 0 ∨ n = 1 ∨ n = 2 := by omega
    rcases hcase with hh | hh | hh
    · subst hh
      match l, hl, HS with
      | [], hl, HS =>
        go_wp2_with fail
        go_round
        case rel => exact ⟨1, by omega, by go_num, hid ⟨fun _ => rfl, fun h => by omega⟩⟩
        case measure => simp [intOf]
      | x :: t, hl, HS =>
        obtain ⟨a, rfl, ca⟩ := hl.at (show 0 < (x :: t).length by simp)
        have ca0 : w.cell? a = some (.int .u8 (x.toNat : Int)) := ca
        cases hx : (x == UInt8.ofNat 222) with
        | false =>
          have d2 : ((x.toNat : Int) != 222) = true := by have := byte_eq x 222 (by omega); rw [hx] at this; exact this
          have e : S = false := by rw [HS.out]; unfold startsH; simp at hx ⊢; intro h; exact absurd h hx
          subst e
          go_wp2_with fail
          go_ret
          exact ⟨rfl, rfl⟩
        | true =>
          have d2 : ((x.toNat : Int) != 222) = false := by have := byte_eq x 222 (by omega); rw [hx] at this; exact this
          go_wp2_with fail
          go_round
          case rel => exact ⟨1, by omega, by go_num, hid ⟨fun _ => hx, fun h => by omega⟩⟩
          case measure => simp [intOf]
    · subst hh
      match l, hl, HS, hP with
      | [], hl, HS, hP =>
        go_wp2_with fail
        go_round
        case rel => exact ⟨2, by omega, by go_num, hid ⟨fun _ => rfl, fun h => rfl⟩⟩
        case measure => simp [intOf]
      | [x], hl, HS, hP =>
        go_wp2_with fail
        go_round
        case rel => exact ⟨2, by omega, by go_num, hid ⟨fun _ => hP.out.1 (by omega), fun h => rfl⟩⟩
        case measure => simp [intOf]
      | x :: y :: t, hl, HS, hP =>
        obtain ⟨a, rfl, ca⟩ := hl.at (show 1 < (x :: y :: t).length by simp)
        have ca1 : w.cell? { block := a.block, off := a.off + 1 } = some (.int .u8 (y.toNat : Int)) := ca
        have d1 : decide (1 < (((x :: y :: t).length : Nat) : Int)) = true := by simp; omega
        have d1' : (1 : Int) < (t.length : Int) + 1 + 1 := by omega
        cases hx : (y == UInt8.ofNat 92) with
        | false =>
          have d2 : ((y.toNat : Int) != 92) = true := by have := byte_eq y 92 (by omega); rw [hx] at this; exact this
          have e : S = false := by rw [HS.out]; unfold startsH; simp at hx ⊢; intro _ h; exact absurd h hx
          subst e
          go_wp2_with fail
          go_ret
          exact ⟨rfl, rfl⟩
        | true =>
          have d2 : ((y.toNat : Int) != 92) = false := by have := byte_eq y 92 (by omega); rw [hx] at this; exact this
          go_wp2_with fail
          go_round
          case rel => exact ⟨2, by omega, by go_num, hid ⟨fun _ => hP.out.1 (by omega), fun _ => hx⟩⟩
          case measure => simp [intOf]
    · subst hh
      have e : S = true := by rw [HS.out]; unfold startsH; rw [hP.out.1 (by omega), hP.out.2 (by omega)]; rfl
      subst e
      go_wp2_with fail
      go_ret
      exact ⟨rfl, rfl⟩
end Go.Proofs.YtkmhmehofipehaaGreatDoor
/- Results of which one lies in a variable of its own; small carriers. -/
namespace Go.Proofs.YtkmhmehofipehaaGreatDoor
set_option linter.unusedVariables false
open Go.RowKit
theorem results_row_tmp {P : Program} {fn : Func} {p u : Tmp} {ty : TypeId} (h : fn.results = #[.cell p ty, .tmp u]) (tmps : Array Value) (w : World) (g : Nat) (t : TypeId) (cs : Array Value) (fr : Nat × Nat) (d : TypeDesc)
    (hp : tmps.getD p undef = .pointer (some ⟨g, 0, none⟩)) (hg : w.heap[g]? = some (.cells cs t fr))
    (hu : P.underlying ty = some d) (hd : (match d with | .struct _ | .array _ _ => true | _ => false) = true) (hi : (P.info? ty).map (·.size) = some cs.size) :
    (results fn tmps).run P w = .ok (.tuple #[.agg cs, tmps.getD u undef]) w := by
  have hp' : tmps[p]?.getD undef = .pointer (some ⟨g, 0, none⟩) := by simpa using hp
  simp [results, h, hp', asAddr, run_loadVar_row w g t ty cs fr d hg hu hd hi]
theorem results_row_tmp2 {P : Program} {fn : Func} {p u x : Tmp} {ty : TypeId} (h : fn.results = #[.cell p ty, .tmp u, .tmp x]) (tmps : Array Value) (w : World) (g : Nat) (t : TypeId) (cs : Array Value) (fr : Nat × Nat) (d : TypeDesc)
    (hp : tmps.getD p undef = .pointer (some ⟨g, 0, none⟩)) (hg : w.heap[g]? = some (.cells cs t fr))
    (hu : P.underlying ty = some d) (hd : (match d with | .struct _ | .array _ _ => true | _ => false) = true) (hi : (P.info? ty).map (·.size) = some cs.size) :
    (results fn tmps).run P w = .ok (.tuple #[.agg cs, tmps.getD u undef, tmps.getD x undef]) w := by
  have hp' : tmps[p]?.getD undef = .pointer (some ⟨g, 0, none⟩) := by simpa using hp
  simp [results, h, hp', asAddr, run_loadVar_row w g t ty cs fr d hg hu hd hi]
theorem keep1 {w w' : World} {a : Addr} {v : Value} (hb : Below w.heap.size w w') (h : w.cell? a = some v) : w'.cell? a = some v := (hb.cell (block_lt_of_cell h)).trans h
theorem undrew {w w' : World} (h : Below w.drew.heap.size w.drew w') : Below w.heap.size w w' := ⟨h.os, h.tape, h.output, h.size, h.block⟩
theorem results_row_tmp3 {P : Program} {fn : Func} {p u x y : Tmp} {ty : TypeId} (h : fn.results = #[.cell p ty, .tmp u, .tmp x, .tmp y]) (tmps : Array Value) (w : World) (g : Nat) (t : TypeId) (cs : Array Value) (fr : Nat × Nat) (d : TypeDesc)
    (hp : tmps.getD p undef = .pointer (some ⟨g, 0, none⟩)) (hg : w.heap[g]? = some (.cells cs t fr))
    (hu : P.underlying ty = some d) (hd : (match d with | .struct _ | .array _ _ => true | _ => false) = true) (hi : (P.info? ty).map (·.size) = some cs.size) :
    (results fn tmps).run P w = .ok (.tuple #[.agg cs, tmps.getD u undef, tmps.getD x undef, tmps.getD y undef]) w := by
  have hp' : tmps[p]?.getD undef = .pointer (some ⟨g, 0, none⟩) := by simpa using hp
  simp [results, h, hp', asAddr, run_loadVar_row w g t ty cs fr d hg hu hd hi]
theorem results_row1 {P : Program} {fn : Func} {p : Tmp} {ty : TypeId} (h : fn.results = #[.cell p ty]) (tmps : Array Value) (w : World) (g : Nat) (t : TypeId) (cs : Array Value) (fr : Nat × Nat) (d : TypeDesc)
    (hp : tmps.getD p undef = .pointer (some ⟨g, 0, none⟩)) (hg : w.heap[g]? = some (.cells cs t fr))
    (hu : P.underlying ty = some d) (hd : (match d with | .struct _ | .array _ _ => true | _ => false) = true) (hi : (P.info? ty).map (·.size) = some cs.size) :
    (results fn tmps).run P w = .ok (.agg cs) w := by
  have hp' : tmps[p]?.getD undef = .pointer (some ⟨g, 0, none⟩) := by simpa using hp
  simp [results, h, hp', asAddr, run_loadVar_row w g t ty cs fr d hg hu hd hi]
end Go.Proofs.YtkmhmehofipehaaGreatDoor
/- Which head may be. -/
namespace Go.Proofs.YtkmhmehofipehaaGreatDoor
set_option linter.unusedVariables false
open Go.RowKit
def rightH (k idx len stp bnd : Int) (lst : Bool) (lnk siz : Int) : Bool := decide ((1 ≤ k ∧ k ≤ 3) ∧ (0 ≤ idx ∧ idx ≤ 4294967295) ∧ (1 ≤ len ∧ len ≤ 65536) ∧ (1 ≤ stp ∧ stp ≤ 2147483648) ∧ (0 ≤ bnd ∧ bnd ≤ stp / 2) ∧ (0 ≤ siz ∧ siz ≤ 16777216) ∧ (lst = true → k = 1) ∧ (lnk ≠ 0 → k = 2) ∧ (stp ≠ 1 → k ≠ 3))
set_option maxHeartbeats 400000 in
theorem hwithin_any (x lo hi : Int) (b : Bool) (w : World) (h : decide (lo ≤ x ∧ x ≤ hi) = b) :
    Calls Tryz.prog 94 #[.int .i64 x, .int .i64 lo, .int .i64 hi] w fun e w' => e = .returned (.bool b) ∧ w = w' := by
  subst h
  by_cases h1 : lo ≤ x
  · have d1 : decide (lo ≤ x) = true := by simpa using h1
    by_cases h2 : x ≤ hi
    · have d2 : decide (x ≤ hi) = true := by simpa using h2
      go_enter Tryz.func94, Tryz.ntmps94
      go_wp2_with fail
      go_ret
      exact ⟨ret_bool (by simp [h1, h2]), rfl⟩
    · have d2 : decide (x ≤ hi) = false := by simpa using h2
      go_enter Tryz.func94, Tryz.ntmps94
      go_wp2_with fail
      go_ret
      exact ⟨ret_bool (by simp), rfl⟩
  · have d1 : decide (lo ≤ x) = false := by simpa using h1
    go_enter Tryz.func94, Tryz.ntmps94
    go_wp2_with fail
    go_ret
    exact ⟨ret_bool (by simp), rfl⟩
set_option maxHeartbeats 4000000 in
theorem hright_any (k idx len stp bnd : Int) (lst : Bool) (lnk siz : Int) (w : World) :
    Calls Tryz.prog 65 #[.agg #[.int .i64 k, .int .i64 idx, .int .i64 len, .int .i64 stp, .int .i64 bnd, .bool lst, .int .u32 lnk, .int .i64 siz]] w fun e w' => e = .returned (.bool (rightH k idx len stp bnd lst lnk siz)) ∧ Below w.heap.size w w' := by
  have hb : Below w.heap.size w (w.alloc (.cells #[.int .i64 k, .int .i64 idx, .int .i64 len, .int .i64 stp, .int .i64 bnd, .bool lst, .int .u32 lnk, .int .i64 siz] 67)) := (Below.refl _ w).alloc (Nat.le_refl _) _
  by_cases h0 : ¬ (1 ≤ k ∧ k ≤ 3)
  · have H0 := hid h0
    have HX : Hid (rightH k idx len stp bnd lst lnk siz = false) := hid (decide_eq_false (fun h => h0 (h.1)))
    clear h0
    go_enter Tryz.func65, Tryz.ntmps65
    go_wp2_with fail
    refine (hwithin_any k 1 3 false _ (decide_eq_false H0.out)).mono ?_
    rintro e w' ⟨rfl, rfl⟩
    go_wp2_with fail
    go_ret
    exact ⟨ret_bool HX.out.symm, hb⟩
  replace h0 := Decidable.not_not.1 h0
  have H0 := hid h0
  clear h0
  by_cases h1 : ¬ (0 ≤ idx ∧ idx ≤ 4294967295)
  · have H1 := hid h1
    have HX : Hid (rightH k idx len stp bnd lst lnk siz = false) := hid (decide_eq_false (fun h => h1 (h.2.1)))
    clear h1
    go_enter Tryz.func65, Tryz.ntmps65
    go_wp2_with fail
    refine (hwithin_any k 1 3 true _ (decide_eq_true H0.out)).mono ?_
    rintro e w' ⟨rfl, rfl⟩
    go_wp2_with fail
    refine (hwithin_any idx 0 4294967295 false _ (decide_eq_false H1.out)).mono ?_
    rintro e w' ⟨rfl, rfl⟩
    go_wp2_with fail
    go_ret
    exact ⟨ret_bool HX.out.symm, hb⟩
  replace h1 := Decidable.not_not.1 h1
  have H1 := hid h1
  clear h1
  by_cases h2 : ¬ (1 ≤ len ∧ len ≤ 65536)
  · have H2 := hid h2
    have HX : Hid (rightH k idx len stp bnd lst lnk siz = false) := hid (decide_eq_false (fun h => h2 (h.2.2.1)))
    clear h2
    go_enter Tryz.func65, Tryz.ntmps65
    go_wp2_with fail
    refine (hwithin_any k 1 3 true _ (decide_eq_true H0.out)).mono ?_
    rintro e w' ⟨rfl, rfl⟩
    go_wp2_with fail
    refine (hwithin_any idx 0 4294967295 true _ (decide_eq_true H1.out)).mono ?_
    rintro e w' ⟨rfl, rfl⟩
    go_wp2_with fail
    refine (hwithin_any len 1 65536 false _ (decide_eq_false H2.out)).mono ?_
    rintro e w' ⟨rfl, rfl⟩
    go_wp2_with fail
    go_ret
    exact ⟨ret_bool HX.out.symm, hb⟩
  replace h2 := Decidable.not_not.1 h2
  have H2 := hid h2
  clear h2
  by_cases h3 : ¬ (1 ≤ stp ∧ stp ≤ 2147483648)
  · have H3 := hid h3
    have HX : Hid (rightH k idx len stp bnd lst lnk siz = false) := hid (decide_eq_false (fun h => h3 (h.2.2.2.1)))
    clear h3
    go_enter Tryz.func65, Tryz.ntmps65
    go_wp2_with fail
    refine (hwithin_any k 1 3 true _ (decide_eq_true H0.out)).mono ?_
    rintro e w' ⟨rfl, rfl⟩
    go_wp2_with fail
    refine (hwithin_any idx 0 4294967295 true _ (decide_eq_true H1.out)).mono ?_
    rintro e w' ⟨rfl, rfl⟩
    go_wp2_with fail
    refine (hwithin_any len 1 65536 true _ (decide_eq_true H2.out)).mono ?_
    rintro e w' ⟨rfl, rfl⟩
    go_wp2_with fail
    refine (hwithin_any stp 1 2147483648 false _ (decide_eq_false H3.out)).mono ?_
    rintro e w' ⟨rfl, rfl⟩
    go_wp2_with fail
    go_ret
    exact ⟨ret_bool HX.out.symm, hb⟩
  replace h3 := Decidable.not_not.1 h3
  have H3 := hid h3
  by_cases h4 : ¬ (0 ≤ bnd ∧ bnd ≤ (stp / 2))
  · have H4 := hid h4
    have HX : Hid (rightH k idx len stp bnd lst lnk siz = false) := hid (decide_eq_false (fun h => h4 (h.2.2.2.2.1)))
    clear h4
    go_enter Tryz.func65, Tryz.ntmps65
    go_wp2_with fail
    refine (hwithin_any k 1 3 true _ (decide_eq_true H0.out)).mono ?_
    rintro e w' ⟨rfl, rfl⟩
    go_wp2_with fail
    refine (hwithin_any idx 0 4294967295 true _ (decide_eq_true H1.out)).mono ?_
    rintro e w' ⟨rfl, rfl⟩
    go_wp2_with fail
    refine (hwithin_any len 1 65536 true _ (decide_eq_true H2.out)).mono ?_
    rintro e w' ⟨rfl, rfl⟩
    go_wp2_with fail
    refine (hwithin_any stp 1 2147483648 true _ (decide_eq_true H3.out)).mono ?_
    rintro e w' ⟨rfl, rfl⟩
    go_wp2_with fail
    refine (hwithin_any bnd 0 (stp / 2) false _ (decide_eq_false H4.out)).mono ?_
    rintro e w' ⟨rfl, rfl⟩
    go_wp2_with fail
    go_ret
    exact ⟨ret_bool HX.out.symm, hb⟩
  replace h4 := Decidable.not_not.1 h4
  have H4 := hid h4
  clear h4
  by_cases h5 : ¬ (0 ≤ siz ∧ siz ≤ 16777216)
  · have H5 := hid h5
    have HX : Hid (rightH k idx len stp bnd lst lnk siz = false) := hid (decide_eq_false (fun h => h5 (h.2.2.2.2.2.1)))
    clear h5
    go_enter Tryz.func65, Tryz.ntmps65
    go_wp2_with fail
    refine (hwithin_any k 1 3 true _ (decide_eq_true H0.out)).mono ?_
    rintro e w' ⟨rfl, rfl⟩
    go_wp2_with fail
    refine (hwithin_any idx 0 4294967295 true _ (decide_eq_true H1.out)).mono ?_
    rintro e w' ⟨rfl, rfl⟩
    go_wp2_with fail
    refine (hwithin_any len 1 65536 true _ (decide_eq_true H2.out)).mono ?_
    rintro e w' ⟨rfl, rfl⟩
    go_wp2_with fail
    refine (hwithin_any stp 1 2147483648 true _ (decide_eq_true H3.out)).mono ?_
    rintro e w' ⟨rfl, rfl⟩
    go_wp2_with fail
    refine (hwithin_any bnd 0 (stp / 2) true _ (decide_eq_true H4.out)).mono ?_
    rintro e w' ⟨rfl, rfl⟩
    go_wp2_with fail
    refine (hwithin_any siz 0 16777216 false _ (decide_eq_false H5.out)).mono ?_
    rintro e w' ⟨rfl, rfl⟩
    go_wp2_with fail
    go_ret
    exact ⟨ret_bool HX.out.symm, hb⟩
  replace h5 := Decidable.not_not.1 h5
  have H5 := hid h5
  clear h5
  cases lst with
  | false =>
    by_cases n0 : lnk = 0
    · have f4 : (lnk != 0) = false := by simpa using n0
      have N0 := hid n0
      clear n0
      by_cases s1 : stp = 1
      · have f5 : (stp != 1) = false := by simpa using s1
        have S1 := hid s1
        clear s1
        have HX : Hid (rightH k idx len stp bnd false lnk siz = true) := hid (decide_eq_true (⟨H0.out, H1.out, H2.out, H3.out, H4.out, H5.out, (fun h => absurd h (by decide)), (fun h => absurd N0.out h), (fun h => absurd S1.out h)⟩))
        go_enter Tryz.func65, Tryz.ntmps65
        go_wp2_with fail
        refine (hwithin_any k 1 3 true _ (decide_eq_true H0.out)).mono ?_
        rintro e w' ⟨rfl, rfl⟩
        go_wp2_with fail
        refine (hwithin_any idx 0 4294967295 true _ (decide_eq_true H1.out)).mono ?_
        rintro e w' ⟨rfl, rfl⟩
        go_wp2_with fail
        refine (hwithin_any len 1 65536 true _ (decide_eq_true H2.out)).mono ?_
        rintro e w' ⟨rfl, rfl⟩
        go_wp2_with fail
        refine (hwithin_any stp 1 2147483648 true _ (decide_eq_true H3.out)).mono ?_
        rintro e w' ⟨rfl, rfl⟩
        go_wp2_with fail
        refine (hwithin_any bnd 0 (stp / 2) true _ (decide_eq_true H4.out)).mono ?_
        rintro e w' ⟨rfl, rfl⟩
        go_wp2_with fail
        refine (hwithin_any siz 0 16777216 true _ (decide_eq_true H5.out)).mono ?_
        rintro e w' ⟨rfl, rfl⟩
        go_wp2_with fail
        go_ret
        exact ⟨ret_bool HX.out.symm, hb⟩
      have f5 : (stp != 1) = true := by simpa using s1
      by_cases s3 : k = 3
      · have f3 : (k == 3) = true := by simpa using s3
        have S3 := hid s3
        have S1 := hid s1
        clear s3 s1
        have HX : Hid (rightH k idx len stp bnd false lnk siz = false) := hid (decide_eq_false (fun h => h.2.2.2.2.2.2.2.2 S1.out S3.out))
        go_enter Tryz.func65, Tryz.ntmps65
        go_wp2_with fail
        refine (hwithin_any k 1 3 true _ (decide_eq_true H0.out)).mono ?_
        rintro e w' ⟨rfl, rfl⟩
        go_wp2_with fail
        refine (hwithin_any idx 0 4294967295 true _ (decide_eq_true H1.out)).mono ?_
        rintro e w' ⟨rfl, rfl⟩
        go_wp2_with fail
        refine (hwithin_any len 1 65536 true _ (decide_eq_true H2.out)).mono ?_
        rintro e w' ⟨rfl, rfl⟩
        go_wp2_with fail
        refine (hwithin_any stp 1 2147483648 true _ (decide_eq_true H3.out)).mono ?_
        rintro e w' ⟨rfl, rfl⟩
        go_wp2_with fail
        refine (hwithin_any bnd 0 (stp / 2) true _ (decide_eq_true H4.out)).mono ?_
        rintro e w' ⟨rfl, rfl⟩
        go_wp2_with fail
        refine (hwithin_any siz 0 16777216 true _ (decide_eq_true H5.out)).mono ?_
        rintro e w' ⟨rfl, rfl⟩
        go_wp2_with fail
        go_ret
        exact ⟨ret_bool HX.out.symm, hb⟩
      · have f3 : (k == 3) = false := by simpa using s3
        have S3 := hid s3
        clear s3 s1
        have HX : Hid (rightH k idx len stp bnd false lnk siz = true) := hid (decide_eq_true (⟨H0.out, H1.out, H2.out, H3.out, H4.out, H5.out, (fun h => absurd h (by decide)), (fun h => absurd N0.out h), (fun _ => S3.out)⟩))
        go_enter Tryz.func65, Tryz.ntmps65
        go_wp2_with fail
        refine (hwithin_any k 1 3 true _ (decide_eq_true H0.out)).mono ?_
        rintro e w' ⟨rfl, rfl⟩
        go_wp2_with fail
        refine (hwithin_any idx 0 4294967295 true _ (decide_eq_true H1.out)).mono ?_
        rintro e w' ⟨rfl, rfl⟩
        go_wp2_with fail
        refine (hwithin_any len 1 65536 true _ (decide_eq_true H2.out)).mono ?_
        rintro e w' ⟨rfl, rfl⟩
        go_wp2_with fail
        refine (hwithin_any stp 1 2147483648 true _ (decide_eq_true H3.out)).mono ?_
        rintro e w' ⟨rfl, rfl⟩
        go_wp2_with fail
        refine (hwithin_any bnd 0 (stp / 2) true _ (decide_eq_true H4.out)).mono ?_
        rintro e w' ⟨rfl, rfl⟩
        go_wp2_with fail
        refine (hwithin_any siz 0 16777216 true _ (decide_eq_true H5.out)).mono ?_
        rintro e w' ⟨rfl, rfl⟩
        go_wp2_with fail
        go_ret
        exact ⟨ret_bool HX.out.symm, hb⟩
    have f4 : (lnk != 0) = true := by simpa using n0
    by_cases n2 : k = 2
    · have f2 : (k != 2) = false := by simpa using n2
      have N2 := hid n2
      clear n2 n0
      by_cases s1 : stp = 1
      · have f5 : (stp != 1) = false := by simpa using s1
        have S1 := hid s1
        clear s1
        have HX : Hid (rightH k idx len stp bnd false lnk siz = true) := hid (decide_eq_true (⟨H0.out, H1.out, H2.out, H3.out, H4.out, H5.out, (fun h => absurd h (by decide)), (fun _ => N2.out), (fun h => absurd S1.out h)⟩))
        go_enter Tryz.func65, Tryz.ntmps65
        go_wp2_with fail
        refine (hwithin_any k 1 3 true _ (decide_eq_true H0.out)).mono ?_
        rintro e w' ⟨rfl, rfl⟩
        go_wp2_with fail
        refine (hwithin_any idx 0 4294967295 true _ (decide_eq_true H1.out)).mono ?_
        rintro e w' ⟨rfl, rfl⟩
        go_wp2_with fail
        refine (hwithin_any len 1 65536 true _ (decide_eq_true H2.out)).mono ?_
        rintro e w' ⟨rfl, rfl⟩
        go_wp2_with fail
        refine (hwithin_any stp 1 2147483648 true _ (decide_eq_true H3.out)).mono ?_
        rintro e w' ⟨rfl, rfl⟩
        go_wp2_with fail
        refine (hwithin_any bnd 0 (stp / 2) true _ (decide_eq_true H4.out)).mono ?_
        rintro e w' ⟨rfl, rfl⟩
        go_wp2_with fail
        refine (hwithin_any siz 0 16777216 true _ (decide_eq_true H5.out)).mono ?_
        rintro e w' ⟨rfl, rfl⟩
        go_wp2_with fail
        go_ret
        exact ⟨ret_bool HX.out.symm, hb⟩
      have f5 : (stp != 1) = true := by simpa using s1
      by_cases s3 : k = 3
      · have f3 : (k == 3) = true := by simpa using s3
        have S3 := hid s3
        have S1 := hid s1
        clear s3 s1
        have HX : Hid (rightH k idx len stp bnd false lnk siz = false) := hid (decide_eq_false (fun h => h.2.2.2.2.2.2.2.2 S1.out S3.out))
        go_enter Tryz.func65, Tryz.ntmps65
        go_wp2_with fail
        refine (hwithin_any k 1 3 true _ (decide_eq_true H0.out)).mono ?_
        rintro e w' ⟨rfl, rfl⟩
        go_wp2_with fail
        refine (hwithin_any idx 0 4294967295 true _ (decide_eq_true H1.out)).mono ?_
        rintro e w' ⟨rfl, rfl⟩
        go_wp2_with fail
        refine (hwithin_any len 1 65536 true _ (decide_eq_true H2.out)).mono ?_
        rintro e w' ⟨rfl, rfl⟩
        go_wp2_with fail
        refine (hwithin_any stp 1 2147483648 true _ (decide_eq_true H3.out)).mono ?_
        rintro e w' ⟨rfl, rfl⟩
        go_wp2_with fail
        refine (hwithin_any bnd 0 (stp / 2) true _ (decide_eq_true H4.out)).mono ?_
        rintro e w' ⟨rfl, rfl⟩
        go_wp2_with fail
        refine (hwithin_any siz 0 16777216 true _ (decide_eq_true H5.out)).mono ?_
        rintro e w' ⟨rfl, rfl⟩
        go_wp2_with fail
        go_ret
        exact ⟨ret_bool HX.out.symm, hb⟩
      · have f3 : (k == 3) = false := by simpa using s3
        have S3 := hid s3
        clear s3 s1
        have HX : Hid (rightH k idx len stp bnd false lnk siz = true) := hid (decide_eq_true (⟨H0.out, H1.out, H2.out, H3.out, H4.out, H5.out, (fun h => absurd h (by decide)), (fun _ => N2.out), (fun _ => S3.out)⟩))
        go_enter Tryz.func65, Tryz.ntmps65
        go_wp2_with fail
        refine (hwithin_any k 1 3 true _ (decide_eq_true H0.out)).mono ?_
        rintro e w' ⟨rfl, rfl⟩
        go_wp2_with fail
        refine (hwithin_any idx 0 4294967295 true _ (decide_eq_true H1.out)).mono ?_
        rintro e w' ⟨rfl, rfl⟩
        go_wp2_with fail
        refine (hwithin_any len 1 65536 true _ (decide_eq_true H2.out)).mono ?_
        rintro e w' ⟨rfl, rfl⟩
        go_wp2_with fail
        refine (hwithin_any stp 1 2147483648 true _ (decide_eq_true H3.out)).mono ?_
        rintro e w' ⟨rfl, rfl⟩
        go_wp2_with fail
        refine (hwithin_any bnd 0 (stp / 2) true _ (decide_eq_true H4.out)).mono ?_
        rintro e w' ⟨rfl, rfl⟩
        go_wp2_with fail
        refine (hwithin_any siz 0 16777216 true _ (decide_eq_true H5.out)).mono ?_
        rintro e w' ⟨rfl, rfl⟩
        go_wp2_with fail
        go_ret
        exact ⟨ret_bool HX.out.symm, hb⟩
    · have f2 : (k != 2) = true := by simpa using n2
      have N2 := hid n2
      have N0 := hid n0
      clear n2 n0
      have HX : Hid (rightH k idx len stp bnd false lnk siz = false) := hid (decide_eq_false (fun h => N2.out (h.2.2.2.2.2.2.2.1 N0.out)))
      go_enter Tryz.func65, Tryz.ntmps65
      go_wp2_with fail
      refine (hwithin_any k 1 3 true _ (decide_eq_true H0.out)).mono ?_
      rintro e w' ⟨rfl, rfl⟩
      go_wp2_with fail
      refine (hwithin_any idx 0 4294967295 true _ (decide_eq_true H1.out)).mono ?_
      rintro e w' ⟨rfl, rfl⟩
      go_wp2_with fail
      refine (hwithin_any len 1 65536 true _ (decide_eq_true H2.out)).mono ?_
      rintro e w' ⟨rfl, rfl⟩
      go_wp2_with fail
      refine (hwithin_any stp 1 2147483648 true _ (decide_eq_true H3.out)).mono ?_
      rintro e w' ⟨rfl, rfl⟩
      go_wp2_with fail
      refine (hwithin_any bnd 0 (stp / 2) true _ (decide_eq_true H4.out)).mono ?_
      rintro e w' ⟨rfl, rfl⟩
      go_wp2_with fail
      refine (hwithin_any siz 0 16777216 true _ (decide_eq_true H5.out)).mono ?_
      rintro e w' ⟨rfl, rfl⟩
      go_wp2_with fail
      go_ret
      exact ⟨ret_bool HX.out.symm, hb⟩
  | true =>
    by_cases l1 : k = 1
    · have f1 : (k != 1) = false := by simpa using l1
      have L1 := hid l1
      clear l1
      by_cases n0 : lnk = 0
      · have f4 : (lnk != 0) = false := by simpa using n0
        have N0 := hid n0
        clear n0
        by_cases s1 : stp = 1
        · have f5 : (stp != 1) = false := by simpa using s1
          have S1 := hid s1
          clear s1
          have HX : Hid (rightH k idx len stp bnd true lnk siz = true) := hid (decide_eq_true (⟨H0.out, H1.out, H2.out, H3.out, H4.out, H5.out, (fun _ => L1.out), (fun h => absurd N0.out h), (fun h => absurd S1.out h)⟩))
          go_enter Tryz.func65, Tryz.ntmps65
          go_wp2_with fail
          refine (hwithin_any k 1 3 true _ (decide_eq_true H0.out)).mono ?_
          rintro e w' ⟨rfl, rfl⟩
          go_wp2_with fail
          refine (hwithin_any idx 0 4294967295 true _ (decide_eq_true H1.out)).mono ?_
          rintro e w' ⟨rfl, rfl⟩
          go_wp2_with fail
          refine (hwithin_any len 1 65536 true _ (decide_eq_true H2.out)).mono ?_
          rintro e w' ⟨rfl, rfl⟩
          go_wp2_with fail
          refine (hwithin_any stp 1 2147483648 true _ (decide_eq_true H3.out)).mono ?_
          rintro e w' ⟨rfl, rfl⟩
          go_wp2_with fail
          refine (hwithin_any bnd 0 (stp / 2) true _ (decide_eq_true H4.out)).mono ?_
          rintro e w' ⟨rfl, rfl⟩
          go_wp2_with fail
          refine (hwithin_any siz 0 16777216 true _ (decide_eq_true H5.out)).mono ?_
          rintro e w' ⟨rfl, rfl⟩
          go_wp2_with fail
          go_ret
          exact ⟨ret_bool HX.out.symm, hb⟩
        have f5 : (stp != 1) = true := by simpa using s1
        by_cases s3 : k = 3
        · have f3 : (k == 3) = true := by simpa using s3
          have S3 := hid s3
          have S1 := hid s1
          clear s3 s1
          have HX : Hid (rightH k idx len stp bnd true lnk siz = false) := hid (decide_eq_false (fun h => h.2.2.2.2.2.2.2.2 S1.out S3.out))
          go_enter Tryz.func65, Tryz.ntmps65
          go_wp2_with fail
          refine (hwithin_any k 1 3 true _ (decide_eq_true H0.out)).mono ?_
          rintro e w' ⟨rfl, rfl⟩
          go_wp2_with fail
          refine (hwithin_any idx 0 4294967295 true _ (decide_eq_true H1.out)).mono ?_
          rintro e w' ⟨rfl, rfl⟩
          go_wp2_with fail
          refine (hwithin_any len 1 65536 true _ (decide_eq_true H2.out)).mono ?_
          rintro e w' ⟨rfl, rfl⟩
          go_wp2_with fail
          refine (hwithin_any stp 1 2147483648 true _ (decide_eq_true H3.out)).mono ?_
          rintro e w' ⟨rfl, rfl⟩
          go_wp2_with fail
          refine (hwithin_any bnd 0 (stp / 2) true _ (decide_eq_true H4.out)).mono ?_
          rintro e w' ⟨rfl, rfl⟩
          go_wp2_with fail
          refine (hwithin_any siz 0 16777216 true _ (decide_eq_true H5.out)).mono ?_
          rintro e w' ⟨rfl, rfl⟩
          go_wp2_with fail
          go_ret
          exact ⟨ret_bool HX.out.symm, hb⟩
        · have f3 : (k == 3) = false := by simpa using s3
          have S3 := hid s3
          clear s3 s1
          have HX : Hid (rightH k idx len stp bnd true lnk siz = true) := hid (decide_eq_true (⟨H0.out, H1.out, H2.out, H3.out, H4.out, H5.out, (fun _ => L1.out), (fun h => absurd N0.out h), (fun _ => S3.out)⟩))
          go_enter Tryz.func65, Tryz.ntmps65
          go_wp2_with fail
          refine (hwithin_any k 1 3 true _ (decide_eq_true H0.out)).mono ?_
          rintro e w' ⟨rfl, rfl⟩
          go_wp2_with fail
          refine (hwithin_any idx 0 4294967295 true _ (decide_eq_true H1.out)).mono ?_
          rintro e w' ⟨rfl, rfl⟩
          go_wp2_with fail
          refine (hwithin_any len 1 65536 true _ (decide_eq_true H2.out)).mono ?_
          rintro e w' ⟨rfl, rfl⟩
          go_wp2_with fail
          refine (hwithin_any stp 1 2147483648 true _ (decide_eq_true H3.out)).mono ?_
          rintro e w' ⟨rfl, rfl⟩
          go_wp2_with fail
          refine (hwithin_any bnd 0 (stp / 2) true _ (decide_eq_true H4.out)).mono ?_
          rintro e w' ⟨rfl, rfl⟩
          go_wp2_with fail
          refine (hwithin_any siz 0 16777216 true _ (decide_eq_true H5.out)).mono ?_
          rintro e w' ⟨rfl, rfl⟩
          go_wp2_with fail
          go_ret
          exact ⟨ret_bool HX.out.symm, hb⟩
      have f4 : (lnk != 0) = true := by simpa using n0
      by_cases n2 : k = 2
      · have f2 : (k != 2) = false := by simpa using n2
        have N2 := hid n2
        clear n2 n0
        by_cases s1 : stp = 1
        · have f5 : (stp != 1) = false := by simpa using s1
          have S1 := hid s1
          clear s1
          have HX : Hid (rightH k idx len stp bnd true lnk siz = true) := hid (decide_eq_true (⟨H0.out, H1.out, H2.out, H3.out, H4.out, H5.out, (fun _ => L1.out), (fun _ => N2.out), (fun h => absurd S1.out h)⟩))
          go_enter Tryz.func65, Tryz.ntmps65
          go_wp2_with fail
          refine (hwithin_any k 1 3 true _ (decide_eq_true H0.out)).mono ?_
          rintro e w' ⟨rfl, rfl⟩
          go_wp2_with fail
          refine (hwithin_any idx 0 4294967295 true _ (decide_eq_true H1.out)).mono ?_
          rintro e w' ⟨rfl, rfl⟩
          go_wp2_with fail
          refine (hwithin_any len 1 65536 true _ (decide_eq_true H2.out)).mono ?_
          rintro e w' ⟨rfl, rfl⟩
          go_wp2_with fail
          refine (hwithin_any stp 1 2147483648 true _ (decide_eq_true H3.out)).mono ?_
          rintro e w' ⟨rfl, rfl⟩
          go_wp2_with fail
          refine (hwithin_any bnd 0 (stp / 2) true _ (decide_eq_true H4.out)).mono ?_
          rintro e w' ⟨rfl, rfl⟩
          go_wp2_with fail
          refine (hwithin_any siz 0 16777216 true _ (decide_eq_true H5.out)).mono ?_
          rintro e w' ⟨rfl, rfl⟩
          go_wp2_with fail
          go_ret
          exact ⟨ret_bool HX.out.symm, hb⟩
        have f5 : (stp != 1) = true := by simpa using s1
        by_cases s3 : k = 3
        · have f3 : (k == 3) = true := by simpa using s3
          have S3 := hid s3
          have S1 := hid s1
          clear s3 s1
          have HX : Hid (rightH k idx len stp bnd true lnk siz = false) := hid (decide_eq_false (fun h => h.2.2.2.2.2.2.2.2 S1.out S3.out))
          go_enter Tryz.func65, Tryz.ntmps65
          go_wp2_with fail
          refine (hwithin_any k 1 3 true _ (decide_eq_true H0.out)).mono ?_
          rintro e w' ⟨rfl, rfl⟩
          go_wp2_with fail
          refine (hwithin_any idx 0 4294967295 true _ (decide_eq_true H1.out)).mono ?_
          rintro e w' ⟨rfl, rfl⟩
          go_wp2_with fail
          refine (hwithin_any len 1 65536 true _ (decide_eq_true H2.out)).mono ?_
          rintro e w' ⟨rfl, rfl⟩
          go_wp2_with fail
          refine (hwithin_any stp 1 2147483648 true _ (decide_eq_true H3.out)).mono ?_
          rintro e w' ⟨rfl, rfl⟩
          go_wp2_with fail
          refine (hwithin_any bnd 0 (stp / 2) true _ (decide_eq_true H4.out)).mono ?_
          rintro e w' ⟨rfl, rfl⟩
          go_wp2_with fail
          refine (hwithin_any siz 0 16777216 true _ (decide_eq_true H5.out)).mono ?_
          rintro e w' ⟨rfl, rfl⟩
          go_wp2_with fail
          go_ret
          exact ⟨ret_bool HX.out.symm, hb⟩
        · have f3 : (k == 3) = false := by simpa using s3
          have S3 := hid s3
          clear s3 s1
          have HX : Hid (rightH k idx len stp bnd true lnk siz = true) := hid (decide_eq_true (⟨H0.out, H1.out, H2.out, H3.out, H4.out, H5.out, (fun _ => L1.out), (fun _ => N2.out), (fun _ => S3.out)⟩))
          go_enter Tryz.func65, Tryz.ntmps65
          go_wp2_with fail
          refine (hwithin_any k 1 3 true _ (decide_eq_true H0.out)).mono ?_
          rintro e w' ⟨rfl, rfl⟩
          go_wp2_with fail
          refine (hwithin_any idx 0 4294967295 true _ (decide_eq_true H1.out)).mono ?_
          rintro e w' ⟨rfl, rfl⟩
          go_wp2_with fail
          refine (hwithin_any len 1 65536 true _ (decide_eq_true H2.out)).mono ?_
          rintro e w' ⟨rfl, rfl⟩
          go_wp2_with fail
          refine (hwithin_any stp 1 2147483648 true _ (decide_eq_true H3.out)).mono ?_
          rintro e w' ⟨rfl, rfl⟩
          go_wp2_with fail
          refine (hwithin_any bnd 0 (stp / 2) true _ (decide_eq_true H4.out)).mono ?_
          rintro e w' ⟨rfl, rfl⟩
          go_wp2_with fail
          refine (hwithin_any siz 0 16777216 true _ (decide_eq_true H5.out)).mono ?_
          rintro e w' ⟨rfl, rfl⟩
          go_wp2_with fail
          go_ret
          exact ⟨ret_bool HX.out.symm, hb⟩
      · have f2 : (k != 2) = true := by simpa using n2
        have N2 := hid n2
        have N0 := hid n0
        clear n2 n0
        have HX : Hid (rightH k idx len stp bnd true lnk siz = false) := hid (decide_eq_false (fun h => N2.out (h.2.2.2.2.2.2.2.1 N0.out)))
        go_enter Tryz.func65, Tryz.ntmps65
        go_wp2_with fail
        refine (hwithin_any k 1 3 true _ (decide_eq_true H0.out)).mono ?_
        rintro e w' ⟨rfl, rfl⟩
        go_wp2_with fail
        refine (hwithin_any idx 0 4294967295 true _ (decide_eq_true H1.out)).mono ?_
        rintro e w' ⟨rfl, rfl⟩
        go_wp2_with fail
        refine (hwithin_any len 1 65536 true _ (decide_eq_true H2.out)).mono ?_
        rintro e w' ⟨rfl, rfl⟩
        go_wp2_with fail
        refine (hwithin_any stp 1 2147483648 true _ (decide_eq_true H3.out)).mono ?_
        rintro e w' ⟨rfl, rfl⟩
        go_wp2_with fail
        refine (hwithin_any bnd 0 (stp / 2) true _ (decide_eq_true H4.out)).mono ?_
        rintro e w' ⟨rfl, rfl⟩
        go_wp2_with fail
        refine (hwithin_any siz 0 16777216 true _ (decide_eq_true H5.out)).mono ?_
        rintro e w' ⟨rfl, rfl⟩
        go_wp2_with fail
        go_ret
        exact ⟨ret_bool HX.out.symm, hb⟩
    · have f1 : (k != 1) = true := by simpa using l1
      have L1 := hid l1
      clear l1
      have HX : Hid (rightH k idx len stp bnd true lnk siz = false) := hid (decide_eq_false (fun h => L1.out (h.2.2.2.2.2.2.1 rfl)))
      go_enter Tryz.func65, Tryz.ntmps65
      go_wp2_with fail
      refine (hwithin_any k 1 3 true _ (decide_eq_true H0.out)).mono ?_
      rintro e w' ⟨rfl, rfl⟩
      go_wp2_with fail
      refine (hwithin_any idx 0 4294967295 true _ (decide_eq_true H1.out)).mono ?_
      rintro e w' ⟨rfl, rfl⟩
      go_wp2_with fail
      refine (hwithin_any len 1 65536 true _ (decide_eq_true H2.out)).mono ?_
      rintro e w' ⟨rfl, rfl⟩
      go_wp2_with fail
      refine (hwithin_any stp 1 2147483648 true _ (decide_eq_true H3.out)).mono ?_
      rintro e w' ⟨rfl, rfl⟩
      go_wp2_with fail
      refine (hwithin_any bnd 0 (stp / 2) true _ (decide_eq_true H4.out)).mono ?_
      rintro e w' ⟨rfl, rfl⟩
      go_wp2_with fail
      refine (hwithin_any siz 0 16777216 true _ (decide_eq_true H5.out)).mono ?_
      rintro e w' ⟨rfl, rfl⟩
      go_wp2_with fail
      go_ret
      exact ⟨ret_bool HX.out.symm, hb⟩
end Go.Proofs.YtkmhmehofipehaaGreatDoor
/- A region that draws its order: if each operation yields one value in every world that meets S, and leaves a world that meets S, all orders come to one end. -/
namespace Go.Proofs.YtkmhmehofipehaaGreatDoor
set_option linter.unusedVariables false
open Go.RowKit
section
variable {P : Program} {ops : Array Oper} {md : Region.Mode} {S : World → Prop}
def HeldUpon (P : Program) (S : World → Prop) (v : Value) : Result Next → Prop
  | .ok (.value u) w' => u = v ∧ S w'
  | .ok .skip w' => undef = v ∧ S w'
  | .ok (.enter f args) w' => Calls P f args w' (fun e w'' => e = .returned v ∧ S w'')
  | _ => False
@[go_sem] theorem HeldUpon_value (P : Program) (S : World → Prop) (v u : Value) (w : World) : HeldUpon P S v (.ok (.value u) w) = (u = v ∧ S w) := rfl
@[go_sem] theorem HeldUpon_skip (P : Program) (S : World → Prop) (v : Value) (w : World) : HeldUpon P S v (.ok .skip w) = (undef = v ∧ S w) := rfl
@[go_sem] theorem HeldUpon_enter (P : Program) (S : World → Prop) (v : Value) (f : FuncId) (args : Array Value) (w : World) : HeldUpon P S v (.ok (.enter f args) w) = Calls P f args w (fun e w'' => e = .returned v ∧ S w'') := rfl
end
end Go.Proofs.YtkmhmehofipehaaGreatDoor
