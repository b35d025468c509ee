/- The walk of CrcChanges. -/
import Derived.Test.YtekagaafenglaaaLaw03Known
import Derived.Test.YtekagaafenglaaaApp
namespace Go.Proofs.Ytekagaafenglaaa.crcChanges
set_option linter.unusedVariables false
open Go.RowKit
theorem elB : Elem Try.prog 28 5 1 1 := Elem.mk' Try.underlying28 (z := .int .u8 0) (by kernel_rfl) rfl (by omega)
def Out (l : List UInt8) (at_ by_ : Int) : Prop := 3000 < l.length ∨ at_ < 0 ∨ (l.length : Int) ≤ at_ ∨ by_ = 0
set_option maxHeartbeats 1000000 in
set_option maxRecDepth 20000 in
theorem walk_out (A : Option Addr) (c : Nat) (l : List UInt8) (at_ by_ : Int) (w : World) (hmx : l.length ≤ 9223372036854775807) (h : Out l at_ by_) :
    Calls Try.prog 5 #[.slice A l.length c, .int .i64 at_, .int .u8 by_] w fun e w' => e = .returned (.bool true) ∧ Below w.heap.size w w' := by
  obtain ⟨b1, hb1⟩ : ∃ b, decide (3000 < (l.length : Int)) = b := ⟨_, rfl⟩
  obtain ⟨b2, hb2⟩ : ∃ b, decide (at_ < 0) = b := ⟨_, rfl⟩
  obtain ⟨b3, hb3⟩ : ∃ b, decide ((l.length : Int) ≤ at_) = b := ⟨_, rfl⟩
  obtain ⟨b4, hb4⟩ : ∃ b, (by_ == 0) = b := ⟨_, rfl⟩
  have hor : b1 = true ∨ (b1 = false ∧ b2 = true) ∨ (b1 = false ∧ b2 = false ∧ b3 = true) ∨ (b1 = false ∧ b2 = false ∧ b3 = false ∧ b4 = true) := by
    unfold Out at h
    subst hb1 hb2 hb3 hb4
    simp only [decide_eq_true_eq, decide_eq_false_iff_not, beq_iff_eq]
    omega
  clear h
  rcases hor with rfl | ⟨rfl, rfl⟩ | ⟨rfl, rfl, rfl⟩ | ⟨rfl, rfl, rfl, rfl⟩
  all_goals
    go_enter Try.func5, Try.ntmps5
    go_wp2_with fail
    refine (known_any _).mono ?_
    rintro e w2 ⟨rfl, hb2⟩
    go_wp2_with fail
    go_ret
    exact ⟨rfl, hb2⟩
theorem xor_byte (b : UInt8) (y : Int) (hy : 0 ≤ y ∧ y < 256) (h0 : y ≠ 0) : ∃ z : UInt8, z ≠ b ∧ Value.int .u8 (bits .xor .u8 (b.toNat : Int) y) = byteV z := by
  have hb := b.toNat_lt
  obtain ⟨Y, rfl⟩ := Int.eq_ofNat_of_zero_le hy.1
  have hx : b.toNat ^^^ Y < 2 ^ 8 := Nat.xor_lt_two_pow (by omega) (by omega)
  refine ⟨UInt8.ofNat (b.toNat ^^^ Y), ?_, ?_⟩
  · intro h
    have h1 := congrArg UInt8.toNat h
    rw [UInt8.toNat_ofNat', Nat.mod_eq_of_lt hx] at h1
    have h2 : Y = 0 := by
      apply xor_cancel (c := b.toNat)
      rw [Nat.zero_xor, Nat.xor_comm]; exact h1
    exact h0 (by omega)
  · rw [u8_xor_nat _ _ (by omega) (by omega)]
    unfold byteV
    rw [UInt8.toNat_ofNat', Nat.mod_eq_of_lt hx]
set_option maxHeartbeats 1000000 in
set_option maxRecDepth 20000 in
theorem walk_in (A : Option Addr) (c : Nat) (l : List UInt8) (i : Nat) (by_ : Int) (w : World) (hl : SeesB w A l) (hlen : l.length ≤ 3000) (hi : i < l.length) (hy : 0 ≤ by_ ∧ by_ < 256) (h0 : by_ ≠ 0) :
    Calls Try.prog 5 #[.slice A l.length c, .int .i64 (i : Int), .int .u8 by_] w fun e w' => e = .returned (.bool true) ∧ Below w.heap.size w w' := by
  have hd1 : decide (3000 < (l.length : Int)) = false := by simp; omega
  have hd2 : decide ((i : Int) < 0) = false := by simp
  have hd3 : decide (l.length ≤ i) = false := by simp; omega
  have hd4 : (by_ == 0) = false := by simpa using h0
  obtain ⟨z, hz, hzv⟩ := xor_byte l[i] by_ hy h0
  have HZ := hid hzv
  clear hzv
  obtain ⟨m, hm⟩ : ∃ m, m = l.set i z := ⟨_, rfl⟩
  have hmv : m.map byteV = (l.map byteV).set i (byteV z) := by rw [hm, List.map_set]
  have HMV := hid hmv
  have hml : m.length = l.length := by rw [hm]; simp
  have HML := hid hml
  have hne := sumI_change l i hi z hz
  have hne2 : (sumI l == sumI m) = false := by rw [beq_eq_false_iff_ne, hm]; exact fun h => hne h.symm
  have HNE := hid hne2
  clear hne hne2 hm hmv hml
  have hcell : (l.map byteV)[i]? = some (.int .u8 (l[i].toNat : Int)) := by simp [hi, byteV]
  generalize hbi : l[i] = b at hz HZ hcell
  have HCELL := hid hcell
  clear hcell hbi
  go_enter Try.func5, Try.ntmps5
  go_wp2_with fail
  refine (make_any _).mono ?_
  rintro e w1 ⟨rfl, hb, ht⟩
  have hl1 := hl.below hb
  have hpos : 0 < l.length := by omega
  go_wp2_with (at_builtin; refine wpList_app rfl (.tmp 28) (.tmp 29) _ rfl elB rfl (own_nil _ w1.heap.size 1 5) A l.length c rfl (l.map byteV) hl1 (by simp) (byte_one l) l.length (by omega) (l.map byteV) rfl (by unfold maxLen; omega) (by omega) (Nat.le_refl _) ?_; intro A3 c3 w2 hown2 hg2 hat2 hb2; obtain ⟨g, rfl, hgb, hgl⟩ := own_some hown2 hpos; have hc2 : w2.cell? ⟨g, i, none⟩ = some (.int .u8 (b.toNat : Int)) := (hown2.cellAt i (by omega)).trans HCELL.out; have hf2 : w2.frozen? ⟨g, i, none⟩ = false := hown2.frozenAt i)
  have hst := hown2.stored i (byteV z)
  rw [HZ.out]
  generalize hw3 : w2.setCell ⟨g, i, none⟩ (byteV z) = w3 at hst
  have hb3 : Below w1.heap.size w1 w3 := by rw [← hw3]; exact hb2.setCell hgb _
  have ht3 := ht.keep hb3 ht.lt
  have hl3 := hl1.below hb3
  have hs3 : SeesB w3 (some ⟨g, 0, none⟩) m := by
    have := own_sees hst.1
    rw [← HMV.out] at this
    exact this
  refine (sum_any _ _ _ l _ ht3 hl3 (by omega)).mono ?_
  rintro e w4 ⟨rfl, rfl⟩
  go_wp2_with fail
  rw [← HML.out]
  refine (sum_any _ _ _ m _ ht3 hs3 (by rw [HML.out]; omega)).mono ?_
  rintro e w4 ⟨rfl, rfl⟩
  have hfin : (sumI l != sumI m) = true := by rw [bne, HNE.out]; rfl
  go_wp2_with fail
  refine (known_any _).mono ?_
  rintro e w5 ⟨rfl, hb5⟩
  go_wp2_with fail
  go_ret
  have hbc := hb.trans (hb3.mono hb.size)
  exact ⟨rfl, hbc.trans (hb5.mono hbc.size)⟩
theorem walk (A : Option Addr) (c : Nat) (l : List UInt8) (at_ by_ : Int) (w : World) (hb : SeesB w A l ∧ l.length ≤ c ∧ c ≤ maxLen) (ha : -9223372036854775808 ≤ at_ ∧ at_ < 9223372036854775808) (hy : 0 ≤ by_ ∧ by_ < 256) :
    Calls Try.prog 5 #[.slice A l.length c, .int .i64 at_, .int .u8 by_] w fun e w' => e = .returned (.bool true) ∧ Below w.heap.size w w' := by
  obtain ⟨hl, hc1, hc2⟩ := hb
  unfold maxLen at hc2
  by_cases h : Out l at_ by_
  · exact walk_out A c l at_ by_ w (by omega) h
  · unfold Out at h
    obtain ⟨i, rfl⟩ := Int.eq_ofNat_of_zero_le (show 0 ≤ at_ by omega)
    exact walk_in A c l i by_ w hl (by omega) (by omega) hy (by omega)
end Go.Proofs.Ytekagaafenglaaa.crcChanges
