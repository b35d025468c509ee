/- The walk of CrcParts. -/
import Derived.Test.YtekagaafenglaaaLaw03Known
import Derived.Test.YtekagaafenglaaaApp
import Derived.Test.YtekagaafenglaaaCrcSkip
namespace Go.Proofs.Ytekagaafenglaaa.crcParts
open Go.RowKit
theorem elB : Elem Try.prog 28 5 1 1 := Elem.mk' Try.underlying28 (z := .int .u8 0) (by kernel_rfl) rfl (by omega)
set_option maxHeartbeats 400000 in
set_option maxRecDepth 20000 in
theorem walk (A : Option Addr) (c : Nat) (l : List UInt8) (A2 : Option Addr) (c2 : Nat) (l2 : List UInt8) (w : World) (hb : SeesB w A l ∧ l.length ≤ c ∧ c ≤ maxLen) (hb2 : SeesB w A2 l2 ∧ l2.length ≤ c2 ∧ c2 ≤ maxLen) :
    Calls Try.prog 6 #[.slice A l.length c, .slice A2 l2.length c2] w fun e w' => e = .returned (.bool true) ∧ Below w.heap.size w w' := by
  obtain ⟨hl, hc1, hc2⟩ := hb
  obtain ⟨hl2, hc3, hc4⟩ := hb2
  unfold maxLen at hc2 hc4
  have hmx : l.length ≤ 9223372036854775807 := by omega
  have hmx2 : l2.length ≤ 9223372036854775807 := by omega
  clear hc1 hc2 hc3 hc4
  by_cases hbig : 3000 < l.length
  · have hd1 : decide (3000 < (l.length : Int)) = true := by simp; omega
    go_enter Try.func6, Try.ntmps6
    go_wp2_with fail
    refine (known_any _).mono ?_
    rintro e w2 ⟨rfl, hb2⟩
    go_wp2_with fail
    go_ret
    exact ⟨rfl, hb2⟩
  have hd1 : decide (3000 < (l.length : Int)) = false := by simp; omega
  by_cases hbig2 : 3000 < l2.length
  · have hd2 : decide (3000 < (l2.length : Int)) = true := by simp; omega
    go_enter Try.func6, Try.ntmps6
    go_wp2_with fail
    refine (known_any _).mono ?_
    rintro e w2 ⟨rfl, hb2⟩
    go_wp2_with fail
    go_ret
    exact ⟨rfl, hb2⟩
  have hd2 : decide (3000 < (l2.length : Int)) = false := by simp; omega
  have hlen : l.length ≤ 3000 := by omega
  have hlen2 : l2.length ≤ 3000 := by omega
  obtain ⟨m, hm⟩ : ∃ m, m = l ++ l2 := ⟨_, rfl⟩
  have hmm : m.map byteV = l.map byteV ++ l2.map byteV := by rw [hm]; simp
  have hml : l.length + l2.length = m.length := by rw [hm]; simp
  have hml3 : m.length ≤ 6000 := by omega
  have HM := hid hm
  have HMM := hid hmm
  have HML := hid hml
  clear hm hmm hml
  go_enter Try.func6, Try.ntmps6
  go_wp2_with fail
  refine (make_any _).mono ?_
  rintro e w1 ⟨rfl, hb, ht⟩
  have hl1 := hl.below hb
  have hl21 := hl2.below hb
  go_wp2_with (first
    | (at_builtin
       refine wpList_app rfl (.tmp 18) (.tmp 19) _ rfl elB rfl (own_nil _ w1.heap.size 1 5) A l.length c rfl (l.map byteV) hl1 (by simp) (byte_one l) l.length (by omega) (l.map byteV) rfl (by unfold maxLen; omega) (by omega) (Nat.le_refl _) ?_
       intro A3 c3 w2 hown2 hg2 hat2 hb2
       have hl22 : SeesB w2 A2 l2 := hl21.below hb2)
    | (at_builtin
       refine wpList_app rfl (.tmp 20) (.tmp 21) _ rfl elB rfl hown2 A2 l2.length c2 rfl (l2.map byteV) hl22 (by simp) (byte_one l2) m.length HML.out (m.map byteV) HMM.out.symm (by unfold maxLen; omega) (by omega) hb2.size ?_
       intro A4 c4 w3 hown3 hg3 hat3 hb3))
  have hlen3 : m.length ≤ 140737488355328 := by omega
  have hbb : Below w1.heap.size w1 w3 := hb2.trans hb3
  have ht3 := ht.keep hbb ht.lt
  have hl3 := hl1.below hbb
  have hl23 := hl21.below hbb
  have hs3 : SeesB w3 A4 m := own_sees hown3
  refine (sum_any _ _ _ m _ ht3 hs3 hlen3).mono ?_
  rintro e w4 ⟨rfl, rfl⟩
  go_wp2_with fail
  refine (sum_any _ _ _ l _ ht3 hl3 (by omega)).mono ?_
  rintro e w4 ⟨rfl, rfl⟩
  have hra := sumI_range l
  have hrb := sumI_range l2
  go_wp2_with fail
  refine (next_any _ _ _ _ l2 _ ht3 hra.1 hra.2 hl23 (by omega)).mono ?_
  rintro e w4 ⟨rfl, rfl⟩
  rw [show nextI (sumI l) l2 = sumI m by rw [HM.out]; exact nextI_append 0 l l2 (by omega) (by omega)]
  go_wp2_with fail
  refine (sum_any _ _ _ l _ ht3 hl3 (by omega)).mono ?_
  rintro e w4 ⟨rfl, rfl⟩
  go_wp2_with fail
  refine (sum_any _ _ _ l2 _ ht3 hl23 (by omega)).mono ?_
  rintro e w4 ⟨rfl, rfl⟩
  go_wp2_with fail
  refine (join_any _ _ _ _ hra (by omega)).mono ?_
  rintro e w4 ⟨rfl, hb4⟩
  rw [Int.toNat_natCast, show bits .xor .u32 (stepsI (8 * l2.length) (sumI l)) (sumI l2) = sumI m by rw [HM.out]; exact joinI l l2]
  go_wp2_with fail
  refine (known_any _).mono ?_
  rintro e w5 ⟨rfl, hb5⟩
  go_wp2_with fail
  go_ret
  have hbc := hb.trans (hbb.mono hb.size)
  exact ⟨rfl, (hbc.trans (hb4.mono hbc.size)).trans (hb5.mono (Nat.le_trans hbc.size hb4.size))⟩
end Go.Proofs.Ytekagaafenglaaa.crcParts
