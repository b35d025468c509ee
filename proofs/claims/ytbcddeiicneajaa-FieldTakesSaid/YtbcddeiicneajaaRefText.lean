/- The reference's Text. -/
import Derived.Test.YtbcddeiicneajaaRefField3
namespace Go.Proofs.Ytbcddeiicneajaa
set_option linter.unusedVariables false
open Go.RowKit
def refText (b : List UInt8) (n : Int) : Int × List UInt8 := if (refU b.length n).1 ≠ 0 then ((refU b.length n).1, []) else (0, (refU b.length n).2 ++ b)
set_option maxHeartbeats 1000000 in
theorem rtext_any (s : ByteArray) (n : Int) (w : World) (hs : s.size ≤ 140737488355000) :
    Calls Try.prog 30 #[.string s, .int .i64 n] w (RefPost w (refText s.data.toList n)) := by
  have hsl : s.data.toList.length = s.size := by rw [Array.length_toList]; rfl
  unfold refText
  rw [hsl]
  have hU := hid (fun W => rU_any s.size n W (by omega))
  have hrl : (refU s.size n).2.length ≤ 8 := by
    unfold refU
    split
    · simp
    · split
      · simp
      · rw [bytesLE_length]; omega
  generalize refU s.size n = r at hU hrl
  obtain ⟨er, l⟩ := r
  simp only at hrl
  by_cases h0 : er = 0
  · subst h0
    rw [if_neg (by simp)]
    have hsz : s.size ≤ 9223372036854775807 := by omega
    go_enter Try.func30, Try.ntmps30
    go_wp2_with fail
    refine (hU.out w).mono ?_
    rintro e w1 ⟨v, rfl, A, c, rfl, ho, hb⟩
    go_wp2_with fail
    go_loopw [6, 8] (fun x i wr => ∃ k : Nat, k ≤ s.size ∧ i = .int .i64 k ∧ ∃ (m : List UInt8) (A' : Option Addr) (c' : Nat), m = l ++ s.data.toList.take k ∧ x = .slice A' m.length c' ∧ wr.ownsRow w.heap.size 5 1 (.slice A' m.length c') m.length (m.map byteV) ∧ Below w.heap.size w wr) (fun _ i _ => s.size - (intOf i).toNat)
    case atStart => exact ⟨0, by omega, rfl, l, A, c, by simp, rfl, ho, hb⟩
    case round =>
      obtain ⟨k, hk, rfl, m, A', c', hm, rfl, ho', hb'⟩ := hrel
      have hml : m.length ≤ 140737488355010 := by
        rw [hm, List.length_append, List.length_take]; omega
      by_cases hlt : k < s.size
      · obtain ⟨m2, hm2⟩ : ∃ m2, m2 = m ++ [s[k]] := ⟨_, rfl⟩
        have hmm : m2.map byteV = m.map byteV ++ [byteV s[k]] := by rw [hm2]; simp
        have hl2 : m.length + 1 = m2.length := by rw [hm2]; simp
        have hnext : m2 = l ++ s.data.toList.take (k + 1) := by
          rw [hm2, hm, List.append_assoc]
          congr 1
          rw [List.take_succ_eq_append_getElem (by simpa using hlt)]; rfl
        have HMM := hid hmm
        have HL2 := hid hl2
        have HN := hid hnext
        clear hmm hl2 hnext hm2 hm
        have hd : decide ((k : Int) < s.size) = true := by simp; omega
        have hb2 : Below wr.heap.size wr (wr.alloc (.cells #[byteV s[k]] 5)) := (Below.refl _ _).alloc (Nat.le_refl _) _
        go_wp2_with (at_builtin; refine wpList_app rfl (.tmp 26) (.tmp 30) _ rfl elB rfl (ho'.alloc _) (some ⟨wr.heap.size, 0, none⟩) 1 1 rfl [byteV s[k]] (Sees.of_alloc _ _ _ rfl) (by simp) (by simp [byteV, Value.oneCell']) m2.length HL2.out (m2.map byteV) HMM.out.symm (by have := HL2.out; unfold maxLen; omega) (by have := HL2.out; omega) (Nat.le_trans hb'.size hb2.size) ?_; intro A2 c2 w2 hown hgr hat hbel)
        exact ⟨⟨k + 1, by omega, by go_num, m2, A2, c2, HN.out, rfl, hown, (hb'.trans (hb2.mono hb'.size)).trans hbel⟩, by simp [intOf]; omega⟩
      · obtain rfl : k = s.size := by omega
        have hfin : m = l ++ s.data.toList := by rw [hm, ← hsl, List.take_length]
        have HF := hid hfin
        clear hfin hm
        go_wp2_with fail
        go_ret2
        refine ⟨_, rfl, ?_⟩
        show NewB w (l ++ s.data.toList) _ _
        rw [← HF.out]
        exact ⟨A', c', rfl, ho', hb'⟩
  · rw [if_pos h0]
    have d0 : (er != 0) = true := by simpa using h0
    go_enter Try.func30, Try.ntmps30
    go_wp2_with fail
    refine (hU.out w).mono ?_
    rintro e w1 ⟨v, rfl, A, c, rfl, ho, hb⟩
    go_wp2_with fail
    go_ret2
    exact ⟨_, rfl, none, 0, rfl, own_nil _ _ _ _, hb⟩
end Go.Proofs.Ytbcddeiicneajaa
