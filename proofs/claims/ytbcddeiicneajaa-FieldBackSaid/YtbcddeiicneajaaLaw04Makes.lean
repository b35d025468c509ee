/- The walk of FieldMakes. -/
import Derived.Test.YtbcddeiicneajaaLaw04Known
import Derived.Test.YtbcddeiicneajaaLaw04Few
import Derived.Test.YtbcddeiicneajaaFieldOwn
namespace Go.Proofs.Ytbcddeiicneajaa.fieldMakes
set_option linter.unusedVariables false
open Go.RowKit
/-- what a call lays -/
def res (d : Deed) : Int × List UInt8 := actR d.k d.v d.n d.s.data.toList
def laid (l : List Deed) : Int × List UInt8 := l.foldl (fun s d => lay s (res d)) (0, [])
theorem laid_snoc (l : List Deed) (d : Deed) : laid (l ++ [d]) = lay (laid l) (res d) := by simp [laid]
theorem laid_step (l : List Deed) (k : Nat) (h : k < l.length) : laid (l.take (k + 1)) = lay (laid (l.take k)) (res l[k]) := by rw [List.take_succ_eq_append_getElem h, laid_snoc]
theorem bytesLE_len8 (v : Nat) (n : Int) (h : ¬ (n < 1 ∨ 8 < n)) : (bytesLE v n.toNat).length ≤ 8 := by rw [bytesLE_length]; omega
theorem refU_len (v : Nat) (n : Int) : (refU v n).2.length ≤ 8 := by
  unfold refU
  split
  · simp
  · rename_i h
    split
    · simp
    · exact bytesLE_len8 v n h
theorem refI_len (v n : Int) : (refI v n).2.length ≤ 8 := by
  unfold refI
  split
  · simp
  · rename_i h
    repeat' split
    all_goals first
      | exact bytesLE_len8 _ n h
      | (rw [bytesLE_length]; omega)
      | simp
theorem res_len (d : Deed) : (res d).2.length ≤ d.s.size + 8 := by
  unfold res actR
  split
  · have := refU_len d.v d.n; omega
  split
  · have := refI_len (IntKind.i64.wrap d.v) d.n; omega
  split
  · simp
  split
  · unfold refText
    have := refU_len d.s.data.toList.length d.n
    have e : d.s.data.toList.length = d.s.size := by rw [Array.length_toList]; rfl
    split
    · simp
    · rw [List.length_append, e]; rw [e] at this; omega
  · simp
theorem lay_len (s r : Int × List UInt8) : (lay s r).2.length ≤ s.2.length + r.2.length := by
  unfold lay; split
  · omega
  · simp
theorem laid_len (l : List Deed) (h : ∀ x ∈ l, x.s.size ≤ 300) (k : Nat) (hk : k ≤ l.length) : (laid (l.take k)).2.length ≤ 308 * k := by
  induction k with
  | zero => simp [laid]
  | succ k ih =>
    rw [laid_step l k hk]
    have h1 := ih (by omega)
    have h2 := lay_len (laid (l.take k)) (res l[k])
    have h3 := res_len l[k]
    have h4 := h l[k] (List.getElem_mem _)
    omega
theorem lay_ok {s r : Int × List UInt8} (h : s.1 = 0) : lay s r = (r.1, s.2 ++ r.2) := by unfold lay; rw [if_neg (by simp [h])]
theorem lay_late {s r : Int × List UInt8} (h : s.1 ≠ 0) : lay s r = s := by unfold lay; rw [if_pos h]
set_option maxHeartbeats 2000000 in
theorem walk (A : Option Addr) (c : Nat) (l : List Deed) (w : World) (hb : SeesA w A l ∧ l.length ≤ c ∧ c ≤ maxLen ∧ ∀ x ∈ l, x.fine) :
    Calls Try.prog 3 #[.slice A l.length c] w fun e w' => e = .returned (.bool true) ∧ Below w.heap.size w w' := by
  obtain ⟨hl, hc1, hc2, hfine⟩ := hb
  have hfew := hid (few_any A c l w hl ⟨hc1, hc2⟩)
  clear hc1 hc2
  go_enter Try.func3, Try.ntmps3
  go_wp2_with fail
  refine hfew.out.mono ?_
  rintro e w1 ⟨b, rfl, rfl, hbt⟩
  cases b with
  | false =>
    go_wp2_with fail
    refine (known_any _).mono ?_
    rintro e w2 ⟨rfl, hb2⟩
    go_wp2_with fail
    go_ret
    exact ⟨rfl, hb2⟩
  | true =>
  obtain ⟨hlen, hsz⟩ := hbt rfl
  have hm0 := mk_new w
  have hb0 : Below w.heap.size w (w.alloc (.cells #[.int .i64 0, .slice none 0 0] 31)) := (Below.refl _ w).alloc (Nat.le_refl _) _
  have hB0 : Both (w.alloc (.cells #[.int .i64 0, .slice none 0 0] 31)) w.heap.size w.heap.size (fun b => b = w.heap.size) 0 [] 5 (.slice none 0 0) 0 [] :=
    ⟨hm0, own_nil _ _ _ _, fun k hk => by simp [Value.ownBlock] at hk, fun k hk => Nat.le_of_eq hk.symm⟩
  clear hfew
  go_wp2_with fail
  generalize w.alloc (.cells #[.int .i64 0, .slice none 0 0] 31) = w0 at *
  go_loopw [4, 5, 6, 7, 8, 9, 10] (fun b f i x8 x9 x10 x11 wr => ∃ k : Nat, k ≤ l.length ∧ i = .int .i64 k ∧ f = .int .i64 (laid (l.take k)).1 ∧ ∃ (R : Nat → Prop), Both wr w.heap.size w.heap.size R (laid (l.take k)).1 (laid (l.take k)).2 5 b (laid (l.take k)).2.length ((laid (l.take k)).2.map byteV) ∧ Below w.heap.size w wr) (fun _ _ i _ _ _ _ _ => l.length - (intOf i).toNat)
  case atStart => exact ⟨0, by omega, rfl, rfl, _, hB0, hb0⟩
  case round =>
    obtain ⟨k, hk, rfl, rfl, R, hBo, hbw⟩ := hrel
    have hll := laid_len l hsz k hk
    by_cases hlt : k < l.length
    · have hd : decide (k < l.length) = true := by simp; omega
      have hlw := hl.below hbw
      obtain ⟨a, rfl, g0, g1, g2, g3⟩ := hlw.at hlt
      have hst := laid_step l k hlt
      have hl2 := laid_len l hsz (k + 1) hlt
      have hsk := hsz l[k] (List.getElem_mem _)
      have hrl := res_len l[k]
      have hdo := hid (do_any w.heap.size R (laid (l.take k)).1 (laid (l.take k)).2 l[k].k l[k].v l[k].n l[k].s wr hBo.1 (hfine _ (List.getElem_mem _)) (by omega))
      obtain ⟨s2, hS2⟩ : ∃ s2, laid (l.take (k + 1)) = s2 := ⟨_, rfl⟩
      rw [hS2] at hst hl2
      have HS := hid hS2
      clear hS2
      generalize laid (l.take k) = s at *
      obtain ⟨e1, bs⟩ := s
      go_wp2_with fail
      refine hdo.out.mono ?_
      rintro e w2 ⟨A2, c2, rfl, hs2, R2, hm2, hB2, hR2⟩
      rw [show actR l[k].k l[k].v l[k].n l[k].s.data.toList = res l[k] from rfl] at hm2 hs2 ⊢
      rw [← hst] at hm2
      clear hdo g0 g1 g2 g3 hlw
      generalize res l[k] = r at *
      obtain ⟨e2, xs⟩ := r
      have hBo1 := hBo.made hm2 hB2 hR2 hbw.size
      have hbw1 := But.below hbw hB2 hBo.2.2.2 hbw.size
      clear hBo hm2 hB2 hbw
      by_cases h0 : e1 = 0
      · subst h0
        rw [lay_ok rfl] at hst
        subst hst
        obtain ⟨ys, hys⟩ : ∃ ys, ys = bs ++ xs := ⟨_, rfl⟩
        have hyl : bs.length + xs.length = ys.length := by rw [hys, List.length_append]
        have hyv : bs.map byteV ++ xs.map byteV = ys.map byteV := by rw [hys, List.map_append]
        simp only [← hys] at hBo1 hl2 HS
        have HY := hid hyv
        clear hys hyv
        go_wp2_with (at_builtin; refine wpList_app rfl (.tmp 35) (.tmp 36) _ rfl elB rfl hBo1.2.1 A2 xs.length c2 rfl (xs.map byteV) hs2 (by simp) (byte_one xs) ys.length hyl (ys.map byteV) HY.out (by unfold maxLen; omega) (by omega) hbw1.size ?_; intro A3 c3 w3 hown hgr hat hbel)
        have hBo2 := hBo1.app hown hgr hat hbel
        have hbw2 := hbw1.trans hbel
        have hs3 : SeesB w3 A3 ys := own_sees hown
        clear hBo1 hgr hat hown hs2 HY
        by_cases he : e2 = 0
        · subst he
          refine (bytes_ok w.heap.size R2 ys w3 hBo2.1 (by omega)).mono ?_
          rintro e w4 ⟨v, rfl, hv⟩
          obtain ⟨A4, c4, rfl, hs4, hA4, ho4, hb4⟩ := hv.parts
          have hBo3 := hBo2.made (hBo2.1.below hb4) (But.of_below (R := R2) hb4) (fun b h => .inl h) hbw2.size
          have hbw3 := hbw2.trans (hb4.mono hbw2.size)
          have hcv1 := conv_bs A4 c4 ys w4 hs4
          have hcv2 := conv_bs A3 c3 ys w4 (hs3.below hb4)
          have hln := len_any w.heap.size R2 0 ys w4 hBo3.1
          rw [if_pos rfl] at hln
          clear hBo2 hv hbw2
          go_wp2_with fail
          refine hln.mono ?_
          rintro e w5 ⟨rfl, rfl⟩
          go_wp2_with fail
          exact ⟨⟨k + 1, hlt, by go_num, by rw [HS.out], R2, by rw [HS.out]; exact hBo3, hbw3⟩, by simp [intOf]; omega⟩
        · have d1 : (e2 != e2) = false := by simp
          have d2 : (e2 == 0) = false := by simpa using he
          have d3 : (e2 != 0) = true := by simpa using he
          refine (bytes_bad w.heap.size R2 e2 ys w3 hBo2.1 he).mono ?_
          rintro e w4 ⟨rfl, hb4⟩
          have hBo3 := hBo2.made (hBo2.1.below hb4) (But.of_below (R := R2) hb4) (fun b h => .inl h) hbw2.size
          have hbw3 := hbw2.trans (hb4.mono hbw2.size)
          have hln := len_any w.heap.size R2 e2 ys w4 hBo3.1
          rw [if_neg he] at hln
          clear hBo2 hbw2
          go_wp2_with fail
          refine hln.mono ?_
          rintro e w5 ⟨rfl, rfl⟩
          go_wp2_with fail
          exact ⟨⟨k + 1, hlt, by go_num, by rw [HS.out], R2, by rw [HS.out]; exact hBo3, hbw3⟩, by simp [intOf]; omega⟩
      · rw [lay_late h0] at hst
        subst hst
        have d0 : (e1 == 0) = false := by simpa using h0
        have d1 : (e1 != e1) = false := by simp
        have d3 : (e1 != 0) = true := by simpa using h0
        go_wp2_with fail
        refine (bytes_bad w.heap.size R2 e1 bs w2 hBo1.1 h0).mono ?_
        rintro e w4 ⟨rfl, hb4⟩
        have hBo3 := hBo1.made (hBo1.1.below hb4) (But.of_below (R := R2) hb4) (fun b h => .inl h) hbw1.size
        have hbw3 := hbw1.trans (hb4.mono hbw1.size)
        have hln := len_any w.heap.size R2 e1 bs w4 hBo3.1
        rw [if_neg h0] at hln
        clear hBo1 hbw1
        go_wp2_with fail
        refine hln.mono ?_
        rintro e w5 ⟨rfl, rfl⟩
        go_wp2_with fail
        exact ⟨⟨k + 1, hlt, by go_num, by rw [HS.out], R2, by rw [HS.out]; exact hBo3, hbw3⟩, by simp [intOf]; omega⟩
    · obtain rfl : k = l.length := by omega
      have hd : decide (l.length < l.length) = false := by simp
      go_wp2_with fail
      refine (known_any _).mono ?_
      rintro e w4 ⟨rfl, hb6⟩
      go_wp2_with fail
      go_ret
      exact ⟨rfl, hbw.trans (hb6.mono hbw.size)⟩
end Go.Proofs.Ytbcddeiicneajaa.fieldMakes
