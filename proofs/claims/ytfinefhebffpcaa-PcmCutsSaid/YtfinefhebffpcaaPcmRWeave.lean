/- Sound woven: the reference's. -/
import Derived.Test.YtfinefhebffpcaaPcmWeave
namespace Go.Proofs.Ytfinefhebffpcaa
set_option linter.unusedVariables false
open Go.RowKit
set_option maxRecDepth 20000 in
set_option maxHeartbeats 4000000 in
theorem rweave_bad (ch bi ra : Int) (A : Option Addr) (c : Nat) (L : List Chan) (w : World) (h : SeesL w A L) (hlen : L.length ≤ maxLen) (h0 : checkV ch bi ra L ≠ 0) :
    Calls Try.prog 17 #[.agg #[.int .i64 ch, .int .i64 bi, .int .i64 ra, .slice A L.length c]] w fun e w' => e = .returned (.tuple #[.slice none 0 0, .int .i64 (checkV ch bi ra L)]) ∧ Below w.heap.size w w' := by
  have hb := below_box w ch bi ra A L.length c
  have hc := rcheck_any ch bi ra A c L _ (h.below hb) hlen
  generalize checkV ch bi ra L = r at *
  have d0 : (r != 0) = true := by simpa using h0
  have d1 : decide (r = 0) = false := decide_eq_false h0
  go_enter Try.func17, Try.ntmps17
  go_wp2_with fail
  refine hc.mono ?_
  rintro e w1 ⟨rfl, hb1⟩
  go_wp2_with fail
  go_ret2
  exact ⟨rfl, hb.trans (hb1.mono hb.size)⟩
set_option maxRecDepth 20000 in
set_option maxHeartbeats 4000000 in
theorem rweave_ok (ch bi ra : Int) (A : Option Addr) (c : Nat) (L : List Chan) (w : World) (h : SeesL w A L) (hlen : L.length ≤ maxLen) (h0 : checkV ch bi ra L = 0) :
    Calls Try.prog 17 #[.agg #[.int .i64 ch, .int .i64 bi, .int .i64 ra, .slice A L.length c]] w fun e w' => ∃ v, e = .returned (.tuple #[v, .int .i64 0]) ∧ NewI w (weaveTo L (countL L)) v w' := by
  obtain ⟨hr, hch, hC, hall⟩ := check_ok h0
  have hr2 := hr
  unfold rightF at hr2
  have hr2 := of_decide_eq_true hr2
  have hL8 : L.length ≤ 8 := by omega
  subst hch
  have hb := below_box w L.length bi ra A L.length c
  have hs := SndAt.new w L.length bi ra A L.length c
  have h1 := h.below hb
  have hcl := rcheck_any L.length bi ra A c L _ h1 hlen
  rw [h0] at hcl
  have HC := hid (fun W hW => rcount_any L.length bi ra A c L W hW)
  have HALL := hid (fun x hx => (hall x hx).1)
  have hWL := fun k => weaveTo_len L k
  have HWL := hid hWL
  clear hr hr2 h hlen h0 hall hWL
  obtain ⟨C, hCC⟩ : ∃ C, C = countL L := ⟨_, rfl⟩
  rw [← hCC] at HC HALL hC ⊢
  clear hCC
  obtain ⟨M, hM⟩ : ∃ M, M = C * L.length := ⟨_, rfl⟩
  have hM2 : (C : Int) * (L.length : Int) = (M : Int) := by rw [hM]; simp
  have hM3 : M ≤ 34359738360 := by
    rw [hM]
    calc C * L.length ≤ 4294967295 * 8 := Nat.mul_le_mul hC hL8
      _ = 34359738360 := rfl
  have HM := hid hM
  have HM2 := hid hM2
  clear hM hM2
  go_enter Try.func17, Try.ntmps17
  go_wp2_with fail
  refine hcl.mono ?_
  rintro e w1 ⟨rfl, hb1⟩
  have hbw1 := hb.trans (hb1.mono hb.size)
  have hs1 := hs.below hb1
  have hl1 := h1.below hb1
  clear hb hb1 hs h1 hcl
  go_wp2_with fail
  go_loopw [5, 6] (fun v i wr => ∃ k N : Nat, k ≤ C ∧ i = .int .i64 (k : Int) ∧ Hid (N = k * L.length) ∧ ∃ (A' : Option Addr) (c' : Nat), v = .slice A' N c' ∧ wr.ownsRow w1.heap.size 3 1 (.slice A' N c') N ((weaveTo L k).map intV) ∧ Below w1.heap.size w1 wr) (fun _ i _ => C - (intOf i).toNat)
  case atStart => exact ⟨0, 0, by omega, rfl, hid (by simp), none, 0, rfl, own_nil _ _ _ _, Below.refl _ _⟩
  case round =>
    obtain ⟨k, N, hk, rfl, hN, A', c', rfl, ho, hb⟩ := hrel
    have hsr := hs1.below hb
    obtain ⟨s0, s1, s2, s3⟩ := hsr
    by_cases hlt : k < C
    · have dk : decide ((k : Int) < (C : Int)) = true := decide_eq_true (by omega)
      have hNM : N + L.length ≤ M := by
        have : (k + 1) * L.length ≤ C * L.length := Nat.mul_le_mul_right _ hlt
        rw [Nat.add_mul] at this
        rw [hN.out, HM.out]; omega
      go_wp2_with fail
      refine (HC.out _ (hl1.below hb)).mono ?_
      rintro e w3 ⟨rfl, hb3⟩
      have ho3 := own_keep' ho hb3
      have hb13 := hb.trans (hb3.mono hb.size)
      clear s0 s1 s2 s3 ho hb hb3
      go_wp2_with fail
      go_loopw [5, 7] (fun v i wq => ∃ j Q : Nat, j ≤ L.length ∧ i = .int .i64 (j : Int) ∧ Hid (Q = N + j) ∧ ∃ (A' : Option Addr) (c' : Nat), v = .slice A' Q c' ∧ wq.ownsRow w1.heap.size 3 1 (.slice A' Q c') Q ((weaveTo L k ++ (frameL L k).take j).map intV) ∧ Below w1.heap.size w1 wq) (fun _ i _ => L.length - (intOf i).toNat)
      case atStart => exact ⟨0, N, by omega, rfl, hid rfl, A', c', rfl, by simpa using ho3, hb13⟩
      case round =>
        obtain ⟨j, Q, hj, rfl, hQ, A2, c2, rfl, ho2, hb2⟩ := hrel
        have hsq := hs1.below hb2
        obtain ⟨s0, s1, s2, s3⟩ := hsq
        by_cases hlj : j < L.length
        · have dj : decide ((j : Int) < (L.length : Int)) = true := decide_eq_true (by omega)
          have hlw := hl1.below hb2
          obtain ⟨a, hAa, hc⟩ := hlw.at hlj
          obtain ⟨hx1, hx2⟩ := hlw.2 L[j] (List.getElem_mem hlj)
          have hxl := HALL.out L[j] (List.getElem_mem hlj)
          have hfr : (frameL L k).take (j + 1) = (frameL L k).take j ++ [L[j].l.getD k 0] := by
            unfold frameL
            rw [List.take_succ_eq_append_getElem (by rw [List.length_map]; exact hlj), List.getElem_map]
          generalize L[j] = x at *
          have hkx : k < x.l.length := by omega
          obtain ⟨b, hAb, hd⟩ := hx1.at hkx
          have hgd : x.l.getD k 0 = x.l[k] := by simp [List.getD, hkx]
          rw [hgd] at hfr
          generalize x.l[k] = y at *
          have hc' : wr.cell? (a.add j) = some (.slice x.A x.l.length x.c) := hc
          rw [hAb] at hc'
          have hys : ((weaveTo L k ++ (frameL L k).take j).map intV) ++ [intV y] = (weaveTo L k ++ (frameL L k).take (j + 1)).map intV := by rw [hfr]; simp
          have HYS := hid hys
          have HFR := hid hfr
          have hQ2 : Q + 1 ≤ M := by rw [hQ.out]; omega
          have hk2 : decide ((k : Int) < (x.l.length : Int)) = true := decide_eq_true (by omega)
          have hba : Below w1.heap.size w1 (wr.alloc (.cells #[.int .i64 y] 3)) := hb2.alloc hb2.size _
          subst hAa
          clear hc hfr hys hgd hx1 hlw
          go_wp2_with (at_builtin; refine wpList_app rfl (.tmp 26) (.tmp 35) _ rfl elI rfl (ho2.alloc _) (some ⟨wr.heap.size, 0, none⟩) 1 1 rfl [intV y] (Sees.of_alloc _ _ _ rfl) (by simp) (by simp [intV, Value.oneCell']) (Q + 1) rfl _ HYS.out (by unfold maxLen; omega) (by omega) hba.size ?_; intro A3 c3 w5 hown hgr hat hbel)
          exact ⟨⟨j + 1, Q + 1, by omega, by go_num, hid (by have := hQ.out; omega), A3, c3, rfl, hown, hba.trans hbel⟩, by simp [intOf]; omega⟩
        · obtain rfl : j = L.length := by omega
          have dj : decide ((L.length : Int) < (L.length : Int)) = false := decide_eq_false (by omega)
          have hfl : (frameL L k).take L.length = frameL L k := by
            rw [List.take_of_length_le (by unfold frameL; simp)]
          rw [hfl, ← weaveTo_succ] at ho2
          clear hfl
          go_wp2_with fail
          exact ⟨⟨k + 1, Q, by omega, by go_num, hid (by rw [hQ.out, hN.out, Nat.add_mul]; omega), A2, c2, rfl, ho2, hb2⟩, by simp [intOf]; omega⟩
    · obtain rfl : k = C := by omega
      have dk : decide ((k : Int) < (k : Int)) = false := decide_eq_false (by omega)
      have hNl : N = (weaveTo L k).length := by rw [hN.out, HWL.out]
      have ho' := ho
      go_wp2_with fail
      refine (HC.out _ (hl1.below hb)).mono ?_
      rintro e w3 ⟨rfl, hb3⟩
      have ho3 := own_keep' ho' hb3
      have hb13 := hb.trans (hb3.mono hb.size)
      have hf : ∃ v, (Ending.returned (.tuple #[.slice A' N c', .int .i64 0])) = .returned (.tuple #[v, .int .i64 0]) ∧ NewI w (weaveTo L k) v w3 := ⟨_, rfl, A', c', by rw [← hNl], by rw [← hNl]; exact Joins.ownsRow_le ho3 hbw1.size, hbw1.trans (hb13.mono hbw1.size)⟩
      clear hNl s0 s1 s2 s3 ho ho' ho3 hb hb3 hb13
      go_wp2_with fail
      go_ret2
      exact hf
end Go.Proofs.Ytfinefhebffpcaa
