/- Sound woven: the program's. -/
import Derived.Test.YtfinefhebffpcaaPcmRCheck
import Derived.Lib.SmallJoins
namespace Go.Proofs.Ytfinefhebffpcaa
set_option linter.unusedVariables false
open Go.RowKit
theorem mkI_info : (Try.prog.info? 3).map (fun i => (i.zero, i.size, i.bytes)) = some (some (.int .i64 0), 1, 8) := by kernel_rfl
theorem mkI_0 (n : Nat) (hn : n ≤ 17592186044416) (w : World) : (Instr.makeSlice 34 (.int .i64 0) (.int .i64 (n : Int))).run Try.prog w =
    .ok (.slice (some ⟨w.heap.size, 0, none⟩) 0 n) (w.alloc (.cells (madeCells #[.int .i64 0] n) 3)) := by
  obtain ⟨i, h0, h1, h2, h3⟩ := info_parts mkI_info
  have hr := run_make (P := Try.prog) w 34 3 i (.int .i64 0) Try.underlying34 h0 h1 .i64 .i64 0 n (by omega) (by omega) (by rw [h3]; omega) (by omega)
  simp only [Int.toNat_natCast, h2, Nat.mul_one] at hr
  exact hr
theorem ownI_0 (n : Nat) (hn : n ≤ 17592186044416) (w : World) : (w.alloc (.cells (madeCells #[.int .i64 0] n) 3)).ownsRow w.heap.size 3 1 (.slice (some ⟨w.heap.size, 0, none⟩) 0 n) 0 [] :=
  ⟨by simp, .inr ⟨w.heap.size, n, _, rfl, Nat.le_refl _, heap_alloc_new _ _, Nat.zero_le _, by unfold maxLen; omega, by simp [size_madeCells], by simp⟩⟩
theorem own_keep' {w w' : World} {base : Nat} {e : TypeId} {size : Nat} {v : Value} {n : Nat} {xs : List Value} (h : w.ownsRow base e size v n xs) (hb : Below w.heap.size w w') : w'.ownsRow base e size v n xs := by
  refine ⟨h.1, ?_⟩
  rcases h.2 with h' | ⟨g, cap, cur, hv, hbg, hg, rest⟩
  · exact .inl h'
  · exact .inr ⟨g, cap, cur, hv, hbg, (hb.block g (Array.getElem?_eq_some_iff.1 hg).1).trans hg, rest⟩
def NewI (w : World) (l : List Int) (v : Value) (w' : World) : Prop :=
  ∃ (A : Option Addr) (c : Nat), v = .slice A l.length c ∧ w'.ownsRow w.heap.size 3 1 (.slice A l.length c) l.length (l.map intV) ∧ Below w.heap.size w w'
/-- the samples of one frame, and of so many -/
def frameL (L : List Chan) (i : Nat) : List Int := L.map fun x => x.l.getD i 0
def weaveTo (L : List Chan) (k : Nat) : List Int := (List.range k).flatMap fun i => frameL L i
theorem weaveTo_succ (L : List Chan) (k : Nat) : weaveTo L (k + 1) = weaveTo L k ++ frameL L k := by
  unfold weaveTo
  rw [List.range_succ, List.flatMap_append]
  simp
theorem weaveTo_len (L : List Chan) : ∀ k, (weaveTo L k).length = k * L.length
  | 0 => by simp [weaveTo]
  | k + 1 => by rw [weaveTo_succ, List.length_append, weaveTo_len L k, frameL, List.length_map, Nat.add_mul]; omega
def WeavePost (w : World) (e : Ending) (L : List Chan) (r : Int) (w' : World) : Prop := if r = 0 then ∃ v, e = .returned (.tuple #[v, .int .i64 0]) ∧ NewI w (weaveTo L (countL L)) v w' else e = .returned (.tuple #[.slice none 0 0, .int .i64 r]) ∧ Below w.heap.size w w'
/-- what right sound is -/
theorem check_ok {ch bi ra : Int} {L : List Chan} (h : checkV ch bi ra L = 0) : rightF ch bi ra = true ∧ (L.length : Int) = ch ∧ countL L ≤ 4294967295 ∧ ∀ x ∈ L, x.l.length = countL L ∧ loudI bi.toNat x.l = false := by
  unfold checkV at h
  cases hr : rightF ch bi ra with
  | false => rw [hr] at h; simp at h
  | true =>
    rw [hr, if_neg (by simp)] at h
    by_cases h1 : (L.length : Int) ≠ ch ∨ 4294967295 < countL L
    · rw [if_pos h1] at h; simp at h
    · rw [if_neg h1] at h
      by_cases h2 : (L.any fun x => x.l.length != countL L) = true
      · rw [if_pos h2] at h; simp at h
      · rw [if_neg h2] at h
        by_cases h3 : (L.any fun x => loudI bi.toNat x.l) = true
        · rw [if_pos h3] at h; simp at h
        · refine ⟨rfl, by omega, by omega, fun x hx => ⟨?_, ?_⟩⟩
          · have := fun h => h2 (List.any_eq_true.2 ⟨x, hx, h⟩)
            simpa using this
          · have := fun h => h3 (List.any_eq_true.2 ⟨x, hx, h⟩)
            simpa using this
set_option maxRecDepth 20000 in
set_option maxHeartbeats 4000000 in
theorem weave_bad (ch bi ra : Int) (A : Option Addr) (c : Nat) (L : List Chan) (w : World) (h : SeesL w A L) (hlen : L.length ≤ maxLen) (h0 : checkV ch bi ra L ≠ 0) :
    Calls Try.prog 16 #[.agg #[.int .i64 ch, .int .i64 bi, .int .i64 ra, .slice A L.length c]] w fun e w' => e = .returned (.tuple #[.slice none 0 0, .int .i64 (checkV ch bi ra L)]) ∧ Below w.heap.size w w' := by
  have hb := below_box w ch bi ra A L.length c
  have hc := check_any ch bi ra A c L _ (h.below hb) hlen
  generalize checkV ch bi ra L = r at *
  have d0 : (r != 0) = true := by simpa using h0
  have d1 : decide (r = 0) = false := decide_eq_false h0
  go_enter Try.func16, Try.ntmps16
  go_wp2_with fail
  refine hc.mono ?_
  rintro e w1 ⟨rfl, hb1⟩
  go_wp2_with fail
  go_ret2
  exact ⟨rfl, hb.trans (hb1.mono hb.size)⟩
set_option maxRecDepth 20000 in
set_option maxHeartbeats 4000000 in
theorem weave_ok (ch bi ra : Int) (A : Option Addr) (c : Nat) (L : List Chan) (w : World) (h : SeesL w A L) (hlen : L.length ≤ maxLen) (h0 : checkV ch bi ra L = 0) :
    Calls Try.prog 16 #[.agg #[.int .i64 ch, .int .i64 bi, .int .i64 ra, .slice A L.length c]] w fun e w' => ∃ v, e = .returned (.tuple #[v, .int .i64 0]) ∧ NewI w (weaveTo L (countL L)) v w' := by
  obtain ⟨hr, hch, hC, hall⟩ := check_ok h0
  have hr2 := hr
  unfold rightF at hr2
  have hr2 := of_decide_eq_true hr2
  have hL8 : L.length ≤ 8 := by omega
  subst hch
  have hb := below_box w L.length bi ra A L.length c
  have hs := SndAt.new w L.length bi ra A L.length c
  have h1 := h.below hb
  have hcl := check_any L.length bi ra A c L _ h1 hlen
  rw [h0] at hcl
  have HC := hid (fun W hW => count_any L.length bi ra A c L W hW)
  have HALL := hid (fun x hx => (hall x hx).1)
  have hWL := fun k => weaveTo_len L k
  have HWL := hid hWL
  clear hr hr2 h hlen h0 hall hWL
  obtain ⟨C, hCC⟩ : ∃ C, C = countL L := ⟨_, rfl⟩
  rw [← hCC] at HC HALL hC ⊢
  clear hCC
  obtain ⟨M, hM⟩ : ∃ M, M = C * L.length := ⟨_, rfl⟩
  have hM2 : (C : Int) * (L.length : Int) = (M : Int) := by rw [hM]; simp
  have hM3 : M ≤ 34359738360 := by
    rw [hM]
    calc C * L.length ≤ 4294967295 * 8 := Nat.mul_le_mul hC hL8
      _ = 34359738360 := rfl
  have hmk := fun W => mkI_0 M (by omega) W
  have HM := hid hM
  have HM2 := hid hM2
  have hz1 : wrap64 ((C : Int) * (L.length : Int)) = (M : Int) := by rw [hM2]; unfold wrap64; omega
  have hz2 : IntKind.i64.wrap ((C : Int) * (L.length : Int)) = (M : Int) := by rw [hM2, IntKind.wrap_i64]; omega
  clear hM hM2
  go_enter Try.func16, Try.ntmps16
  go_wp2_with fail
  refine hcl.mono ?_
  rintro e w1 ⟨rfl, hb1⟩
  have hbw1 := hb.trans (hb1.mono hb.size)
  have hs1 := hs.below hb1
  have hl1 := h1.below hb1
  clear hb hb1 hs h1 hcl
  obtain ⟨s0, s1, s2, s3⟩ := hs1
  go_wp2_with fail
  go_region_held3 (fun w' => w'.cell? ⟨w.heap.size, 0, none⟩ = some (.int .i64 (L.length : Int)) ∧ w'.cell? ⟨w.heap.size, 1, none⟩ = some (.int .i64 bi) ∧ w'.cell? ⟨w.heap.size, 2, none⟩ = some (.int .i64 ra) ∧ w'.cell? ⟨w.heap.size, 3, none⟩ = some (.slice A L.length c)) (first | exact ⟨s0, s1, s2, s3⟩ | exact ⟨f0, f1, f2, f3⟩ | go_keep)
    (first | (go_at_call 14; refine (HC.out _ ?_).mono ?_; exact hl1; rintro e w2 ⟨rfl, hb2⟩; have f0 := keep1 hb2 s0; have f1 := keep1 hb2 s1; have f2 := keep1 hb2 s2; have f3 := keep1 hb2 s3))
  have hb2' : Below w1.heap.size w1 w2 := undrew hb2
  have hl2 := hl1.below hb2'
  have hbw2 := hbw1.trans (hb2'.mono hbw1.size)
  have own3 := ownI_0 M (by omega) w2
  have hb3 : Below w2.heap.size w2 (w2.alloc (.cells (madeCells #[.int .i64 0] M) 3)) := (Below.refl _ _).alloc (Nat.le_refl _) _
  generalize w2.alloc (.cells (madeCells #[.int .i64 0] M) 3) = w3 at *
  have g0 := keep1 hb3 f0
  have g1 := keep1 hb3 f1
  have g2 := keep1 hb3 f2
  have g3 := keep1 hb3 f3
  clear hb2 hb2' s0 s1 s2 s3 hl1 hbw1 hmk hz1 hz2 hr2
  go_wp2_with fail
  refine (HC.out _ (hl2.below hb3)).mono ?_
  rintro e w4 ⟨rfl, hb4⟩
  have hb24 : Below w2.heap.size w2 w4 := hb3.trans (hb4.mono hb3.size)
  have own4 := own_keep' own3 hb4
  clear own3 g0 g1 g2 g3 hb3 hb4
  go_wp2_with fail
  go_loopw [5, 23] (fun v i wr => ∃ k N : Nat, k ≤ C ∧ i = .int .i64 (k : Int) ∧ Hid (N = k * L.length) ∧ ∃ (A' : Option Addr) (c' : Nat), v = .slice A' N c' ∧ wr.ownsRow w2.heap.size 3 1 (.slice A' N c') N ((weaveTo L k).map intV) ∧ Below w2.heap.size w2 wr) (fun _ i _ => C - (intOf i).toNat)
  case atStart => exact ⟨0, 0, by omega, rfl, hid (by simp), _, _, rfl, own4, hb24⟩
  case round =>
    obtain ⟨k, N, hk, rfl, hN, A', c', rfl, ho, hb⟩ := hrel
    by_cases hlt : k < C
    · have dk : decide ((k : Int) < (C : Int)) = true := decide_eq_true (by omega)
      have g3 := keep1 hb f3
      have hNM : N + L.length ≤ M := by
        have : (k + 1) * L.length ≤ C * L.length := Nat.mul_le_mul_right _ hlt
        rw [Nat.add_mul] at this
        rw [hN.out, HM.out]; omega
      go_wp2_with fail
      clear g3
      go_loopw [5, 29] (fun v i wq => ∃ j Q : Nat, j ≤ L.length ∧ i = .int .i64 (j : Int) ∧ Hid (Q = N + j) ∧ ∃ (A' : Option Addr) (c' : Nat), v = .slice A' Q c' ∧ wq.ownsRow w2.heap.size 3 1 (.slice A' Q c') Q ((weaveTo L k ++ (frameL L k).take j).map intV) ∧ Below w2.heap.size w2 wq) (fun _ i _ => L.length - (intOf i).toNat)
      case atStart => exact ⟨0, N, by omega, rfl, hid rfl, A', c', rfl, by simpa using ho, hb⟩
      case round =>
        obtain ⟨j, Q, hj, rfl, hQ, A2, c2, rfl, ho2, hb2⟩ := hrel
        by_cases hlj : j < L.length
        · have dj : decide ((j : Int) < (L.length : Int)) = true := decide_eq_true (by omega)
          have hlw := hl2.below hb2
          obtain ⟨a, hAa, hc⟩ := hlw.at hlj
          obtain ⟨hx1, hx2⟩ := hlw.2 L[j] (List.getElem_mem hlj)
          have hxl := HALL.out L[j] (List.getElem_mem hlj)
          have hfr : (frameL L k).take (j + 1) = (frameL L k).take j ++ [L[j].l.getD k 0] := by
            unfold frameL
            rw [List.take_succ_eq_append_getElem (by rw [List.length_map]; exact hlj), List.getElem_map]
          generalize L[j] = x at *
          have hkx : k < x.l.length := by omega
          obtain ⟨b, hAb, hd⟩ := hx1.at hkx
          have hgd : x.l.getD k 0 = x.l[k] := by simp [List.getD, hkx]
          rw [hgd] at hfr
          generalize x.l[k] = y at *
          have hc' : wr.cell? (a.add j) = some (.slice x.A x.l.length x.c) := hc
          rw [hAb] at hc'
          have hys : ((weaveTo L k ++ (frameL L k).take j).map intV) ++ [intV y] = (weaveTo L k ++ (frameL L k).take (j + 1)).map intV := by rw [hfr]; simp
          have HYS := hid hys
          have HFR := hid hfr
          have hg3 := keep1 hb2 f3
          have hQ2 : Q + 1 ≤ M := by rw [hQ.out]; omega
          have hk2 : decide ((k : Int) < (x.l.length : Int)) = true := decide_eq_true (by omega)
          have hba : Below w2.heap.size w2 (wr.alloc (.cells #[.int .i64 y] 3)) := hb2.alloc hb2.size _
          subst hAa
          clear hc hfr hys hgd hx1 hlw
          go_wp2_with (at_builtin; refine wpList_app rfl (.tmp 33) (.tmp 38) _ rfl elI rfl (ho2.alloc _) (some ⟨wr.heap.size, 0, none⟩) 1 1 rfl [intV y] (Sees.of_alloc _ _ _ rfl) (by simp) (by simp [intV, Value.oneCell']) (Q + 1) rfl _ HYS.out (by unfold maxLen; omega) (by omega) hba.size ?_; intro A3 c3 w5 hown hgr hat hbel)
          exact ⟨⟨j + 1, Q + 1, by omega, by go_num, hid (by have := hQ.out; omega), A3, c3, rfl, hown, hba.trans hbel⟩, by simp [intOf]; omega⟩
        · obtain rfl : j = L.length := by omega
          have dj : decide ((L.length : Int) < (L.length : Int)) = false := decide_eq_false (by omega)
          have hfl : (frameL L k).take L.length = frameL L k := by
            rw [List.take_of_length_le (by unfold frameL; simp)]
          rw [hfl, ← weaveTo_succ] at ho2
          clear hfl
          go_wp2_with fail
          exact ⟨⟨k + 1, Q, by omega, by go_num, hid (by rw [hQ.out, hN.out, Nat.add_mul]; omega), A2, c2, rfl, ho2, hb2⟩, by simp [intOf]; omega⟩
    · obtain rfl : k = C := by omega
      have dk : decide ((k : Int) < (k : Int)) = false := decide_eq_false (by omega)
      have hNl : N = (weaveTo L k).length := by rw [hN.out, HWL.out]
      have hf : ∃ v, (Ending.returned (.tuple #[.slice A' N c', .int .i64 0])) = .returned (.tuple #[v, .int .i64 0]) ∧ NewI w (weaveTo L k) v wr := ⟨_, rfl, A', c', by rw [← hNl], by rw [← hNl]; exact Joins.ownsRow_le ho hbw2.size, hbw2.trans (hb.mono hbw2.size)⟩
      go_wp2_with fail
      go_ret2
      exact hf
end Go.Proofs.Ytfinefhebffpcaa
