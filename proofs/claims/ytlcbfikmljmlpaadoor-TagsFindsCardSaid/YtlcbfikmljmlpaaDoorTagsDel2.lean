/- slices.DeleteFunc of tags, by a key's closure. -/
import Derived.Test.YtlcbfikmljmlpaaDoorTagsDel
import Derived.Test.YtlcbfikmljmlpaaDoorTagsCheck
namespace Go.Proofs.YtlcbfikmljmlpaaDoor
set_option linter.unusedVariables false
open Go.RowKit
def DelT (B : Nat) (w : World) (l : List TagV) (e : Ending) (w' : World) : Prop := ∃ A c, e = .returned (.slice A l.length c) ∧ SeesT w' A l ∧ l.length ≤ c ∧ Below B w w'
theorem addr_zero (g i : Nat) : (Addr.add ⟨g, 0, none⟩ i) = ⟨g, i, none⟩ := by unfold Addr.add; split <;> simp_all
theorem suf_slice (g n c i : Nat) (h : i < n) (hc : n ≤ c) (w : World) : (Instr.sliceAt 22 (.slice (some ⟨g, 0, none⟩) n c) (some (.int .i64 (i : Int))) none none).run Tryd.prog w = .ok (.slice (some ⟨g, i * 2, none⟩) (n - i) (c - i)) w := by
  have d1 : (i : Int) ≤ (n : Int) := by omega
  have d2 : (n : Int) ≤ (c : Int) := by omega
  have d0 : (0 : Int) ≤ (i : Int) := by omega
  have d3 : ¬ c = i := by omega
  go_simp
set_option maxRecDepth 20000 in
set_option maxHeartbeats 4000000 in
theorem del_any (B gk : Nat) (K : ByteArray) (g c : Nat) (l : List TagV) (w : World) (hn : NewT B w l (some ⟨g, 0, none⟩) c) (hB : B ≤ w.heap.size) (hgk : w.cell? ⟨gk, 0, none⟩ = some (.string K)) (hne : gk ≠ g) (hlen : l.length ≤ 1000000) (hs : Brief l) :
    Calls Tryd.prog 39 #[.slice (some ⟨g, 0, none⟩) l.length c, .func (.func 61) #[] #[.pointer (some ⟨gk, 0, none⟩)]] w (DelT B w (keepT K l)) := by
  have hfi := findLike_any gk K (some ⟨g, 0, none⟩) c l w hgk hn.sees (by omega) (fun x hx => (hs x hx).1)
  obtain ⟨z, hz⟩ : ∃ z, idxFrom (alike K) l 0 = z := ⟨_, rfl⟩
  rw [hz] at hfi
  have hno := hid (fun h : z = -1 => keepT_none K l 0 (by omega) (hz.trans h))
  have hat := hid (idx_like K l 0 z hz)
  clear hz
  go_enter Tryd.func39, Tryd.ntmps39
  go_wp2_with fail
  refine hfi.mono ?_
  rintro e w1 ⟨rfl, hb1⟩
  clear hfi
  have hn1 := hn.below hb1
  have hg1 := keep1 hb1 hgk
  replace hb1 := hb1.mono hB
  by_cases h1 : z = -1
  · subst h1
    have hk := hno.out rfl
    clear hno hat
    go_wp2_with fail
    go_ret
    unfold DelT
    rw [hk]
    exact ⟨_, c, rfl, hn1.sees, hn.bounds.2.2, hb1⟩
  · obtain ⟨i0, rfl, hi0, hk0, ha0⟩ := hat.out h1
    clear hno hat
    have d1 : (((0 + i0 : Nat) : Int) == -1) = false := beq_eq_false_iff_ne.2 (by omega)
    have d1' : decide (((0 + i0 : Nat) : Int) = -1) = false := decide_eq_false (by omega)
    rw [Nat.zero_add] at d1 d1' h1 ⊢
    have hbase := hid (show keepT K (l.take (i0 + 1)) = l.take i0 by rw [keepT_succ K l i0 hi0, if_pos (ha0 hi0), hk0])
    clear hk0 ha0
    go_wp2_with fail
    go_loopw [5, 6] (fun iv jv wr => ∃ (i j : Nat) (M : List TagV), i < j ∧ j ≤ l.length ∧ iv = .int .i64 (i : Int) ∧ jv = .int .i64 (j : Int) ∧ NewT B wr M (some ⟨g, 0, none⟩) c ∧ Hid (M.length = l.length) ∧ Hid (M.take i = keepT K (l.take j)) ∧ Hid (M.drop j = l.drop j) ∧ wr.cell? ⟨gk, 0, none⟩ = some (.string K) ∧ B ≤ wr.heap.size ∧ Below B w wr) (fun _ j _ => l.length - (intOf j).toNat)
    case atStart => exact ⟨i0, i0 + 1, l, by omega, by omega, rfl, by go_num, hn1, hid rfl, hid hbase.out.symm, hid rfl, hg1, Nat.le_trans hB hb1.size, hb1⟩
    case round =>
      obtain ⟨i, j, M, hij, hj, rfl, rfl, hM, hML, hMt, hMd, hgr, hBr, hbr⟩ := hrel
      clear hn hn1 hb1 hbase hgk hg1
      by_cases hlt : j < l.length
      · have dk : decide ((j : Int) < (l.length : Int)) = true := decide_eq_true (by omega)
        have dkl : (j : Int) < (l.length : Int) := by omega
        have hjM : j < M.length := by rw [hML.out]; exact hlt
        have hiM : i < M.length := by omega
        obtain ⟨x1, x2⟩ := hM.at hjM
        have hx : M[j] = l[j] := by
          have h0 := congrArg (fun q => q[0]?) hMd.out
          simp only [List.getElem?_drop, Nat.add_zero] at h0
          rw [List.getElem?_eq_getElem hjM, List.getElem?_eq_getElem hlt] at h0
          exact Option.some.inj h0
        have HK := hid (keepT_succ K l j hlt)
        have hsx := (hs l[j] (List.getElem_mem hlt)).1
        rw [hx] at x1 x2
        clear hx
        generalize l[j] = x at *
        obtain ⟨xk, xv⟩ := x
        simp only at x1 x2 hsx
        have hb2 := hbr.alloc hBr (.cells #[.string xk, .string xv] 30)
        have hrow := heap_alloc_new wr (.cells #[.string xk, .string xv] 30)
        have c0 : (wr.alloc (.cells #[.string xk, .string xv] 30)).cell? ⟨wr.heap.size, 0, none⟩ = some (.string xk) := by rw [cell_of_row _ _ _ _ _ _ hrow]; rfl
        have c1 : (wr.alloc (.cells #[.string xk, .string xv] 30)).cell? ⟨wr.heap.size, 1, none⟩ = some (.string xv) := by rw [cell_of_row _ _ _ _ _ _ hrow]; rfl
        have hba := (Below.refl wr.heap.size wr).alloc (Nat.le_refl _) (.cells #[.string xk, .string xv] 30)
        have hM2 := hM.below hba
        have hg2 := keep1 hba hgr
        have hB2 := Nat.le_trans hBr hba.size
        clear hrow hba
        go_wp2_with fail
        have hcall := like1_any gk K ⟨xk, xv⟩ _ hg2 hsx
        generalize wr.alloc (.cells #[.string xk, .string xv] 30) = w2 at *
        generalize wr.heap.size = hx at *
        refine hcall.mono ?_
        rintro e w3 ⟨rfl, hb3⟩
        clear hcall
        replace c0 := keep1 hb3 c0
        replace c1 := keep1 hb3 c1
        replace hM2 := hM2.below hb3
        replace hg2 := keep1 hb3 hg2
        have hB3 : B ≤ w3.heap.size := by
          obtain ⟨q1, q2, _⟩ := hM2.bounds
          omega
        replace hb3 : Below B w w3 := by
          exact hb2.trans (hb3.mono hB2)
        clear hb2 hM hgr hbr x1 x2
        cases hq : alike K ⟨xk, xv⟩ with
        | true =>
          have HK2 := hid (show keepT K (l.take (j + 1)) = keepT K (l.take j) by rw [HK.out, if_pos hq])
          clear HK hq
          go_wp2_with fail
          exact ⟨⟨i, j + 1, M, by omega, by omega, rfl, by go_num, hM2, hML, hid (by rw [HK2.out, hMt.out]), hid (by rw [← List.drop_drop, hMd.out, List.drop_drop]), hg2, hB3, hb3⟩, by simp [intOf]; omega⟩
        | false =>
          have HK2 := hid (show keepT K (l.take (j + 1)) = keepT K (l.take j) ++ [⟨xk, xv⟩] by rw [HK.out, hq]; rfl)
          clear HK hq
          obtain ⟨y1, y2⟩ := hM2.at hiM
          have hfz := hM2.frozen
          have dki : (i : Int) < (l.length : Int) := by omega
          have hM4 := hM2.stored i xk xv
          go_wp2_with fail
          have hlenM : (M.set i ⟨xk, xv⟩).length = l.length := by rw [List.length_set, hML.out]
          have htk : (M.set i ⟨xk, xv⟩).take (i + 1) = keepT K (l.take (j + 1)) := by
            rw [HK2.out, ← hMt.out, List.take_succ_eq_append_getElem (by rw [List.length_set]; exact hiM), List.take_set_of_le (Nat.le_refl i), List.getElem_set_self]
          have hdr : (M.set i ⟨xk, xv⟩).drop (j + 1) = l.drop (j + 1) := by
            rw [List.drop_set_of_lt (by omega), ← List.drop_drop, hMd.out, List.drop_drop]
          have hgb := hM2.bounds
          refine ⟨⟨i + 1, j + 1, _, by omega, by omega, by go_num, by go_num, hM4, hid hlenM, hid htk, hid hdr, ?_, ?_, ?_⟩, by simp [intOf]; omega⟩
          · rw [World.cell?_setCell_far _ _ _ _ (Ne.symm hne), World.cell?_setCell_far _ _ _ _ (Ne.symm hne)]
            exact hg2
          · simpa using hB3
          · exact (hb3.setCell (p := ⟨g, i * 2, none⟩) hgb.1 _).setCell (p := ⟨g, i * 2 + 1, none⟩) hgb.1 _
      · obtain rfl : j = l.length := by omega
        have dk : decide ((l.length : Int) < (l.length : Int)) = false := decide_eq_false (by omega)
        have hk : M.take i = keepT K l := by
          have := hMt.out
          rwa [List.take_length] at this
        obtain ⟨q1, q2, q3⟩ := hM.bounds
        have q4 : l.length ≤ c := by rw [← hML.out]; exact q3
        have hfz := hM.frozen
        have hsl := fun W => suf_slice g l.length c i hij q4 W
        obtain ⟨vs, hvl, hcl⟩ := run_clear_tags wr 0 g (i * 2) (l.length - i) (c - i) (by omega) (fun q hq => by
          have hqm : (i * 2 + q) / 2 < M.length := by rw [hML.out]; omega
          obtain ⟨e1, e2⟩ := hM.at hqm
          rcases Nat.mod_two_eq_zero_or_one q with hm | hm
          · rw [show (i * 2 + q) / 2 * 2 = i * 2 + q by omega] at e1
            rw [e1]; rfl
          · rw [show (i * 2 + q) / 2 * 2 + 1 = i * 2 + q by omega] at e2
            rw [e2]; rfl) hfz
        have hps := fun W => pre_slice (some ⟨g, 0, none⟩) l.length c i (by omega) W
        go_wp2_with fail
        go_ret
        have hkl : (keepT K l).length = i := by rw [← hk, List.length_take, hML.out]; omega
        unfold DelT
        rw [hkl]
        refine ⟨_, c, rfl, ?_, by omega, below_setCells g q1 vs _ _ hbr⟩
        rw [← hk]
        intro q hq
        have hqi : q < i := by rw [List.length_take] at hq; omega
        obtain ⟨e1, e2⟩ := hM.at (show q < M.length by rw [hML.out]; omega)
        refine ⟨_, rfl, ?_, ?_⟩
        · rw [addr_zero, World.cell?_setCells_out g vs (i * 2) wr _ (fun _ _ => Or.inl (by show q * 2 < i * 2; omega)), List.getElem_take]
          exact e1
        · rw [addr_add, addr_zero, World.cell?_setCells_out g vs (i * 2) wr _ (fun _ _ => Or.inl (by show q * 2 + 1 < i * 2; omega)), List.getElem_take]
          exact e2
end Go.Proofs.YtlcbfikmljmlpaaDoor
