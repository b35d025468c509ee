/- Tags that are set: the program's and the reference's. -/
import Derived.Test.YtlcbfikmljmlpaaDoorTagsSet
namespace Go.Proofs.YtlcbfikmljmlpaaDoor
set_option linter.unusedVariables false
open Go.RowKit
/-- tags with one that is so, whether they are right or not -/
def setT (l : List TagV) (t : TagV) : List TagV := if idxFrom (alike (foldS t.k)) l 0 = -1 then l ++ [t] else l.set (idxFrom (alike (foldS t.k)) l 0).toNat t
def setR (l : List TagV) (t : TagV) : List TagV := if (checkT (setT l t)).2 = 0 then setT l t else []
def SetPost (w : World) (l : List TagV) (t : TagV) (e : Ending) (w' : World) : Prop := ∃ A c, e = .returned (.tuple #[.slice A (setR l t).length c, .int .i64 (checkT (setT l t)).2]) ∧ SeesT w' A (setR l t) ∧ (setR l t).length ≤ c ∧ Below w.heap.size w w'
theorem setT_len (l : List TagV) (t : TagV) : (setT l t).length ≤ l.length + 1 := by
  unfold setT
  split
  · rw [List.length_append]; exact Nat.le_refl _
  · rw [List.length_set]; omega
theorem setT_brief {l : List TagV} {t : TagV} (h : Brief l) (h1 : t.k.size ≤ 140737488355328) (h2 : t.v.size ≤ 140737488355328) : Brief (setT l t) := by
  intro x hx
  unfold setT at hx
  split at hx
  · rcases List.mem_append.1 hx with hx | hx
    · exact h x hx
    · rw [List.mem_singleton.1 hx]; exact ⟨h1, h2⟩
  · rcases List.mem_or_eq_of_mem_set hx with hx | rfl
    · exact h x hx
    · exact ⟨h1, h2⟩
theorem set_end {w w' : World} {l : List TagV} {t : TagV} {M : List TagV} {A : Option Addr} {c : Nat} {z y : Int} (hM : M = setT l t) (hc : checkT M = (z, y)) (hs : SeesT w' A M) (hcap : M.length ≤ c) (hb : Below w.heap.size w w') :
    SetPost w l t (.returned (if y = 0 then .tuple #[.slice A M.length c, .int .i64 y] else .tuple #[.slice none 0 0, .int .i64 y])) w' := by
  subst hM
  unfold SetPost setR
  rw [hc]
  by_cases h : y = 0
  · rw [if_pos h, if_pos h]; exact ⟨A, c, rfl, hs, hcap, hb⟩
  · rw [if_neg h, if_neg h]; exact ⟨none, 0, rfl, nil_sees _, Nat.le_refl _, hb⟩
set_option maxRecDepth 20000 in
set_option maxHeartbeats 4000000 in
theorem set_any (A : Option Addr) (c : Nat) (l : List TagV) (t : TagV) (w : World) (hl : SeesT w A l) (hlen : l.length ≤ 1000000) (hs : Brief l) (ht1 : t.k.size ≤ 140737488355328) (ht2 : t.v.size ≤ 140737488355328) (hT : Tabs w) :
    Calls Tryd.prog 15 #[.slice A l.length c, .agg #[.string t.k, .string t.v]] w (SetPost w l t) := by
  obtain ⟨M, hMd⟩ : ∃ M, M = setT l t := ⟨_, rfl⟩
  have hMb : Brief M := by rw [hMd]; exact setT_brief hs ht1 ht2
  have hMl : M.length ≤ l.length + 1 := by rw [hMd]; exact setT_len l t
  have hend := hid (fun (w' : World) (A : Option Addr) (c : Nat) (z y : Int) => set_end (w := w) (w' := w') (l := l) (t := t) (M := M) (A := A) (c := c) (z := z) (y := y) hMd)
  obtain ⟨z, hz⟩ : ∃ z, idxFrom (alike (foldS t.k)) l 0 = z := ⟨_, rfl⟩
  unfold setT at hMd
  rw [hz] at hMd
  have HMd := hid hMd
  clear hMd
  have hsome := hid (idx_some (alike (foldS t.k)) l 0 z hz)
  generalize hK : foldS t.k = K at *
  obtain ⟨P, hP⟩ : ∃ P, P = SetPost w l t := ⟨_, rfl⟩
  rw [← hP] at hend ⊢
  obtain ⟨tk, tv⟩ := t
  simp only at ht1 ht2 hK HMd
  have hb0 : Below w.heap.size w (w.alloc (.cells #[.string tk, .string tv] 30)) := (Below.refl _ _).alloc (Nat.le_refl _) _
  have hrow := heap_alloc_new w (.cells #[.string tk, .string tv] 30)
  have c0 : (w.alloc (.cells #[.string tk, .string tv] 30)).cell? ⟨w.heap.size, 0, none⟩ = some (.string tk) := by rw [cell_of_row _ _ _ _ _ _ hrow]; rfl
  have c1 : (w.alloc (.cells #[.string tk, .string tv] 30)).cell? ⟨w.heap.size, 1, none⟩ = some (.string tv) := by rw [cell_of_row _ _ _ _ _ _ hrow]; rfl
  have hl0 := hl.below hb0
  clear hrow hP

  have hc := cloneT_any A c l _ hl0 hlen
  clear hl0 hl
  go_enter Tryd.func15, Tryd.ntmps15
  go_wp2_with fail
  generalize w.alloc (.cells #[.string tk, .string tv] 30) = w0 at *
  refine hc.mono ?_
  rintro e w1 ⟨A1, c1r, rfl, hn1, hb1⟩
  clear hc
  replace c0 := keep1 hb1 c0
  replace c1 := keep1 hb1 c1
  replace hn1 := hn1.mono hb0.size
  replace hb1 := hb0.trans (hb1.mono hb0.size)
  clear hb0
  go_wp2_with fail
  refine (like_any tk w1 ht1).mono ?_
  rintro e w2 ⟨rfl, cg, hb2⟩
  rw [hK] at cg
  replace c0 := keep1 hb2 c0
  replace c1 := keep1 hb2 c1
  replace hn1 := hn1.below hb2
  replace hb2 := hb1.trans (hb2.mono hb1.size)
  have hfi := findLike_any w1.heap.size K A1 c1r l w2 cg hn1.sees (by omega) (fun x hx => (hs x hx).1)
  rw [hz] at hfi
  clear cg hK hz
  generalize w1.heap.size = g1 at *
  go_wp2_with fail
  refine hfi.mono ?_
  rintro e w3 ⟨rfl, hb3⟩
  clear hfi
  replace c0 := keep1 hb3 c0
  replace c1 := keep1 hb3 c1
  replace hn1 := hn1.below hb3
  replace hb3 := hb2.trans (hb3.mono hb2.size)
  clear hb1 hb2
  by_cases hz1 : z = -1
  · subst hz1
    have HM := hid (show l ++ [⟨tk, tv⟩] = M by rw [HMd.out, if_pos rfl])
    clear HMd hsome
    have hba := (Below.refl w3.heap.size w3).alloc (Nat.le_refl _) (.cells #[.string tk, .string tv] 30)
    have hbb := hb3.alloc hb3.size (.cells #[.string tk, .string tv] 30)
    have HYS := hid (show flat l ++ flat [⟨tk, tv⟩] = flat M by rw [← flat_app, HM.out])
    have HML := hid (show l.length + 1 = M.length by rw [← HM.out, List.length_append]; rfl)
    clear HM
    go_wp2_with (first | fail | (at_builtin; refine wpList_app rfl (.tmp 23) (.tmp 25) _ rfl elT rfl (hn1.alloc _) (some ⟨w3.heap.size, 0, none⟩) 1 1 rfl (flat [⟨tk, tv⟩]) (Sees.of_alloc _ _ _ rfl) (by simp [flat]) (flat_one _) M.length HML.out _ HYS.out (by unfold maxLen; omega) (by omega) hbb.size ?_; intro A5 c5 w5 hown hgr hat hbel))
    replace hb5 : Below w.heap.size w w5 := hbb.trans hbel
    have h5c := NewT.cap hown
    have h5 := NewT.sees hown
    clear hown hgr hat hbel hba hbb c0 c1 hn1
    have hck := check_any A5 c5 M w5 h5 h5c (by unfold maxLen; omega) hMb (hT.below hb5)
    have hee := hid (fun (w' : World) => hend.out w' A5 c5)
    clear hend
    rcases hzy : checkT M with ⟨zc, yc⟩
    rw [hzy] at hck hee
    simp only at hck
    clear hzy
    go_wp2_with fail
    refine hck.mono ?_
    rintro e w6 ⟨rfl, hb6⟩
    clear hck
    have h6 := h5.below hb6
    replace hb6 := hb5.trans (hb6.mono hb5.size)
    have hf := hee.out w6 zc yc rfl h6 h5c hb6
    clear hee
    by_cases hy : yc = 0
    · subst hy
      rw [if_pos rfl] at hf
      go_wp2_with fail
      first | exact hf | (go_ret2; exact hf)
    · have dy : (yc != 0) = true := by simpa using hy
      have dy2 : decide (yc = 0) = false := decide_eq_false hy
      rw [if_neg hy] at hf
      clear hy
      go_wp2_with fail
      first | exact hf | (go_ret2; exact hf)
  · obtain ⟨i, hi, rfl, hf⟩ := hsome.out hz1
    rw [Nat.zero_add] at hz1 HMd ⊢
    have HM := hid (show l.set i ⟨tk, tv⟩ = M by rw [HMd.out, if_neg hz1, Int.toNat_natCast])
    clear HMd hsome hf
    obtain ⟨g, rfl, _, _⟩ := own_some hn1 (show 0 < l.length by omega)
    have d1 : decide (0 ≤ (i : Int)) = true := decide_eq_true (by omega)
    have dki : (i : Int) < (l.length : Int) := by omega
    obtain ⟨y1, y2⟩ := hn1.at hi
    have hfz := hn1.frozen
    have h4 := hn1.stored i tk tv
    have hgb := hn1.bounds
    rw [HM.out] at h4
    have HML := hid (show l.length = M.length by rw [← HM.out, List.length_set])
    clear HM hz1
    have hb5 : Below w.heap.size w ((w3.setCell ⟨g, i * 2, none⟩ (.string tk)).setCell ⟨g, i * 2 + 1, none⟩ (.string tv)) := (hb3.setCell (p := ⟨g, i * 2, none⟩) hgb.1 _).setCell (p := ⟨g, i * 2 + 1, none⟩) hgb.1 _
    go_wp2_with fail
    generalize (w3.setCell ⟨g, i * 2, none⟩ (.string tk)).setCell ⟨g, i * 2 + 1, none⟩ (.string tv) = w5 at *
    obtain ⟨A5, hA5⟩ : ∃ A5, A5 = some (⟨g, 0, none⟩ : Addr) := ⟨_, rfl⟩
    obtain ⟨c5, rfl⟩ : ∃ c5, c5 = c1r := ⟨_, rfl⟩
    rw [← hA5] at h4 ⊢
    rw [HML.out]
    have h5c := NewT.cap h4
    have h5 := NewT.sees h4
    clear h4 hgb hfz y1 y2 hb3 hA5 hn1 c0 c1
    have hck := check_any A5 c5 M w5 h5 h5c (by unfold maxLen; omega) hMb (hT.below hb5)
    have hee := hid (fun (w' : World) => hend.out w' A5 c5)
    clear hend
    rcases hzy : checkT M with ⟨zc, yc⟩
    rw [hzy] at hck hee
    simp only at hck
    clear hzy
    go_wp2_with fail
    refine hck.mono ?_
    rintro e w6 ⟨rfl, hb6⟩
    clear hck
    have h6 := h5.below hb6
    replace hb6 := hb5.trans (hb6.mono hb5.size)
    have hf := hee.out w6 zc yc rfl h6 h5c hb6
    clear hee
    by_cases hy : yc = 0
    · subst hy
      rw [if_pos rfl] at hf
      go_wp2_with fail
      first | exact hf | (go_ret2; exact hf)
    · have dy : (yc != 0) = true := by simpa using hy
      have dy2 : decide (yc = 0) = false := decide_eq_false hy
      rw [if_neg hy] at hf
      clear hy
      go_wp2_with fail
      first | exact hf | (go_ret2; exact hf)
set_option maxRecDepth 20000 in
set_option maxHeartbeats 4000000 in
theorem rset_any (A : Option Addr) (c : Nat) (l : List TagV) (t : TagV) (w : World) (hl : SeesT w A l) (hlen : l.length ≤ 1000000) (hs : Brief l) (ht1 : t.k.size ≤ 140737488355328) (ht2 : t.v.size ≤ 140737488355328) :
    Calls Tryd.prog 16 #[.slice A l.length c, .agg #[.string t.k, .string t.v]] w (SetPost w l t) := by
  obtain ⟨M, hMd⟩ : ∃ M, M = setT l t := ⟨_, rfl⟩
  have hMb : Brief M := by rw [hMd]; exact setT_brief hs ht1 ht2
  have hMl : M.length ≤ l.length + 1 := by rw [hMd]; exact setT_len l t
  have hend := hid (fun (w' : World) (A : Option Addr) (c : Nat) (z y : Int) => set_end (w := w) (w' := w') (l := l) (t := t) (M := M) (A := A) (c := c) (z := z) (y := y) hMd)
  obtain ⟨z, hz⟩ : ∃ z, idxFrom (alike (foldS t.k)) l 0 = z := ⟨_, rfl⟩
  unfold setT at hMd
  rw [hz] at hMd
  have HMd := hid hMd
  clear hMd
  have hsome := hid (idx_some (alike (foldS t.k)) l 0 z hz)
  generalize hK : foldS t.k = K at *
  obtain ⟨P, hP⟩ : ∃ P, P = SetPost w l t := ⟨_, rfl⟩
  rw [← hP] at hend ⊢
  obtain ⟨tk, tv⟩ := t
  simp only at ht1 ht2 hK HMd
  have hb0 : Below w.heap.size w (w.alloc (.cells #[.string tk, .string tv] 30)) := (Below.refl _ _).alloc (Nat.le_refl _) _
  have hrow := heap_alloc_new w (.cells #[.string tk, .string tv] 30)
  have c0 : (w.alloc (.cells #[.string tk, .string tv] 30)).cell? ⟨w.heap.size, 0, none⟩ = some (.string tk) := by rw [cell_of_row _ _ _ _ _ _ hrow]; rfl
  have c1 : (w.alloc (.cells #[.string tk, .string tv] 30)).cell? ⟨w.heap.size, 1, none⟩ = some (.string tv) := by rw [cell_of_row _ _ _ _ _ _ hrow]; rfl
  have hl0 := hl.below hb0
  clear hrow hP

  have hbe := (Below.refl (w.alloc (.cells #[.string tk, .string tv] 30)).heap.size (w.alloc (.cells #[.string tk, .string tv] 30))).alloc (Nat.le_refl _) (.cells #[] 30)
  have ho : ((w.alloc (.cells #[.string tk, .string tv] 30)).alloc (.cells #[] 30)).ownsRow (w.heap.size + 1) 30 2 (.slice (some ⟨w.heap.size + 1, 0, none⟩) 0 0) 0 [] :=
    ⟨rfl, .inr ⟨w.heap.size + 1, 0, #[], rfl, Nat.le_refl _, by have := heap_alloc_new (w.alloc (.cells #[.string tk, .string tv] 30)) (.cells #[] 30); rwa [World.size_alloc] at this, Nat.le_refl _, by unfold maxLen; omega, rfl, rfl⟩⟩
  have hl1 := (hl0.below hbe).to_flat
  replace c0 := keep1 hbe c0
  replace c1 := keep1 hbe c1
  have hsz := hbe.size
  rw [World.size_alloc] at hsz
  replace hb0 := hb0.trans (hbe.mono hb0.size)
  have hfl := hid (flat_len l)
  clear hl0 hbe
  go_enter Tryd.func16, Tryd.ntmps16
  go_wp2_with (at_builtin; refine wpList_app rfl (.tmp 10) (.tmp 11) _ rfl elT rfl ho A l.length c rfl (flat l) hl1 hfl.out (flat_one l) l.length (by omega) (flat l) rfl (by unfold maxLen; omega) (by omega) hsz ?_; intro A1 c1r w1 hn1 hgr hat hb1; replace c0 := (hb1.cell (show w.heap.size < w.heap.size + 1 by omega)).trans c0; replace c1 := (hb1.cell (show w.heap.size < w.heap.size + 1 by omega)).trans c1)
  replace hb1 := hb0.trans (hb1.mono (show w.heap.size ≤ w.heap.size + 1 by omega))
  clear hgr hat ho hb0 hl1
  replace hn1 : NewT (w.heap.size + 1) w1 l A1 c1r := hn1
  replace hn1 := hn1.mono (show w.heap.size ≤ w.heap.size + 1 by omega)
  have hr := rat_any A c l tk w1 (hl.below hb1) (by omega) (fun x hx => (hs x hx).1) ht1
  rw [hK, hz] at hr
  clear hK hz hsz
  refine hr.mono ?_
  rintro e w3 ⟨rfl, hb3⟩
  clear hr
  replace c0 := keep1 hb3 c0
  replace c1 := keep1 hb3 c1
  replace hn1 := hn1.below hb3
  replace hb3 := hb1.trans (hb3.mono hb1.size)
  clear hb1 hl
  by_cases hz1 : z = -1
  · subst hz1
    have HM := hid (show l ++ [⟨tk, tv⟩] = M by rw [HMd.out, if_pos rfl])
    clear HMd hsome
    have hba := (Below.refl w3.heap.size w3).alloc (Nat.le_refl _) (.cells #[.string tk, .string tv] 30)
    have hbb := hb3.alloc hb3.size (.cells #[.string tk, .string tv] 30)
    have HYS := hid (show flat l ++ flat [⟨tk, tv⟩] = flat M by rw [← flat_app, HM.out])
    have HML := hid (show l.length + 1 = M.length by rw [← HM.out, List.length_append]; rfl)
    clear HM
    go_wp2_with (at_builtin; refine wpList_app rfl (.tmp 19) (.tmp 21) _ rfl elT rfl (hn1.alloc _) (some ⟨w3.heap.size, 0, none⟩) 1 1 rfl (flat [⟨tk, tv⟩]) (Sees.of_alloc _ _ _ rfl) (by simp [flat]) (flat_one _) M.length HML.out _ HYS.out (by unfold maxLen; omega) (by omega) hbb.size ?_; intro A5 c5 w5 hown hgr hat hbel)
    replace hb5 : Below w.heap.size w w5 := hbb.trans hbel
    have h5c := NewT.cap hown
    have h5 := NewT.sees hown
    clear hown hgr hat hbel hba hbb c0 c1 hn1
    have hck := rcheck_any A5 c5 M w5 h5 h5c (by unfold maxLen; omega) hMb
    have hee := hid (fun (w' : World) => hend.out w' A5 c5)
    clear hend
    rcases hzy : checkT M with ⟨zc, yc⟩
    rw [hzy] at hck hee
    simp only at hck
    clear hzy
    go_wp2_with fail
    refine hck.mono ?_
    rintro e w6 ⟨rfl, hb6⟩
    clear hck
    have h6 := h5.below hb6
    replace hb6 := hb5.trans (hb6.mono hb5.size)
    have hf := hee.out w6 zc yc rfl h6 h5c hb6
    clear hee
    by_cases hy : yc = 0
    · subst hy
      rw [if_pos rfl] at hf
      go_wp2_with fail
      first | exact hf | (go_ret2; exact hf)
    · have dy : (yc != 0) = true := by simpa using hy
      have dy2 : decide (yc = 0) = false := decide_eq_false hy
      rw [if_neg hy] at hf
      clear hy
      go_wp2_with fail
      first | exact hf | (go_ret2; exact hf)
  · obtain ⟨i, hi, rfl, hf⟩ := hsome.out hz1
    rw [Nat.zero_add] at hz1 HMd ⊢
    have HM := hid (show l.set i ⟨tk, tv⟩ = M by rw [HMd.out, if_neg hz1, Int.toNat_natCast])
    clear HMd hsome hf
    obtain ⟨g, rfl, _, _⟩ := own_some hn1 (show 0 < l.length by omega)
    have d1 : decide ((i : Int) < 0) = false := decide_eq_false (by omega)
    have dki : (i : Int) < (l.length : Int) := by omega
    obtain ⟨y1, y2⟩ := hn1.at hi
    have hfz := hn1.frozen
    have h4 := hn1.stored i tk tv
    have hgb := hn1.bounds
    rw [HM.out] at h4
    have HML := hid (show l.length = M.length by rw [← HM.out, List.length_set])
    clear HM hz1
    have hb5 : Below w.heap.size w ((w3.setCell ⟨g, i * 2, none⟩ (.string tk)).setCell ⟨g, i * 2 + 1, none⟩ (.string tv)) := (hb3.setCell (p := ⟨g, i * 2, none⟩) hgb.1 _).setCell (p := ⟨g, i * 2 + 1, none⟩) hgb.1 _
    go_wp2_with fail
    generalize (w3.setCell ⟨g, i * 2, none⟩ (.string tk)).setCell ⟨g, i * 2 + 1, none⟩ (.string tv) = w5 at *
    obtain ⟨A5, hA5⟩ : ∃ A5, A5 = some (⟨g, 0, none⟩ : Addr) := ⟨_, rfl⟩
    obtain ⟨c5, rfl⟩ : ∃ c5, c5 = c1r := ⟨_, rfl⟩
    rw [← hA5] at h4 ⊢
    rw [HML.out]
    have h5c := NewT.cap h4
    have h5 := NewT.sees h4
    clear h4 hgb hfz y1 y2 hb3 hA5 hn1 c0 c1
    have hck := rcheck_any A5 c5 M w5 h5 h5c (by unfold maxLen; omega) hMb
    have hee := hid (fun (w' : World) => hend.out w' A5 c5)
    clear hend
    rcases hzy : checkT M with ⟨zc, yc⟩
    rw [hzy] at hck hee
    simp only at hck
    clear hzy
    go_wp2_with fail
    refine hck.mono ?_
    rintro e w6 ⟨rfl, hb6⟩
    clear hck
    have h6 := h5.below hb6
    replace hb6 := hb5.trans (hb6.mono hb5.size)
    have hf := hee.out w6 zc yc rfl h6 h5c hb6
    clear hee
    by_cases hy : yc = 0
    · subst hy
      rw [if_pos rfl] at hf
      go_wp2_with fail
      first | exact hf | (go_ret2; exact hf)
    · have dy : (yc != 0) = true := by simpa using hy
      have dy2 : decide (yc = 0) = false := decide_eq_false hy
      rw [if_neg hy] at hf
      clear hy
      go_wp2_with fail
      first | exact hf | (go_ret2; exact hf)
end Go.Proofs.YtlcbfikmljmlpaaDoor
