/- The walk of TagsGets. -/
import Derived.Test.YtlcbfikmljmlpaaDoorTagsGetsM2
import Derived.Test.YtlcbfikmljmlpaaDoorTagsGetsM6
import Derived.Test.YtlcbfikmljmlpaaDoorTagsGetsM13
import Derived.Test.YtlcbfikmljmlpaaDoorTagsGetsM18
import Derived.Test.YtlcbfikmljmlpaaDoorRows
import Derived.MakeChecks
namespace Go.Proofs.YtlcbfikmljmlpaaDoor
set_option linter.unusedVariables false
open Go.RowKit
namespace tagsGets
theorem slice_to (A : Option Addr) (n c i : Nat) (h2 : i ≤ c) (w : World) : (Instr.sliceAt 40 (.slice A n c) none (some (.int .i64 (i : Int))) none).run Tryd.prog w = .ok (.slice A i c) w := by
  have d2 : (i : Int) ≤ (c : Int) := by omega
  have d0 : (0 : Int) ≤ (i : Int) := by omega
  have e := preA_is A c
  unfold preA at e
  go_simp
  all_goals first | rfl | (simp_all; done)
theorem brief_short {l : List TagV} (h : Short l) : Brief l := by
  intro x hx
  obtain ⟨i, hi, rfl⟩ := List.getElem_of_mem hx
  have := h.2 i hi
  omega
set_option maxRecDepth 20000 in
set_option maxHeartbeats 8000000 in
theorem walk (A : Option Addr) (c : Nat) (b : List UInt8) (w : World) (h : SeesB w A b ∧ b.length ≤ c ∧ c ≤ maxLen) (hT : Tabs w) :
    Calls Tryd.prog 8 #[.slice A b.length c] w fun e w' => e = .returned (.bool true) ∧ Below w.heap.size w w' := by
  obtain ⟨hl, hlc, hc⟩ := h
  have HKN := hid known_any
  have hml : b.length ≤ 9223372036854775807 := by unfold maxLen at hc; omega
  by_cases h100 : 2000 < b.length
  · have d1 : decide (2000 < (b.length : Int)) = true := decide_eq_true (by omega)
    clear hl
    go_enter Tryd.func8, Tryd.ntmps8
    go_wp2_with fail
    refine (HKN.out _).mono ?_
    rintro e w1 ⟨rfl, hb⟩
    go_wp2_with fail
    go_ret
    exact ⟨rfl, hb⟩
  have d1 : decide (2000 < (b.length : Int)) = false := decide_eq_false (by omega)
  go_enter Tryd.func8, Tryd.ntmps8
  go_wp2_with fail
  refine (make_any w).mono ?_
  rintro e w1 ⟨rfl, hb1, ht⟩
  have hl1 := hl.below hb1
  have hT1 := hT.below hb1
  have hget := hid (tagget_any w.heap.size A c b w1 ht hl1 hlc hc (by omega) hT1)
  have hrget := hid (fun W (hl : SeesB W A b) => rtagget_any A c b W hl hlc hc (by omega))
  have hpg := hid (fun n l => put_getG b (n := n) (l := l))
  have hLL : (getG b).2.2.length ≤ 64 := by
    obtain ⟨⟨e, n, l⟩, hr⟩ : ∃ r, getG b = r := ⟨_, rfl⟩
    rw [hr]
    by_cases he : e = 0
    · subst he; exact (short_of (put_getG b hr).1).1
    · unfold getG at hr
      split at hr
      · simp only [Prod.mk.injEq] at hr; rw [← hr.2.2]; simp
      · split at hr
        · simp only [Prod.mk.injEq] at hr; rw [← hr.2.2]; simp
        · unfold finG endG at hr
          split at hr
          · simp only [Prod.mk.injEq] at hr; rw [← hr.2.2]; simp
          · split at hr
            · simp only [Prod.mk.injEq] at hr; rw [← hr.2.2]; simp
            · split at hr
              · simp only [Prod.mk.injEq] at hr; rw [← hr.2.2]; simp
              · simp only [Prod.mk.injEq] at hr; exact absurd hr.1.symm he
  have hpn : (getG b).1 = 0 ∨ (getG b).1 ≠ 0 := by omega
  generalize getG b = r at *
  obtain ⟨e, n, l⟩ := r
  unfold GetGPost at hget hrget
  simp only at hget hrget hLL hpn
  clear hl hT
  go_wp2_with fail
  refine hget.out.mono ?_
  rintro e w2 ⟨A2, c2, rfl, hs2, hc2, hb2⟩
  have hbw2 := hb1.trans (hb2.mono hb1.size)
  have hl2 := hl1.below hb2
  have ht2 := ht.keep hb2 ht.lt
  have hT2 := hT1.below hb2
  clear hget hl1 hT1 ht hb1 hb2
  go_wp2_with fail
  refine (hrget.out w2 hl2).mono ?_
  rintro e w3 ⟨A3, c3, rfl, hs3, hc3, hb3⟩
  have hbw3 := hbw2.trans (hb3.mono hbw2.size)
  have hl3 := hl2.below hb3
  have ht3 := ht2.keep hb3 ht2.lt
  have hT3 := hT2.below hb3
  have hs2' := hs2.below hb3
  have hsame := hid (rsameT_any A2 A3 c2 c3 l l w3 hs2' hs3 (by unfold maxLen; omega) (by unfold maxLen; omega))
  rw [sameT_refl] at hsame
  clear hrget hl2 hT2 ht2 hb3 hbw2 hs2 hs3
  go_wp2_with fail
  refine hsame.out.mono ?_
  rintro e w4 ⟨rfl, hb4⟩
  have hbw4 := hbw3.trans (hb4.mono hbw3.size)
  have hl4 := hl3.below hb4
  have ht4 := ht3.keep hb4 ht3.lt
  have hT4 := hT3.below hb4
  have hs4 := hs2'.below hb4
  clear hsame hl3 hT3 ht3 hb4 hbw3 hs2'
  rcases hpn with he | he
  · subst he
    obtain ⟨hz, hnb, hP⟩ := hpg.out n l rfl
    have hS := short_of hz
    have hput := hid (tagput_ok w.heap.size A2 c2 l w4 ht4 hs4 hc2 (by unfold maxLen; omega) (brief_short hS) hT4 hz)
    rw [hP] at hput
    have hPl : (b.take n).length = n := by rw [List.length_take]; omega
    have hlP : SeesB w4 A (b.take n) := by unfold SeesB; rw [List.map_take]; exact Sees.take hl4 n
    obtain ⟨P, hPP⟩ : ∃ P, P = b.take n := ⟨_, rfl⟩
    rw [← hPP] at hput hPl hlP
    clear hPP hP hS hz hpg hl4
    go_wp2_with fail
    refine hput.out.mono ?_
    rintro e w5 ⟨v, rfl, hv⟩
    obtain ⟨A5, c5, rfl, hs5, hA5, ho5, hb5⟩ := hv.parts
    have hbw5 := hbw4.trans (hb5.mono hbw4.size)
    have hlP5 : SeesB w5 A P := hlP.below hb5
    obtain ⟨F, hF⟩ : ∃ F : ByteArray, F = ⟨P.toArray⟩ := ⟨_, rfl⟩
    have hcv5 : ∀ W, SeesB W A5 P → (convert 40 9 (.slice A5 P.length c5)).run Tryd.prog W = .ok (.string F) W := fun W h => by rw [hF]; exact conv_bs A5 c5 P W h
    have hcvb : ∀ W, SeesB W A P → (convert 40 9 (.slice A n c)).run Tryd.prog W = .ok (.string F) W := fun W h => by
      rw [hF]
      have := conv_bs A c P W h
      rwa [hPl] at this
    have hse : (F.toList == F.toList) = true := beq_self_eq_true _
    have dn : decide ((n : Int) ≤ (b.length : Int)) = true := decide_eq_true (by omega)
    have dn1 : (n : Int) ≤ (c : Int) := by omega
    have dn0 : 0 ≤ (n : Int) := by omega
    have hsl := hid (fun W => slice_to A b.length c n (by omega) W)
    clear hput hv ho5 hA5 hb5 hlP hbw4 ht4 hT4 hs4 hF hPl
    go_wp2_with fail
    refine wp_region_held_drew (S := fun W => SeesB W A5 P ∧ SeesB W A P) (by kernel_rfl) ⟨hs5, hlP5⟩ (fun hHeld => ?_)
    replace hs5 : SeesB w5.drew A5 P := hs5
    replace hlP5 : SeesB w5.drew A P := hlP5
    replace hbw5 : Below w.heap.size w w5.drew := hbw5.drew
    generalize w5.drew = wd at *
    refine wpAnyH_takeD (i := 0) (d := some 53) (v := ?v100) rfl rfl (by kernel_rfl) (by kernel_rfl) (by kernel_rfl) (fun _ _ _ h => h) (Or.inl ⟨by rfl, ?hy100⟩) hHeld ?rest100
    case hy100 =>
      intro wS hS
      go_simp
      all_goals with_reducible rfl
    (try simp only [Act.put, List.setIfInBounds_toArray, List.set_cons_zero, List.set_cons_succ])
    refine wpAnyH_takeD (i := 1) (d := some 54) (v := ?v201) rfl rfl (by kernel_rfl) (by kernel_rfl) (by kernel_rfl) (fun _ _ _ h => h) (Or.inl ⟨by rfl, ?hy201⟩) hHeld ?rest201
    case hy201 =>
      intro wS hS
      go_simp
      all_goals with_reducible rfl
    (try simp only [Act.put, List.setIfInBounds_toArray, List.set_cons_zero, List.set_cons_succ])
    refine wpAnyH_takeD (i := 2) (d := some 55) (v := ?v302) rfl rfl (by kernel_rfl) (by kernel_rfl) (by kernel_rfl) (fun _ _ _ h => h) (Or.inl ⟨by rfl, ?hy302⟩) hHeld ?rest302
    case hy302 =>
      intro wS hS
      go_simp
      all_goals with_reducible rfl
    (try simp only [Act.put, List.setIfInBounds_toArray, List.set_cons_zero, List.set_cons_succ])
    refine wpAnyH_takeD (i := 3) (d := some 56) (v := ?v403) rfl rfl (by kernel_rfl) (by kernel_rfl) (by kernel_rfl) (fun _ _ _ h => h) (Or.inl ⟨by rfl, ?hy403⟩) hHeld ?rest403
    case hy403 =>
      intro wS hS
      go_simp
      all_goals with_reducible rfl
    (try simp only [Act.put, List.setIfInBounds_toArray, List.set_cons_zero, List.set_cons_succ])
    refine wpAnyH_takeD (i := 4) (d := some 57) (v := ?v504) rfl rfl (by kernel_rfl) (by kernel_rfl) (by kernel_rfl) (fun _ _ _ h => h) (Or.inl ⟨by rfl, ?hy504⟩) hHeld ?rest504
    case hy504 =>
      intro wS hS
      go_simp
      all_goals with_reducible rfl
    (try simp only [Act.put, List.setIfInBounds_toArray, List.set_cons_zero, List.set_cons_succ])
    refine wpAnyH_takeD (i := 5) (d := some 58) (v := ?v605) rfl rfl (by kernel_rfl) (by kernel_rfl) (by kernel_rfl) (fun _ _ _ h => h) (Or.inl ⟨by rfl, ?hy605⟩) hHeld ?rest605
    case hy605 =>
      intro wS hS
      go_simp
      all_goals with_reducible rfl
    (try simp only [Act.put, List.setIfInBounds_toArray, List.set_cons_zero, List.set_cons_succ])
    refine wpAnyH_takeD (i := 6) (d := some 59) (v := ?v706) rfl rfl (by kernel_rfl) (by kernel_rfl) (by kernel_rfl) (fun _ _ _ h => h) (Or.inl ⟨by rfl, ?hy706⟩) hHeld ?rest706
    case hy706 =>
      intro wS hS
      go_simp
      all_goals with_reducible rfl
    (try simp only [Act.put, List.setIfInBounds_toArray, List.set_cons_zero, List.set_cons_succ])
    refine wpAnyH_takeD (i := 7) (d := some 60) (v := ?v807) rfl rfl (by kernel_rfl) (by kernel_rfl) (by kernel_rfl) (fun _ _ _ h => h) (Or.inl ⟨by rfl, ?hy807⟩) hHeld ?rest807
    case hy807 =>
      intro wS hS
      go_simp
      all_goals with_reducible rfl
    (try simp only [Act.put, List.setIfInBounds_toArray, List.set_cons_zero, List.set_cons_succ])
    refine wpAnyH_takeD (i := 8) (d := some 61) (v := ?v908) rfl rfl (by kernel_rfl) (by kernel_rfl) (by kernel_rfl) (fun _ _ _ h => h) (Or.inl ⟨by rfl, ?hy908⟩) hHeld ?rest908
    case hy908 =>
      intro wS hS
      go_simp
      all_goals with_reducible rfl
    (try simp only [Act.put, List.setIfInBounds_toArray, List.set_cons_zero, List.set_cons_succ])
    refine wpAnyH_takeD (i := 9) (d := some 62) (v := ?v1009) rfl rfl (by kernel_rfl) (by kernel_rfl) (by kernel_rfl) (fun _ _ _ h => h) (Or.inl ⟨by rfl, ?hy1009⟩) hHeld ?rest1009
    case hy1009 =>
      intro wS hS
      go_simp
      all_goals with_reducible rfl
    (try simp only [Act.put, List.setIfInBounds_toArray, List.set_cons_zero, List.set_cons_succ])
    refine wpAnyH_takeD (i := 10) (d := some 63) (v := (.string F)) rfl rfl (by kernel_rfl) (by kernel_rfl) (by kernel_rfl) (fun _ _ _ h => h) (Or.inl ⟨by rfl, ?hy1110⟩) hHeld ?rest1110
    case hy1110 =>
      intro wS hS
      obtain ⟨t1, t2⟩ := hS
      go_simp
      all_goals with_reducible rfl
    (try simp only [Act.put, List.setIfInBounds_toArray, List.set_cons_zero, List.set_cons_succ])
    refine wpAnyH_takeD (i := 11) (d := some 64) (v := ?v1211) rfl rfl (by kernel_rfl) (by kernel_rfl) (by kernel_rfl) (fun _ _ _ h => h) (Or.inl ⟨by rfl, ?hy1211⟩) hHeld ?rest1211
    case hy1211 =>
      intro wS hS
      go_simp
      all_goals with_reducible rfl
    (try simp only [Act.put, List.setIfInBounds_toArray, List.set_cons_zero, List.set_cons_succ])
    refine wpAnyH_takeD (i := 12) (d := some 65) (v := ?v1312) rfl rfl (by kernel_rfl) (by kernel_rfl) (by kernel_rfl) (fun _ _ _ h => h) (Or.inl ⟨by rfl, ?hy1312⟩) hHeld ?rest1312
    case hy1312 =>
      intro wS hS
      go_simp
      all_goals with_reducible rfl
    (try simp only [Act.put, List.setIfInBounds_toArray, List.set_cons_zero, List.set_cons_succ])
    refine wpAnyH_takeD (i := 13) (d := some 66) (v := (.slice A n c)) rfl rfl (by kernel_rfl) (by kernel_rfl) (by kernel_rfl) (fun _ _ _ h => h) (Or.inl ⟨by rfl, ?hy1413⟩) hHeld ?rest1413
    case hy1413 =>
      intro wS hS
      exact run_sliceop_h _ _ _ rfl _ _ _ (by rfl) (by rfl) (hsl.out wS)
    (try simp only [Act.put, List.setIfInBounds_toArray, List.set_cons_zero, List.set_cons_succ])
    refine wpAnyH_takeD (i := 14) (d := some 67) (v := (.string F)) rfl rfl (by kernel_rfl) (by kernel_rfl) (by kernel_rfl) (fun _ _ _ h => h) (Or.inl ⟨by rfl, ?hy1514⟩) hHeld ?rest1514
    case hy1514 =>
      intro wS hS
      obtain ⟨t1, t2⟩ := hS
      go_simp
      all_goals with_reducible rfl
    (try simp only [Act.put, List.setIfInBounds_toArray, List.set_cons_zero, List.set_cons_succ])
    refine wpAnyH_takeD (i := 15) (d := some 68) (v := ?v1615) rfl rfl (by kernel_rfl) (by kernel_rfl) (by kernel_rfl) (fun _ _ _ h => h) (Or.inl ⟨by rfl, ?hy1615⟩) hHeld ?rest1615
    case hy1615 =>
      intro wS hS
      go_simp
      all_goals with_reducible rfl
    (try simp only [Act.put, List.setIfInBounds_toArray, List.set_cons_zero, List.set_cons_succ])
    refine wpAnyH_takeD (i := 16) (d := some 69) (v := ?v1716) rfl rfl (by kernel_rfl) (by kernel_rfl) (by kernel_rfl) (fun _ _ _ h => h) (Or.inl ⟨by rfl, ?hy1716⟩) hHeld ?rest1716
    case hy1716 =>
      intro wS hS
      go_simp
      all_goals with_reducible rfl
    (try simp only [Act.put, List.setIfInBounds_toArray, List.set_cons_zero, List.set_cons_succ])
    refine wpAnyH_takeD (i := 17) (d := some 70) (v := ?v1817) rfl rfl (by kernel_rfl) (by kernel_rfl) (by kernel_rfl) (fun _ _ _ h => h) (Or.inl ⟨by rfl, ?hy1817⟩) hHeld ?rest1817
    case hy1817 =>
      intro wS hS
      go_simp
      all_goals with_reducible rfl
    (try simp only [Act.put, List.setIfInBounds_toArray, List.set_cons_zero, List.set_cons_succ])
    refine wpAnyH_ready (rs := [18]) (by kernel_rfl) (by simp) (AllReadyH.cons rfl (fun K hK => ?_) AllReadyH.nil)
    rw [if_pos (by rfl)]
    go_simp
    refine (HKN.out wd).mono ?_
    rintro e w6 ⟨rfl, hb6⟩
    replace hs5 : SeesB w6 A5 P := Sees.below hs5 hb6
    replace hlP5 : SeesB w6 A P := Sees.below hlP5 hb6
    replace hbw5 := hbw5.trans (hb6.mono hbw5.size)
    go_wp2_with fail
    refine hK.out _ _ ⟨hs5, hlP5⟩ (fun hHeld => ?_)
    clear hK K
    (try simp only [Act.put, List.setIfInBounds_toArray, List.set_cons_zero, List.set_cons_succ])
    refine wpAnyH_takeD (i := 19) (d := some 72) (v := ?v1919) rfl rfl (by kernel_rfl) (by kernel_rfl) (by kernel_rfl) (fun _ _ _ h => h) (Or.inl ⟨by rfl, ?hy1919⟩) hHeld ?rest1919
    case hy1919 =>
      intro wS hS
      go_simp
      all_goals with_reducible rfl
    (try simp only [Act.put, List.setIfInBounds_toArray, List.set_cons_zero, List.set_cons_succ])
    refine wpAnyH_takeD (i := 20) (d := some 2) (v := ?v2020) rfl rfl (by kernel_rfl) (by kernel_rfl) (by kernel_rfl) (fun _ _ _ h => h) (Or.inl ⟨by rfl, ?hy2020⟩) hHeld ?rest2020
    case hy2020 =>
      intro wS hS
      go_simp
      all_goals with_reducible rfl
    (try simp only [Act.put, List.setIfInBounds_toArray, List.set_cons_zero, List.set_cons_succ])
    refine wpAnyH_done (by kernel_rfl) ?_ _
    go_wp2_with fail
    go_ret
    exact ⟨rfl, hbw5⟩
  · have de : (e != 0) = true := by simpa using he
    have de2 : decide (e = 0) = false := decide_eq_false he
    clear hpg he hl4 ht4 hT4 hs4
    go_wp2_with fail
    refine (HKN.out _).mono ?_
    rintro e w5 ⟨rfl, hb5⟩
    go_wp2_with fail
    go_ret
    exact ⟨rfl, hbw4.trans (hb5.mono hbw4.size)⟩
end tagsGets
end Go.Proofs.YtlcbfikmljmlpaaDoor
/- What the rows lay of utf8's two tables. -/
namespace Go.Proofs.YtlcbfikmljmlpaaDoor
set_option linter.unusedVariables false
open Go.RowKit Go.Shelf Go.Lib Go.Proofs
set_option maxRecDepth 100000 in
theorem tabs_of {w : World} (h : laidMetH Tryd.prog Rows.tagsCheckRow.laid w) : Tabs w := by
  rw [MakeChecks.laidMetH_plain _ _ _ (by kernel_rfl)] at h
  have e1 : Rows.laid_unicode_utf8_first = firstData := by kernel_rfl
  have e2 : (Rows.laid_unicode_utf8_acceptRanges : DataW Unit) = acceptData := by kernel_rfl
  have h4 := Lib.laidMet.reads h (.head _)
  have h3 := Lib.laidMet.reads h (.tail _ (.head _))
  rw [e1] at h3
  rw [e2] at h4
  exact utf8Tabs_of_readsT (U8Types.of196 laysValid) extra h3 h4
end Go.Proofs.YtlcbfikmljmlpaaDoor
