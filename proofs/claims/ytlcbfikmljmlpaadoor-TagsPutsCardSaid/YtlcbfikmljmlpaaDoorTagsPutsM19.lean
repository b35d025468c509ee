/- The walk of TagsPuts. -/
import Derived.Test.YtlcbfikmljmlpaaDoorTagsPutsM10
import Derived.Test.YtlcbfikmljmlpaaDoorTagsPutsM14
import Derived.Test.YtlcbfikmljmlpaaDoorTagsPutsM15
import Derived.Test.YtlcbfikmljmlpaaDoorTagsPutsM18
import Derived.Test.YtlcbfikmljmlpaaDoorTagsPutsM5
import Derived.Test.YtlcbfikmljmlpaaDoorTagsPutsM3
import Derived.Test.YtlcbfikmljmlpaaDoorRows
import Derived.MakeChecks
namespace Go.Proofs.YtlcbfikmljmlpaaDoor
set_option linter.unusedVariables false
open Go.RowKit
namespace tagsPuts
theorem bstr_self (L : List UInt8) : ((⟨L.toArray⟩ : ByteArray).toList == (⟨L.toArray⟩ : ByteArray).toList) = true := beq_self_eq_true _
set_option maxRecDepth 20000 in
set_option maxHeartbeats 8000000 in
theorem walk (A : Option Addr) (c : Nat) (l : List TagV) (A2 : Option Addr) (c2 : Nat) (more : List UInt8) (w : World) (h : SeesT w A l ∧ l.length ≤ c ∧ c ≤ maxLen) (h' : SeesB w A2 more ∧ more.length ≤ c2 ∧ c2 ≤ maxLen) (hT : Tabs w) :
    Calls Tryd.prog 7 #[.slice A l.length c, .slice A2 more.length c2] w fun e w' => e = .returned (.bool true) ∧ Below w.heap.size w w' := by
  obtain ⟨hl, hlc, hc⟩ := h
  obtain ⟨hm, hmc, hmx⟩ := h'
  have HKN := hid known_any
  have hml : more.length ≤ 9223372036854775807 := by unfold maxLen at hmx; omega
  go_enter Tryd.func7, Tryd.ntmps7
  go_wp2_with fail
  refine (fewT_any A c l w hl ⟨hlc, hc⟩).mono ?_
  rintro e w1 ⟨b, rfl, rfl, hfl⟩
  cases b with
  | false =>
    clear hfl hl hm
    go_wp2_with fail
    refine (HKN.out _).mono ?_
    rintro e w1 ⟨rfl, hb⟩
    go_wp2_with fail
    go_ret
    exact ⟨rfl, hb⟩
  | true =>
    obtain ⟨n1, s1⟩ := hfl rfl
    clear hfl
    by_cases h100 : 100 < more.length
    · have d1 : decide (100 < (more.length : Int)) = true := decide_eq_true (by omega)
      clear hl hm
      go_wp2_with fail
      refine (HKN.out _).mono ?_
      rintro e w1 ⟨rfl, hb⟩
      go_wp2_with fail
      go_ret
      exact ⟨rfl, hb⟩
    have d1 : decide (100 < (more.length : Int)) = false := decide_eq_false (by omega)
    have hlm : l.length ≤ maxLen := Nat.le_trans hlc hc
    have hBr := brief_of s1
    clear s1
    go_wp2_with fail
    refine (make_any w).mono ?_
    rintro e w1 ⟨rfl, hb1, ht⟩
    have hl1 := hl.below hb1
    have hm1 := hm.below hb1
    have hT1 := hT.below hb1
    clear hl hm hT
    have hrc := hid (fun W (hl : SeesT W A l) => rcheck_any A c l W hl hlc hlm hBr)
    by_cases hz : (checkT l).2 = 0
    · have hS := short_of hz
      have hput := hid (tagput_ok w.heap.size A c l w1 ht hl1 hlc hlm hBr hT1 hz)
      have hrput := hid (fun W (hl : SeesT W A l) => rtagput_any A c l W hl hS)
      have hgp := hid (getG_put l more hz hS)
      obtain ⟨L, hL⟩ : ∃ L, L = sealed (tagsB l) := ⟨_, rfl⟩
      have hLl : L.length ≤ 70004 := by
        have := tagsB_len hS
        rw [hL]; unfold sealed; rw [List.length_append, bytesLE_length]; omega
      have hl64 := hS.1
      rw [← hL] at hput hrput hgp
      clear hL hBr hS
      generalize checkT l = zy at *
      obtain ⟨z, y⟩ := zy
      simp only at hz hrc
      subst hz
      go_wp2_with fail
      refine hput.out.mono ?_
      rintro e w2 ⟨v, rfl, hv⟩
      obtain ⟨A3, c3, rfl, hs3, hA3, ho3, hb2⟩ := hv.parts
      have hbw2 := hb1.trans (hb2.mono hb1.size)
      have ht2 := ht.keep hb2 (by have := hb1.size; exact ht.lt)
      have hl2 := hl1.below hb2
      have hm2 := hm1.below hb2
      have hT2 := hT1.below hb2
      clear hput hv hA3 ho3 hl1 hm1 hT1
      go_wp2_with fail
      refine (hrc.out w2 hl2).mono ?_
      rintro e w3 ⟨rfl, hb3⟩
      have hbw3 := hbw2.trans (hb3.mono hbw2.size)
      have ht3 := ht2.keep hb3 ht2.lt
      have hl3 := hl2.below hb3
      have hm3 := hm2.below hb3
      have hT3 := hT2.below hb3
      have hs4 : SeesB w3 A3 L := hs3.below hb3
      clear hrc hb3 hl2 hm2 hT2 ht2 hs3 hb2 hbw2 ht
      have HN1 := hid (show 0 + L.length = L.length by omega)
      have HX1 := hid (show ([] : List Value) ++ L.map byteV = L.map byteV from rfl)
      obtain ⟨M, hM⟩ : ∃ M, M = L ++ more := ⟨_, rfl⟩
      have HN2 := hid (show L.length + more.length = M.length by rw [hM, List.length_append])
      have HX2 := hid (show L.map byteV ++ more.map byteV = M.map byteV by rw [hM, List.map_append])
      rw [← hM] at hgp
      clear hM
      go_wp2_with (at_builtin; first
        | (refine wpList_app rfl (.tmp 46) (.tmp 47) _ rfl elB rfl (own_nil w3 w3.heap.size 1 _) A3 L.length c3 rfl _ hs4 (by simp) (byte_one _) L.length HN1.out _ HX1.out (by unfold maxLen; omega) (by omega) (Nat.le_refl _) ?_; intro A5 c5 w5 hown5 hgr5 hat5 hbel5)
        | (refine wpList_app rfl (.tmp 48) (.tmp 49) _ rfl elB rfl hown5 A2 more.length c2 rfl _ (Sees.below hm3 hbel5) (by simp) (byte_one _) M.length HN2.out _ HX2.out (by have := HN2.out; unfold maxLen; omega) (by have := HN2.out; omega) hbel5.size ?_; intro A6 c6 w6 hown6 hgr6 hat6 hbel6))
      have hbel := hbel5.trans hbel6
      have hbw6 := hbw3.trans (hbel.mono hbw3.size)
      have ht6 := ht3.keep hbel ht3.lt
      have hl6 := hl3.below hbel
      have hT6 := hT3.below hbel
      have hs6 : SeesB w6 A3 L := Sees.below hs4 hbel
      have hsM : SeesB w6 A6 M := own_sees hown6
      have hcM := own_room hown6
      clear hbel hbel5 hbel6 hgr5 hgr6 hat5 hat6 hown5 hown6 hs4 hm3 ht3 hl3 hT3 hbw3 HX1 HX2 HN1
      have hget := hid (tagget_any w.heap.size A6 c6 M w6 ht6 hsM hcM.1 hcM.2 (by have := HN2.out; omega) hT6)
      rw [hgp.out] at hget
      go_wp2_with fail
      refine hget.out.mono ?_
      rintro e w7 ⟨A7, c7, rfl, hs7, hc7, hb7⟩
      have hbw7 := hbw6.trans (hb7.mono hbw6.size)
      have hl7 := hl6.below hb7
      have hs8 : SeesB w7 A3 L := Sees.below hs6 hb7
      clear hget hgp hcM hsM hs6 hl6 ht6 hT6 hb7 hbw6 HN2
      simp only at hs7 hc7
      obtain ⟨F, hF⟩ : ∃ F : ByteArray, F = ⟨L.toArray⟩ := ⟨_, rfl⟩
      have hcv : ∀ W, SeesB W A3 L → (convert 40 9 (.slice A3 L.length c3)).run Tryd.prog W = .ok (.string F) W := fun W h => by rw [hF]; exact conv_bs A3 c3 L W h
      have hse : (F.toList == F.toList) = true := beq_self_eq_true _
      have hsame := hid (fun W (h1 : SeesT W A l) (h2 : SeesT W A7 l) => rsameT_any A A7 c c7 l l W h1 h2 hlm (by unfold maxLen; omega))
      rw [sameT_refl] at hsame
      go_wp2_with fail
      -- REGION
      refine wp_region_held_drew (S := fun W => SeesB W A3 L) (by kernel_rfl) hs8 (fun hHeld => ?_)
      replace hs8 : SeesB w7.drew A3 L := hs8
      replace hs7 : SeesT w7.drew A7 l := hs7
      replace hl7 : SeesT w7.drew A l := hl7
      replace hbw7 : Below w.heap.size w w7.drew := hbw7.drew
      generalize w7.drew = wd at *
      refine wpAnyH_takeD (i := 0) (d := some 58) (v := ?v100) rfl rfl (by kernel_rfl) (by kernel_rfl) (by kernel_rfl) (fun _ _ _ h => h) (Or.inl ⟨by rfl, ?hy100⟩) hHeld ?rest100
      case hy100 =>
        intro wS hS
        go_simp
        all_goals with_reducible rfl
      (try simp only [Act.put, List.setIfInBounds_toArray, List.set_cons_zero, List.set_cons_succ])
      refine wpAnyH_takeD (i := 1) (d := some 59) (v := (.string F)) rfl rfl (by kernel_rfl) (by kernel_rfl) (by kernel_rfl) (fun _ _ _ h => h) (Or.inl ⟨by rfl, ?hy201⟩) hHeld ?rest201
      case hy201 =>
        intro wS hS
        go_simp
        all_goals with_reducible rfl
      (try simp only [Act.put, List.setIfInBounds_toArray, List.set_cons_zero, List.set_cons_succ])
      refine wpAnyH_takeD (i := 2) (d := some 60) (v := ?v302) rfl rfl (by kernel_rfl) (by kernel_rfl) (by kernel_rfl) (fun _ _ _ h => h) (Or.inl ⟨by rfl, ?hy302⟩) hHeld ?rest302
      case hy302 =>
        intro wS hS
        go_simp
        all_goals with_reducible rfl
      (try simp only [Act.put, List.setIfInBounds_toArray, List.set_cons_zero, List.set_cons_succ])
      refine wpAnyH_ready (rs := [3]) (by kernel_rfl) (by simp) (AllReadyH.cons rfl (fun K hK => ?_) AllReadyH.nil)
      rw [if_pos (by rfl)]
      go_simp
      refine (hrput.out wd hl7).mono ?_
      rintro e w8 ⟨v, rfl, hv⟩
      obtain ⟨A8, c8, rfl, hs9, hA8, ho8, hb8⟩ := hv.parts
      have hcv8 : ∀ W, SeesB W A8 L → (convert 40 9 (.slice A8 L.length c8)).run Tryd.prog W = .ok (.string F) W := fun W h => by rw [hF]; exact conv_bs A8 c8 L W h
      replace hs8 : SeesB w8 A3 L := Sees.below hs8 hb8
      replace hs7 := hs7.below hb8
      replace hl7 := hl7.below hb8
      replace hbw7 := hbw7.trans (hb8.mono hbw7.size)
      clear hb8 hv hA8 ho8
      go_wp2_with fail
      refine hK.out _ _ hs8 (fun hHeld => ?_)
      clear hK K
      (try simp only [Act.put, List.setIfInBounds_toArray, List.set_cons_zero, List.set_cons_succ])
      refine wpAnyH_ready (rs := [4]) (by kernel_rfl) (by simp) (AllReadyH.cons rfl (fun K hK => ?_) AllReadyH.nil)
      rw [if_pos (by rfl)]
      go_wp2_with fail
      refine hK.out _ _ hs8 (fun hHeld => ?_)
      clear hK K
      (try simp only [Act.put, List.setIfInBounds_toArray, List.set_cons_zero, List.set_cons_succ])
      refine wpAnyH_takeD (i := 5) (d := some 63) (v := ?v405) rfl rfl (by kernel_rfl) (by kernel_rfl) (by kernel_rfl) (fun _ _ _ h => h) (Or.inl ⟨by rfl, ?hy405⟩) hHeld ?rest405
      case hy405 =>
        intro wS hS
        go_simp
        all_goals with_reducible rfl
      (try simp only [Act.put, List.setIfInBounds_toArray, List.set_cons_zero, List.set_cons_succ])
      refine wpAnyH_takeD (i := 6) (d := some 64) (v := ?v506) rfl rfl (by kernel_rfl) (by kernel_rfl) (by kernel_rfl) (fun _ _ _ h => h) (Or.inl ⟨by rfl, ?hy506⟩) hHeld ?rest506
      case hy506 =>
        intro wS hS
        go_simp
        all_goals with_reducible rfl
      (try simp only [Act.put, List.setIfInBounds_toArray, List.set_cons_zero, List.set_cons_succ])
      refine wpAnyH_takeD (i := 7) (d := some 65) (v := ?v607) rfl rfl (by kernel_rfl) (by kernel_rfl) (by kernel_rfl) (fun _ _ _ h => h) (Or.inl ⟨by rfl, ?hy607⟩) hHeld ?rest607
      case hy607 =>
        intro wS hS
        go_simp
        all_goals with_reducible rfl
      (try simp only [Act.put, List.setIfInBounds_toArray, List.set_cons_zero, List.set_cons_succ])
      refine wpAnyH_takeD (i := 8) (d := some 66) (v := ?v708) rfl rfl (by kernel_rfl) (by kernel_rfl) (by kernel_rfl) (fun _ _ _ h => h) (Or.inl ⟨by rfl, ?hy708⟩) hHeld ?rest708
      case hy708 =>
        intro wS hS
        go_simp
        all_goals with_reducible rfl
      (try simp only [Act.put, List.setIfInBounds_toArray, List.set_cons_zero, List.set_cons_succ])
      refine wpAnyH_takeD (i := 9) (d := some 67) (v := ?v809) rfl rfl (by kernel_rfl) (by kernel_rfl) (by kernel_rfl) (fun _ _ _ h => h) (Or.inl ⟨by rfl, ?hy809⟩) hHeld ?rest809
      case hy809 =>
        intro wS hS
        go_simp
        all_goals with_reducible rfl
      (try simp only [Act.put, List.setIfInBounds_toArray, List.set_cons_zero, List.set_cons_succ])
      refine wpAnyH_takeD (i := 10) (d := some 68) (v := ?v910) rfl rfl (by kernel_rfl) (by kernel_rfl) (by kernel_rfl) (fun _ _ _ h => h) (Or.inl ⟨by rfl, ?hy910⟩) hHeld ?rest910
      case hy910 =>
        intro wS hS
        go_simp
        all_goals with_reducible rfl
      (try simp only [Act.put, List.setIfInBounds_toArray, List.set_cons_zero, List.set_cons_succ])
      refine wpAnyH_takeD (i := 11) (d := some 69) (v := ?v1011) rfl rfl (by kernel_rfl) (by kernel_rfl) (by kernel_rfl) (fun _ _ _ h => h) (Or.inl ⟨by rfl, ?hy1011⟩) hHeld ?rest1011
      case hy1011 =>
        intro wS hS
        go_simp
        all_goals with_reducible rfl
      (try simp only [Act.put, List.setIfInBounds_toArray, List.set_cons_zero, List.set_cons_succ])
      refine wpAnyH_takeD (i := 12) (d := some 70) (v := ?v1112) rfl rfl (by kernel_rfl) (by kernel_rfl) (by kernel_rfl) (fun _ _ _ h => h) (Or.inl ⟨by rfl, ?hy1112⟩) hHeld ?rest1112
      case hy1112 =>
        intro wS hS
        go_simp
        all_goals with_reducible rfl
      (try simp only [Act.put, List.setIfInBounds_toArray, List.set_cons_zero, List.set_cons_succ])
      refine wpAnyH_takeD (i := 13) (d := some 71) (v := ?v1213) rfl rfl (by kernel_rfl) (by kernel_rfl) (by kernel_rfl) (fun _ _ _ h => h) (Or.inl ⟨by rfl, ?hy1213⟩) hHeld ?rest1213
      case hy1213 =>
        intro wS hS
        go_simp
        all_goals with_reducible rfl
      (try simp only [Act.put, List.setIfInBounds_toArray, List.set_cons_zero, List.set_cons_succ])
      refine wpAnyH_takeD (i := 14) (d := some 72) (v := ?v1314) rfl rfl (by kernel_rfl) (by kernel_rfl) (by kernel_rfl) (fun _ _ _ h => h) (Or.inl ⟨by rfl, ?hy1314⟩) hHeld ?rest1314
      case hy1314 =>
        intro wS hS
        go_simp
        all_goals with_reducible rfl
      (try simp only [Act.put, List.setIfInBounds_toArray, List.set_cons_zero, List.set_cons_succ])
      refine wpAnyH_takeD (i := 15) (d := some 73) (v := ?v1415) rfl rfl (by kernel_rfl) (by kernel_rfl) (by kernel_rfl) (fun _ _ _ h => h) (Or.inl ⟨by rfl, ?hy1415⟩) hHeld ?rest1415
      case hy1415 =>
        intro wS hS
        go_simp
        all_goals with_reducible rfl
      (try simp only [Act.put, List.setIfInBounds_toArray, List.set_cons_zero, List.set_cons_succ])
      refine wpAnyH_takeD (i := 16) (d := some 74) (v := ?v1516) rfl rfl (by kernel_rfl) (by kernel_rfl) (by kernel_rfl) (fun _ _ _ h => h) (Or.inl ⟨by rfl, ?hy1516⟩) hHeld ?rest1516
      case hy1516 =>
        intro wS hS
        go_simp
        all_goals with_reducible rfl
      (try simp only [Act.put, List.setIfInBounds_toArray, List.set_cons_zero, List.set_cons_succ])
      refine wpAnyH_takeD (i := 17) (d := some 75) (v := ?v1617) rfl rfl (by kernel_rfl) (by kernel_rfl) (by kernel_rfl) (fun _ _ _ h => h) (Or.inl ⟨by rfl, ?hy1617⟩) hHeld ?rest1617
      case hy1617 =>
        intro wS hS
        go_simp
        all_goals with_reducible rfl
      (try simp only [Act.put, List.setIfInBounds_toArray, List.set_cons_zero, List.set_cons_succ])
      refine wpAnyH_takeD (i := 18) (d := some 76) (v := ?v1718) rfl rfl (by kernel_rfl) (by kernel_rfl) (by kernel_rfl) (fun _ _ _ h => h) (Or.inl ⟨by rfl, ?hy1718⟩) hHeld ?rest1718
      case hy1718 =>
        intro wS hS
        go_simp
        all_goals with_reducible rfl
      (try simp only [Act.put, List.setIfInBounds_toArray, List.set_cons_zero, List.set_cons_succ])
      refine wpAnyH_ready (rs := [19]) (by kernel_rfl) (by simp) (AllReadyH.cons rfl (fun K hK => ?_) AllReadyH.nil)
      rw [if_pos (by rfl)]
      go_simp
      refine (hsame.out w8 hl7 hs7).mono ?_
      rintro e w9 ⟨rfl, hb9⟩
      replace hs8 : SeesB w9 A3 L := Sees.below hs8 hb9
      replace hbw7 := hbw7.trans (hb9.mono hbw7.size)
      clear hb9 hl7 hs7
      go_wp2_with fail
      refine hK.out _ _ hs8 (fun hHeld => ?_)
      clear hK K
      (try simp only [Act.put, List.setIfInBounds_toArray, List.set_cons_zero, List.set_cons_succ])
      refine wpAnyH_takeD (i := 20) (d := some 78) (v := ?v1820) rfl rfl (by kernel_rfl) (by kernel_rfl) (by kernel_rfl) (fun _ _ _ h => h) (Or.inl ⟨by rfl, ?hy1820⟩) hHeld ?rest1820
      case hy1820 =>
        intro wS hS
        go_simp
        all_goals with_reducible rfl
      (try simp only [Act.put, List.setIfInBounds_toArray, List.set_cons_zero, List.set_cons_succ])
      refine wpAnyH_takeD (i := 21) (d := some 79) (v := ?v1921) rfl rfl (by kernel_rfl) (by kernel_rfl) (by kernel_rfl) (fun _ _ _ h => h) (Or.inl ⟨by rfl, ?hy1921⟩) hHeld ?rest1921
      case hy1921 =>
        intro wS hS
        go_simp
        all_goals with_reducible rfl
      (try simp only [Act.put, List.setIfInBounds_toArray, List.set_cons_zero, List.set_cons_succ])
      refine wpAnyH_ready (rs := [22]) (by kernel_rfl) (by simp) (AllReadyH.cons rfl (fun K hK => ?_) AllReadyH.nil)
      rw [if_pos (by rfl)]
      go_simp
      refine (HKN.out w9).mono ?_
      rintro e w10 ⟨rfl, hb10⟩
      replace hs8 : SeesB w10 A3 L := Sees.below hs8 hb10
      replace hbw7 := hbw7.trans (hb10.mono hbw7.size)
      go_wp2_with fail
      refine hK.out _ _ hs8 (fun hHeld => ?_)
      clear hK K
      (try simp only [Act.put, List.setIfInBounds_toArray, List.set_cons_zero, List.set_cons_succ])
      refine wpAnyH_takeD (i := 23) (d := some 81) (v := ?v2023) rfl rfl (by kernel_rfl) (by kernel_rfl) (by kernel_rfl) (fun _ _ _ h => h) (Or.inl ⟨by rfl, ?hy2023⟩) hHeld ?rest2023
      case hy2023 =>
        intro wS hS
        go_simp
        all_goals with_reducible rfl
      (try simp only [Act.put, List.setIfInBounds_toArray, List.set_cons_zero, List.set_cons_succ])
      refine wpAnyH_takeD (i := 24) (d := some 4) (v := ?v2124) rfl rfl (by kernel_rfl) (by kernel_rfl) (by kernel_rfl) (fun _ _ _ h => h) (Or.inl ⟨by rfl, ?hy2124⟩) hHeld ?rest2124
      case hy2124 =>
        intro wS hS
        go_simp
        all_goals with_reducible rfl
      (try simp only [Act.put, List.setIfInBounds_toArray, List.set_cons_zero, List.set_cons_succ])
      refine wpAnyH_done (by kernel_rfl) ?_ _
      go_wp2_with fail
      go_ret
      exact ⟨rfl, hbw7⟩
      -- END
    · have hput := hid (tagput_bad w.heap.size A c l w1 hl1 hlc hlm hBr hT1 hz)
      generalize checkT l = zy at *
      obtain ⟨z, y⟩ := zy
      simp only at hz hrc hput
      have dy : (y != 0) = true := by simpa using hz
      have dy2 : decide (y = 0) = false := decide_eq_false hz
      go_wp2_with fail
      refine hput.out.mono ?_
      rintro e w2 ⟨rfl, hb2⟩
      have hbw2 := hb1.trans (hb2.mono hb1.size)
      have hl2 := hl1.below hb2
      go_wp2_with fail
      refine (hrc.out w2 hl2).mono ?_
      rintro e w3 ⟨rfl, hb3⟩
      have hbw3 := hbw2.trans (hb3.mono hbw2.size)
      clear hput hrc hz hm1 hl1 hl2 ht hT1 hb1 hb2 hb3 hbw2
      go_wp2_with fail
      refine (HKN.out _).mono ?_
      rintro e w4 ⟨rfl, hb4⟩
      go_wp2_with fail
      go_ret
      exact ⟨rfl, hbw3.trans (hb4.mono hbw3.size)⟩
end tagsPuts
end Go.Proofs.YtlcbfikmljmlpaaDoor
/- A slice of tags that is handed in. -/
namespace Go.Proofs.YtlcbfikmljmlpaaDoor
set_option linter.unusedVariables false
open Go.RowKit
section
open Go.ChangeShapes Go.WideShapes Go.ChangeAt Go.Deep
variable {H : Type} {enc : TypeId × Value → H} {P : Program} {w : World} {base b0 : Nat} {spare : Nat → Bool} {held : Bool} {r : Reach}
/-- the tag that lies at an address -/
noncomputable def tagAt (w : World) (a : Addr) : TagV :=
  ⟨match w.cell? a with | some (.string s) => s | _ => ByteArray.empty, match w.cell? (a.add 1) with | some (.string s) => s | _ => ByteArray.empty⟩
theorem open_tags_of {t e : TypeId} {v : Value} {d : DataW H} {p : List MemPlace} (ht : P.underlying t = some (.slice e)) (f0 f1 : Field) (he : P.underlying e = some (.struct #[f0, f1]))
    (hone : oneCellFields P #[f0, f1] = true) (hC : P.cellsOf e = 2) (k0 : P.underlying f0.type = some .string) (k1 : P.underlying f1.type = some .string)
    (hv : Value.okWide P w r b0 t v) (h : DataW.Trod enc P w base spare held t v d p) :
    ∃ (A : Option Addr) (c : Nat) (l : List TagV), v = .slice A l.length c ∧ SeesT w A l ∧ l.length ≤ c ∧ c ≤ maxLen := by
  obtain ⟨A, n, c, rfl⟩ := okWide_slice ht hv
  obtain ⟨fuel, hf⟩ := h
  rcases open_slice_fields ht he hone hC hf with ⟨hcs, _⟩ | ⟨a, len, cap, m, D, Pl, hcs, _, hl, hm, hmm, _, hi⟩
  · simp [Value.cells] at hcs
    obtain ⟨rfl, rfl, rfl⟩ := hcs
    exact ⟨none, 0, [], rfl, fun i hi => by simp at hi, by simp, by simp⟩
  · simp [Value.cells] at hcs
    obtain ⟨rfl, rfl, rfl⟩ := hcs
    have hnm : n ≤ m := by rw [hmm]; split <;> omega
    have key : ∀ i, i < n → w.cell? (a.add (i * 2)) = some (.string (tagAt w (a.add (i * 2))).k) ∧ w.cell? ((a.add (i * 2)).add 1) = some (.string (tagAt w (a.add (i * 2))).v) := by
      intro i hin
      obtain ⟨ys, q, _, _, _, hg⟩ := hi i (by omega)
      obtain ⟨v0, y0, c0, _, t0⟩ := hg 0 f0 rfl
      obtain ⟨v1, y1, c1, _, t1⟩ := hg 1 f1 rfl
      obtain ⟨s0, hs0, _⟩ := DataW.trod_string k0 t0
      obtain ⟨s1, hs1, _⟩ := DataW.trod_string k1 t1
      injection hs0 with hs0 _
      injection hs1 with hs1 _
      subst hs0 hs1
      change w.cell? (a.add (i * 2 + 0)) = _ at c0
      change w.cell? (a.add (i * 2 + 1)) = _ at c1
      rw [Nat.add_zero] at c0
      rw [← addr_add] at c1
      unfold tagAt
      simp only [c0, c1]
      exact ⟨trivial, trivial⟩
    refine ⟨some a, c, (List.range n).map fun i => tagAt w (a.add (i * 2)), by simp, ?_, by simpa using hl, hm⟩
    intro i hi'
    have hin : i < n := by simpa using hi'
    obtain ⟨h0, h1⟩ := key i hin
    refine ⟨a, rfl, ?_⟩
    simp only [List.getElem_map, List.getElem_range]
    exact ⟨h0, h1⟩
set_option maxRecDepth 100000 in
theorem open_tags {v : Value} {d : DataW H} {p : List MemPlace} (hv : Value.okWide Tryd.prog w r b0 22 v) (h : DataW.Trod enc Tryd.prog w base spare held 22 v d p) :
    ∃ (A : Option Addr) (c : Nat) (l : List TagV), v = .slice A l.length c ∧ SeesT w A l ∧ l.length ≤ c ∧ c ≤ maxLen :=
  open_tags_of Tryd.underlying22 _ _ Tryd.underlying30 (by kernel_rfl) (by kernel_rfl) Tryd.underlying9 Tryd.underlying9 hv h
end
end Go.Proofs.YtlcbfikmljmlpaaDoor
/- What the rows lay of utf8's two tables. -/
namespace Go.Proofs.YtlcbfikmljmlpaaDoor
set_option linter.unusedVariables false
open Go.RowKit Go.Shelf Go.Lib Go.Proofs
set_option maxRecDepth 100000 in
theorem tabs_of {w : World} (h : laidMetH Tryd.prog Rows.tagsCheckRow.laid w) : Tabs w := by
  rw [MakeChecks.laidMetH_plain _ _ _ (by kernel_rfl)] at h
  have e1 : Rows.laid_unicode_utf8_first = firstData := by kernel_rfl
  have e2 : (Rows.laid_unicode_utf8_acceptRanges : DataW Unit) = acceptData := by kernel_rfl
  have h4 := Lib.laidMet.reads h (.head _)
  have h3 := Lib.laidMet.reads h (.tail _ (.head _))
  rw [e1] at h3
  rw [e2] at h4
  exact utf8Tabs_of_readsT (U8Types.of196 laysValid) extra h3 h4
end Go.Proofs.YtlcbfikmljmlpaaDoor
