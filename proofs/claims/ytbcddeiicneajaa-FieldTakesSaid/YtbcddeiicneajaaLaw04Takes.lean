/- The walk of FieldTakes. -/
import Derived.Test.YtbcddeiicneajaaLaw04Known
import Derived.Test.YtbcddeiicneajaaLaw04Answers
import Derived.Test.YtbcddeiicneajaaAsks
import Derived.Test.YtbcddeiicneajaaTakerErr
import Derived.Test.YtbcddeiicneajaaTakerLeft
namespace Go.Proofs.Ytbcddeiicneajaa.fieldTakes
set_option linter.unusedVariables false
open Go.RowKit
set_option maxRecDepth 20000 in
set_option maxHeartbeats 8000000 in
theorem walk (A : Option Addr) (c : Nat) (l : List UInt8) (Aq : Option Addr) (cq : Nat) (L : List Asked) (w : World) (h : SeesB w A l ∧ l.length ≤ c ∧ c ≤ maxLen) (h' : SeesQ w Aq L ∧ L.length ≤ cq ∧ cq ≤ maxLen ∧ ∀ x ∈ L, x.fine) :
    Calls Try.prog 6 #[.slice A l.length c, .slice Aq L.length cq] w fun e w' => e = .returned (.bool true) ∧ Below w.heap.size w w' := by
  obtain ⟨hl, hlc, hcm⟩ := h
  obtain ⟨hq, hqc, hqm, hfine⟩ := h'
  unfold maxLen at hqm
  by_cases h5 : l.length ≤ 500
  case neg =>
    have d5 : decide (500 < (l.length : Int)) = true := decide_eq_true (by omega)
    go_enter Try.func6, Try.ntmps6
    go_wp2_with fail
    refine (known_any _).mono ?_
    rintro e wz ⟨rfl, hbz⟩
    go_wp2_with fail
    go_ret
    exact ⟨rfl, hbz⟩
  have d5 : decide (500 < (l.length : Int)) = false := decide_eq_false (by omega)
  by_cases h6 : L.length ≤ 60
  case neg =>
    have d6 : decide (60 < (L.length : Int)) = true := decide_eq_true (by omega)
    go_enter Try.func6, Try.ntmps6
    go_wp2_with fail
    refine (known_any _).mono ?_
    rintro e wz ⟨rfl, hbz⟩
    go_wp2_with fail
    go_ret
    exact ⟨rfl, hbz⟩
  have d6 : decide (60 < (L.length : Int)) = false := decide_eq_false (by omega)
  have HQ := hid hq
  have HF := hid hfine
  have HLC := hid hlc
  have hlen : l.length ≤ 140737488355328 := by omega
  clear hfine hq hlc
  go_enter Try.func6, Try.ntmps6
  go_wp2_with fail
  refine (take_any A c l w hl hlen).mono ?_
  rintro e w1 ⟨g, rfl, hg, hT, hb1⟩
  have hl1 := hl.below hb1
  have hb2 : Below w1.heap.size w1 (w1.alloc (.cells #[.slice A l.length c, .int .i64 0, .int .i64 0] 52)) := (Below.refl _ w1).alloc (Nat.le_refl _) _
  have hrow := heap_alloc_new w1 (.cells #[.slice A l.length c, .int .i64 0, .int .i64 0] 52)
  have hgl : g < w1.heap.size := by obtain ⟨_, _, hg', _⟩ := hT; exact (Array.getElem?_eq_some_iff.1 hg').1
  have hR : Rk (w1.alloc (.cells #[.slice A l.length c, .int .i64 0, .int .i64 0] 52)) w1.heap.size 0 0 l := ⟨A, c, hrow, hl1.below hb2, HLC.out, hcm, Nat.zero_le _⟩
  replace hT := hT.below hb2
  have hbW := hb1.trans (hb2.mono hb1.size)
  have hs1 := hb1.size
  go_wp2_with fail
  obtain ⟨g2, hg2⟩ : ∃ g2, g2 = w1.heap.size := ⟨_, rfl⟩
  rw [← hg2] at hR hs1 hgl ⊢
  generalize w1.alloc (.cells #[.slice A l.length c, .int .i64 0, .int .i64 0] 52) = w2 at *
  clear hb1 hb2 hrow hl1 hg2 hl
  have hne : g ≠ g2 := by omega
  go_loopw [7] (fun iv wr => ∃ (k : Nat) (E : Int) (q : Nat), k ≤ L.length ∧ iv = .int .i64 (k : Int) ∧ Tk wr g E q l ∧ Rk wr g2 E q l ∧ Below w.heap.size w wr) (fun iv _ => L.length - (intOf iv).toNat)
  case atStart => exact ⟨0, 0, 0, by omega, rfl, hT, hR, hbW⟩
  case round =>
    clear hT hR hbW
    obtain ⟨k, E, q, hk, rfl, hT, hR, hbW⟩ := hrel
    by_cases hlt : k < L.length
    · have dk : decide ((k : Int) < (L.length : Int)) = true := decide_eq_true (by omega)
      have ck : (k : Int) < (L.length : Int) := by omega
      obtain ⟨a, rfl, q0, q1, q2⟩ := HQ.out.at hlt
      have hn := HF.out L[k] (List.getElem_mem hlt)
      unfold Asked.fine at hn
      generalize L[k] = D at *
      have HQW := hid (fun W (hW : Below w.heap.size w W) => show W.cell? (a.add (k * 3)) = some (.int .i64 D.k) ∧ W.cell? { block := (a.add (k * 3)).block, off := (a.add (k * 3)).off + 1 } = some (.int .i64 D.n) ∧ W.cell? { block := (a.add (k * 3)).block, off := (a.add (k * 3)).off + 2 } = some (.string D.s) from ⟨(hW.cell (block_lt_of_cell q0)).trans q0, (hW.cell (block_lt_of_cell q1)).trans q1, (hW.cell (block_lt_of_cell q2)).trans q2⟩)
      clear q0 q1 q2
      obtain ⟨q0, q1, q2⟩ := HQW.out wr hbW
      by_cases h3 : D.s.size ≤ 300
      case neg =>
        have d3 : decide (300 < (D.s.size : Int)) = true := decide_eq_true (by omega)
        go_wp2_with fail
        refine (known_any _).mono ?_
        rintro e wz ⟨rfl, hbz⟩
        go_wp2_with fail
        go_ret
        exact ⟨rfl, hbW.trans (hbz.mono hbW.size)⟩
      have d3 : decide (300 < (D.s.size : Int)) = false := decide_eq_false (by omega)
      have HA := hid (fun W (hT : Tk W g E q l) (hR : Rk W g2 E q l) => answers_any g g2 w.heap.size E q l D.k D.n D.s W hT hR hne hlen hn (by omega) (by omega) (by omega))
      clear hn h3
      go_wp2_with fail
      · skip
        refine wp_region_held_drew (S := fun W => W.cell? (a.add (k * 3)) = some (.int .i64 D.k) ∧ W.cell? { block := (a.add (k * 3)).block, off := (a.add (k * 3)).off + 1 } = some (.int .i64 D.n) ∧ W.cell? { block := (a.add (k * 3)).block, off := (a.add (k * 3)).off + 2 } = some (.string D.s)) (by kernel_rfl) (HQW.out wr hbW) (fun hHeld => ?_)
        replace hT : Tk wr.drew g E q l := hT
        replace hR : Rk wr.drew g2 E q l := hR
        replace hbW : Below w.heap.size w wr.drew := hbW.drew
        generalize wr.drew = wd at *
        refine wpAnyH_takeD (i := 0) (d := some 36) (v := ?v100) rfl rfl (by kernel_rfl) (by kernel_rfl) (by kernel_rfl) (fun _ _ _ h => h) (Or.inl ⟨by rfl, ?hy100⟩) hHeld ?rest100
        case hy100 =>
          intro wS hS
          go_simp
          all_goals with_reducible rfl
        (try simp only [Act.put, List.setIfInBounds_toArray, List.set_cons_zero, List.set_cons_succ])
        refine wpAnyH_takeD (i := 1) (d := some 37) (v := ?v101) rfl rfl (by kernel_rfl) (by kernel_rfl) (by kernel_rfl) (fun _ _ _ h => h) (Or.inl ⟨by rfl, ?hy101⟩) hHeld ?rest101
        case hy101 =>
          intro wS hS
          go_simp
          all_goals with_reducible rfl
        (try simp only [Act.put, List.setIfInBounds_toArray, List.set_cons_zero, List.set_cons_succ])
        refine wpAnyH_takeD (i := 2) (d := some 38) (v := ?v102) rfl rfl (by kernel_rfl) (by kernel_rfl) (by kernel_rfl) (fun _ _ _ h => h) (Or.inl ⟨by rfl, ?hy102⟩) hHeld ?rest102
        case hy102 =>
          intro wS hS
          go_simp
          all_goals with_reducible rfl
        (try simp only [Act.put, List.setIfInBounds_toArray, List.set_cons_zero, List.set_cons_succ])
        refine wpAnyH_takeD (i := 3) (d := some 39) (v := ?v103) rfl rfl (by kernel_rfl) (by kernel_rfl) (by kernel_rfl) (fun _ _ _ h => h) (Or.inl ⟨by rfl, ?hy103⟩) hHeld ?rest103
        case hy103 =>
          intro wS hS
          go_simp
          all_goals with_reducible rfl
        (try simp only [Act.put, List.setIfInBounds_toArray, List.set_cons_zero, List.set_cons_succ])
        refine wpAnyH_takeD (i := 4) (d := some 40) (v := ?v104) rfl rfl (by kernel_rfl) (by kernel_rfl) (by kernel_rfl) (fun _ _ _ h => h) (Or.inl ⟨by rfl, ?hy104⟩) hHeld ?rest104
        case hy104 =>
          intro wS hS
          go_simp
          all_goals with_reducible rfl
        (try simp only [Act.put, List.setIfInBounds_toArray, List.set_cons_zero, List.set_cons_succ])
        refine wpAnyH_takeD (i := 5) (d := some 41) (v := ?v105) rfl rfl (by kernel_rfl) (by kernel_rfl) (by kernel_rfl) (fun _ _ _ h => h) (Or.inl ⟨by rfl, ?hy105⟩) hHeld ?rest105
        case hy105 =>
          intro wS hS
          obtain ⟨e1, e2, e3⟩ := hS
          go_simp
          all_goals with_reducible rfl
        (try simp only [Act.put, List.setIfInBounds_toArray, List.set_cons_zero, List.set_cons_succ])
        refine wpAnyH_ready (rs := [6]) (by kernel_rfl) (by simp) (AllReadyH.cons rfl (fun K hK => ?_) AllReadyH.nil)
        rw [if_pos (by rfl)]
        go_simp
        refine (HA.out _ hT hR).mono ?_
        rintro e wa ⟨rfl, E2, p2, hT2, hR2, hbn⟩
        replace hbW := hbW.trans hbn
        clear hT hR HA hbn
        obtain ⟨_, _, t0, t1, t2, _⟩ := hT2.cells
        obtain ⟨_, _, r0, r1, r2, _⟩ := hR2.cells
        have HTL := hid (fun W (hW : Tk W g E2 p2 l) => tleft_is g E2 p2 l W hW hlen)
        have HRL := hid (fun W (hW : Rk W g2 E2 p2 l) => rleft_is g2 E2 p2 l W hW hlen)
        generalize (if E2 = 0 then ((l.length - p2 : Nat) : Int) else 0) = V at *
        go_wp2_with fail
        refine hK.out _ _ (HQW.out _ hbW) (fun hHeld => ?_)
        clear hK K
        (try simp only [Act.put, List.setIfInBounds_toArray, List.set_cons_zero, List.set_cons_succ])
        refine wpAnyH_takeD (i := 7) (d := some 43) (v := ?v106) rfl rfl (by kernel_rfl) (by kernel_rfl) (by kernel_rfl) (fun _ _ _ h => h) (Or.inl ⟨by rfl, ?hy106⟩) hHeld ?rest106
        case hy106 =>
          intro wS hS
          go_simp
          all_goals with_reducible rfl
        (try simp only [Act.put, List.setIfInBounds_toArray, List.set_cons_zero, List.set_cons_succ])
        refine wpAnyH_takeD (i := 8) (d := some 44) (v := ?v107) rfl rfl (by kernel_rfl) (by kernel_rfl) (by kernel_rfl) (fun _ _ _ h => h) (Or.inl ⟨by rfl, ?hy107⟩) hHeld ?rest107
        case hy107 =>
          intro wS hS
          go_simp
          all_goals with_reducible rfl
        (try simp only [Act.put, List.setIfInBounds_toArray, List.set_cons_zero, List.set_cons_succ])
        refine wpAnyH_takeD (i := 9) (d := some 45) (v := ?v108) rfl rfl (by kernel_rfl) (by kernel_rfl) (by kernel_rfl) (fun _ _ _ h => h) (Or.inl ⟨by rfl, ?hy108⟩) hHeld ?rest108
        case hy108 =>
          intro wS hS
          go_simp
          all_goals with_reducible rfl
        (try simp only [Act.put, List.setIfInBounds_toArray, List.set_cons_zero, List.set_cons_succ])
        refine wpAnyH_takeD (i := 11) (d := some 47) (v := ?v109) rfl rfl (by kernel_rfl) (by kernel_rfl) (by kernel_rfl) (fun _ _ _ h => h) (Or.inl ⟨by rfl, ?hy109⟩) hHeld ?rest109
        case hy109 =>
          intro wS hS
          go_simp
          all_goals with_reducible rfl
        (try simp only [Act.put, List.setIfInBounds_toArray, List.set_cons_zero, List.set_cons_succ])
        refine wpAnyH_takeD (i := 12) (d := some 48) (v := ?v110) rfl rfl (by kernel_rfl) (by kernel_rfl) (by kernel_rfl) (fun _ _ _ h => h) (Or.inl ⟨by rfl, ?hy110⟩) hHeld ?rest110
        case hy110 =>
          intro wS hS
          go_simp
          all_goals with_reducible rfl
        (try simp only [Act.put, List.setIfInBounds_toArray, List.set_cons_zero, List.set_cons_succ])
        refine wpAnyH_takeD (i := 13) (d := some 49) (v := ?v111) rfl rfl (by kernel_rfl) (by kernel_rfl) (by kernel_rfl) (fun _ _ _ h => h) (Or.inl ⟨by rfl, ?hy111⟩) hHeld ?rest111
        case hy111 =>
          intro wS hS
          go_simp
          all_goals with_reducible rfl
        (try simp only [Act.put, List.setIfInBounds_toArray, List.set_cons_zero, List.set_cons_succ])
        refine wpAnyH_ready (rs := [10, 14]) (by kernel_rfl) (by simp) (AllReadyH.cons rfl (fun K hK => ?_) (AllReadyH.cons rfl (fun K hK => ?_) AllReadyH.nil))
        · rw [if_pos (by rfl)]
          go_simp
          refine (terr_is g E2 _ t0).mono ?_
          rintro e wb ⟨rfl, rfl⟩
          go_wp2_with fail
          refine hK.out _ _ (HQW.out _ hbW) (fun hHeld => ?_)
          clear hK K
          (try simp only [Act.put, List.setIfInBounds_toArray, List.set_cons_zero, List.set_cons_succ])
          refine wpAnyH_ready (rs := [14]) (by kernel_rfl) (by simp) (AllReadyH.cons rfl (fun K hK => ?_) AllReadyH.nil)
          rw [if_pos (by rfl)]
          go_simp
          refine hK.out _ _ (HQW.out _ hbW) (fun hHeld => ?_)
          clear hK K
          (try simp only [Act.put, List.setIfInBounds_toArray, List.set_cons_zero, List.set_cons_succ])
          refine wpAnyH_takeD (i := 15) (d := some 51) (v := ?v112) rfl rfl (by kernel_rfl) (by kernel_rfl) (by kernel_rfl) (fun _ _ _ h => h) (Or.inl ⟨by rfl, ?hy112⟩) hHeld ?rest112
          case hy112 =>
            intro wS hS
            go_simp
            all_goals with_reducible rfl
          (try simp only [Act.put, List.setIfInBounds_toArray, List.set_cons_zero, List.set_cons_succ])
          refine wpAnyH_takeD (i := 16) (d := some 52) (v := ?v113) rfl rfl (by kernel_rfl) (by kernel_rfl) (by kernel_rfl) (fun _ _ _ h => h) (Or.inl ⟨by rfl, ?hy113⟩) hHeld ?rest113
          case hy113 =>
            intro wS hS
            go_simp
            all_goals with_reducible rfl
          (try simp only [Act.put, List.setIfInBounds_toArray, List.set_cons_zero, List.set_cons_succ])
          refine wpAnyH_takeD (i := 17) (d := some 53) (v := ?v114) rfl rfl (by kernel_rfl) (by kernel_rfl) (by kernel_rfl) (fun _ _ _ h => h) (Or.inl ⟨by rfl, ?hy114⟩) hHeld ?rest114
          case hy114 =>
            intro wS hS
            go_simp
            all_goals with_reducible rfl
          (try simp only [Act.put, List.setIfInBounds_toArray, List.set_cons_zero, List.set_cons_succ])
          refine wpAnyH_takeD (i := 18) (d := some 54) (v := ?v115) rfl rfl (by kernel_rfl) (by kernel_rfl) (by kernel_rfl) (fun _ _ _ h => h) (Or.inl ⟨by rfl, ?hy115⟩) hHeld ?rest115
          case hy115 =>
            intro wS hS
            go_simp
            all_goals with_reducible rfl
          (try simp only [Act.put, List.setIfInBounds_toArray, List.set_cons_zero, List.set_cons_succ])
          refine wpAnyH_takeD (i := 20) (d := some 56) (v := ?v116) rfl rfl (by kernel_rfl) (by kernel_rfl) (by kernel_rfl) (fun _ _ _ h => h) (Or.inl ⟨by rfl, ?hy116⟩) hHeld ?rest116
          case hy116 =>
            intro wS hS
            go_simp
            all_goals with_reducible rfl
          (try simp only [Act.put, List.setIfInBounds_toArray, List.set_cons_zero, List.set_cons_succ])
          refine wpAnyH_takeD (i := 21) (d := some 57) (v := ?v117) rfl rfl (by kernel_rfl) (by kernel_rfl) (by kernel_rfl) (fun _ _ _ h => h) (Or.inl ⟨by rfl, ?hy117⟩) hHeld ?rest117
          case hy117 =>
            intro wS hS
            go_simp
            all_goals with_reducible rfl
          (try simp only [Act.put, List.setIfInBounds_toArray, List.set_cons_zero, List.set_cons_succ])
          refine wpAnyH_takeD (i := 22) (d := some 58) (v := ?v118) rfl rfl (by kernel_rfl) (by kernel_rfl) (by kernel_rfl) (fun _ _ _ h => h) (Or.inl ⟨by rfl, ?hy118⟩) hHeld ?rest118
          case hy118 =>
            intro wS hS
            go_simp
            all_goals with_reducible rfl
          (try simp only [Act.put, List.setIfInBounds_toArray, List.set_cons_zero, List.set_cons_succ])
          refine wpAnyH_ready (rs := [19, 23]) (by kernel_rfl) (by simp) (AllReadyH.cons rfl (fun K hK => ?_) (AllReadyH.cons rfl (fun K hK => ?_) AllReadyH.nil))
          · rw [if_pos (by rfl)]
            go_simp
            refine (tat_is g (p2 : Int) _ t2).mono ?_
            rintro e wb ⟨rfl, rfl⟩
            go_wp2_with fail
            refine hK.out _ _ (HQW.out _ hbW) (fun hHeld => ?_)
            clear hK K
            (try simp only [Act.put, List.setIfInBounds_toArray, List.set_cons_zero, List.set_cons_succ])
            refine wpAnyH_ready (rs := [23]) (by kernel_rfl) (by simp) (AllReadyH.cons rfl (fun K hK => ?_) AllReadyH.nil)
            rw [if_pos (by rfl)]
            go_simp
            refine hK.out _ _ (HQW.out _ hbW) (fun hHeld => ?_)
            clear hK K
            (try simp only [Act.put, List.setIfInBounds_toArray, List.set_cons_zero, List.set_cons_succ])
            refine wpAnyH_takeD (i := 24) (d := some 60) (v := ?v119) rfl rfl (by kernel_rfl) (by kernel_rfl) (by kernel_rfl) (fun _ _ _ h => h) (Or.inl ⟨by rfl, ?hy119⟩) hHeld ?rest119
            case hy119 =>
              intro wS hS
              go_simp
              all_goals with_reducible rfl
            (try simp only [Act.put, List.setIfInBounds_toArray, List.set_cons_zero, List.set_cons_succ])
            refine wpAnyH_takeD (i := 25) (d := some 61) (v := ?v120) rfl rfl (by kernel_rfl) (by kernel_rfl) (by kernel_rfl) (fun _ _ _ h => h) (Or.inl ⟨by rfl, ?hy120⟩) hHeld ?rest120
            case hy120 =>
              intro wS hS
              go_simp
              all_goals with_reducible rfl
            (try simp only [Act.put, List.setIfInBounds_toArray, List.set_cons_zero, List.set_cons_succ])
            refine wpAnyH_takeD (i := 26) (d := some 62) (v := ?v121) rfl rfl (by kernel_rfl) (by kernel_rfl) (by kernel_rfl) (fun _ _ _ h => h) (Or.inl ⟨by rfl, ?hy121⟩) hHeld ?rest121
            case hy121 =>
              intro wS hS
              go_simp
              all_goals with_reducible rfl
            (try simp only [Act.put, List.setIfInBounds_toArray, List.set_cons_zero, List.set_cons_succ])
            refine wpAnyH_takeD (i := 27) (d := some 63) (v := ?v122) rfl rfl (by kernel_rfl) (by kernel_rfl) (by kernel_rfl) (fun _ _ _ h => h) (Or.inl ⟨by rfl, ?hy122⟩) hHeld ?rest122
            case hy122 =>
              intro wS hS
              go_simp
              all_goals with_reducible rfl
            (try simp only [Act.put, List.setIfInBounds_toArray, List.set_cons_zero, List.set_cons_succ])
            refine wpAnyH_takeD (i := 29) (d := some 65) (v := ?v123) rfl rfl (by kernel_rfl) (by kernel_rfl) (by kernel_rfl) (fun _ _ _ h => h) (Or.inl ⟨by rfl, ?hy123⟩) hHeld ?rest123
            case hy123 =>
              intro wS hS
              go_simp
              all_goals with_reducible rfl
            (try simp only [Act.put, List.setIfInBounds_toArray, List.set_cons_zero, List.set_cons_succ])
            refine wpAnyH_ready (rs := [28]) (by kernel_rfl) (by simp) (AllReadyH.cons rfl (fun K hK => ?_) AllReadyH.nil)
            rw [if_pos (by rfl)]
            go_simp
            refine (HTL.out _ hT2).mono ?_
            rintro e wc ⟨rfl, hbc⟩
            have hR3 := hR2.below hbc
            have hT3 := hT2.below hbc
            have hbX := hbW.trans (hbc.mono hbW.size)
            clear hbc
            go_wp2_with fail
            refine hK.out _ _ (HQW.out _ hbX) (fun hHeld => ?_)
            clear hK K
            (try simp only [Act.put, List.setIfInBounds_toArray, List.set_cons_zero, List.set_cons_succ])
            refine wpAnyH_ready (rs := [30]) (by kernel_rfl) (by simp) (AllReadyH.cons rfl (fun K hK => ?_) AllReadyH.nil)
            rw [if_pos (by rfl)]
            go_simp
            refine (HRL.out _ hR3).mono ?_
            rintro e we ⟨rfl, hbc⟩
            have hR4 := hR3.below hbc
            have hT4 := hT3.below hbc
            have hbY := hbX.trans (hbc.mono hbX.size)
            clear hbc
            go_wp2_with fail
            refine hK.out _ _ (HQW.out _ hbY) (fun hHeld => ?_)
            clear hK K
            (try simp only [Act.put, List.setIfInBounds_toArray, List.set_cons_zero, List.set_cons_succ])
            refine wpAnyH_takeD (i := 31) (d := some 67) (v := ?v124) rfl rfl (by kernel_rfl) (by kernel_rfl) (by kernel_rfl) (fun _ _ _ h => h) (Or.inl ⟨by rfl, ?hy124⟩) hHeld ?rest124
            case hy124 =>
              intro wS hS
              go_simp
              all_goals with_reducible rfl
            (try simp only [Act.put, List.setIfInBounds_toArray, List.set_cons_zero, List.set_cons_succ])
            refine wpAnyH_takeD (i := 32) (d := some 68) (v := ?v125) rfl rfl (by kernel_rfl) (by kernel_rfl) (by kernel_rfl) (fun _ _ _ h => h) (Or.inl ⟨by rfl, ?hy125⟩) hHeld ?rest125
            case hy125 =>
              intro wS hS
              go_simp
              all_goals with_reducible rfl
            (try simp only [Act.put, List.setIfInBounds_toArray, List.set_cons_zero, List.set_cons_succ])
            refine wpAnyH_done (by kernel_rfl) ?_ _
            clear hHeld r0 r1 r2 t0 t1 t2 q0 q1 q2
            go_wp2_with fail
            go_roundw
            case rel => exact ⟨k + 1, E2, p2, by omega, by go_num, hT4, hR4, hbY⟩
            case measure => simp [intOf]; omega
          · rw [if_pos (by rfl)]
            go_simp
            refine hK.out _ _ (HQW.out _ hbW) (fun hHeld => ?_)
            clear hK K
            (try simp only [Act.put, List.setIfInBounds_toArray, List.set_cons_zero, List.set_cons_succ])
            refine wpAnyH_ready (rs := [19]) (by kernel_rfl) (by simp) (AllReadyH.cons rfl (fun K hK => ?_) AllReadyH.nil)
            rw [if_pos (by rfl)]
            go_simp
            refine (tat_is g (p2 : Int) _ t2).mono ?_
            rintro e wb ⟨rfl, rfl⟩
            go_wp2_with fail
            refine hK.out _ _ (HQW.out _ hbW) (fun hHeld => ?_)
            clear hK K
            (try simp only [Act.put, List.setIfInBounds_toArray, List.set_cons_zero, List.set_cons_succ])
            refine wpAnyH_takeD (i := 24) (d := some 60) (v := ?v126) rfl rfl (by kernel_rfl) (by kernel_rfl) (by kernel_rfl) (fun _ _ _ h => h) (Or.inl ⟨by rfl, ?hy126⟩) hHeld ?rest126
            case hy126 =>
              intro wS hS
              go_simp
              all_goals with_reducible rfl
            (try simp only [Act.put, List.setIfInBounds_toArray, List.set_cons_zero, List.set_cons_succ])
            refine wpAnyH_takeD (i := 25) (d := some 61) (v := ?v127) rfl rfl (by kernel_rfl) (by kernel_rfl) (by kernel_rfl) (fun _ _ _ h => h) (Or.inl ⟨by rfl, ?hy127⟩) hHeld ?rest127
            case hy127 =>
              intro wS hS
              go_simp
              all_goals with_reducible rfl
            (try simp only [Act.put, List.setIfInBounds_toArray, List.set_cons_zero, List.set_cons_succ])
            refine wpAnyH_takeD (i := 26) (d := some 62) (v := ?v128) rfl rfl (by kernel_rfl) (by kernel_rfl) (by kernel_rfl) (fun _ _ _ h => h) (Or.inl ⟨by rfl, ?hy128⟩) hHeld ?rest128
            case hy128 =>
              intro wS hS
              go_simp
              all_goals with_reducible rfl
            (try simp only [Act.put, List.setIfInBounds_toArray, List.set_cons_zero, List.set_cons_succ])
            refine wpAnyH_takeD (i := 27) (d := some 63) (v := ?v129) rfl rfl (by kernel_rfl) (by kernel_rfl) (by kernel_rfl) (fun _ _ _ h => h) (Or.inl ⟨by rfl, ?hy129⟩) hHeld ?rest129
            case hy129 =>
              intro wS hS
              go_simp
              all_goals with_reducible rfl
            (try simp only [Act.put, List.setIfInBounds_toArray, List.set_cons_zero, List.set_cons_succ])
            refine wpAnyH_takeD (i := 29) (d := some 65) (v := ?v130) rfl rfl (by kernel_rfl) (by kernel_rfl) (by kernel_rfl) (fun _ _ _ h => h) (Or.inl ⟨by rfl, ?hy130⟩) hHeld ?rest130
            case hy130 =>
              intro wS hS
              go_simp
              all_goals with_reducible rfl
            (try simp only [Act.put, List.setIfInBounds_toArray, List.set_cons_zero, List.set_cons_succ])
            refine wpAnyH_ready (rs := [28]) (by kernel_rfl) (by simp) (AllReadyH.cons rfl (fun K hK => ?_) AllReadyH.nil)
            rw [if_pos (by rfl)]
            go_simp
            refine (HTL.out _ hT2).mono ?_
            rintro e wc ⟨rfl, hbc⟩
            have hR3 := hR2.below hbc
            have hT3 := hT2.below hbc
            have hbX := hbW.trans (hbc.mono hbW.size)
            clear hbc
            go_wp2_with fail
            refine hK.out _ _ (HQW.out _ hbX) (fun hHeld => ?_)
            clear hK K
            (try simp only [Act.put, List.setIfInBounds_toArray, List.set_cons_zero, List.set_cons_succ])
            refine wpAnyH_ready (rs := [30]) (by kernel_rfl) (by simp) (AllReadyH.cons rfl (fun K hK => ?_) AllReadyH.nil)
            rw [if_pos (by rfl)]
            go_simp
            refine (HRL.out _ hR3).mono ?_
            rintro e we ⟨rfl, hbc⟩
            have hR4 := hR3.below hbc
            have hT4 := hT3.below hbc
            have hbY := hbX.trans (hbc.mono hbX.size)
            clear hbc
            go_wp2_with fail
            refine hK.out _ _ (HQW.out _ hbY) (fun hHeld => ?_)
            clear hK K
            (try simp only [Act.put, List.setIfInBounds_toArray, List.set_cons_zero, List.set_cons_succ])
            refine wpAnyH_takeD (i := 31) (d := some 67) (v := ?v131) rfl rfl (by kernel_rfl) (by kernel_rfl) (by kernel_rfl) (fun _ _ _ h => h) (Or.inl ⟨by rfl, ?hy131⟩) hHeld ?rest131
            case hy131 =>
              intro wS hS
              go_simp
              all_goals with_reducible rfl
            (try simp only [Act.put, List.setIfInBounds_toArray, List.set_cons_zero, List.set_cons_succ])
            refine wpAnyH_takeD (i := 32) (d := some 68) (v := ?v132) rfl rfl (by kernel_rfl) (by kernel_rfl) (by kernel_rfl) (fun _ _ _ h => h) (Or.inl ⟨by rfl, ?hy132⟩) hHeld ?rest132
            case hy132 =>
              intro wS hS
              go_simp
              all_goals with_reducible rfl
            (try simp only [Act.put, List.setIfInBounds_toArray, List.set_cons_zero, List.set_cons_succ])
            refine wpAnyH_done (by kernel_rfl) ?_ _
            clear hHeld r0 r1 r2 t0 t1 t2 q0 q1 q2
            go_wp2_with fail
            go_roundw
            case rel => exact ⟨k + 1, E2, p2, by omega, by go_num, hT4, hR4, hbY⟩
            case measure => simp [intOf]; omega
        · rw [if_pos (by rfl)]
          go_simp
          refine hK.out _ _ (HQW.out _ hbW) (fun hHeld => ?_)
          clear hK K
          (try simp only [Act.put, List.setIfInBounds_toArray, List.set_cons_zero, List.set_cons_succ])
          refine wpAnyH_ready (rs := [10]) (by kernel_rfl) (by simp) (AllReadyH.cons rfl (fun K hK => ?_) AllReadyH.nil)
          rw [if_pos (by rfl)]
          go_simp
          refine (terr_is g E2 _ t0).mono ?_
          rintro e wb ⟨rfl, rfl⟩
          go_wp2_with fail
          refine hK.out _ _ (HQW.out _ hbW) (fun hHeld => ?_)
          clear hK K
          (try simp only [Act.put, List.setIfInBounds_toArray, List.set_cons_zero, List.set_cons_succ])
          refine wpAnyH_takeD (i := 15) (d := some 51) (v := ?v133) rfl rfl (by kernel_rfl) (by kernel_rfl) (by kernel_rfl) (fun _ _ _ h => h) (Or.inl ⟨by rfl, ?hy133⟩) hHeld ?rest133
          case hy133 =>
            intro wS hS
            go_simp
            all_goals with_reducible rfl
          (try simp only [Act.put, List.setIfInBounds_toArray, List.set_cons_zero, List.set_cons_succ])
          refine wpAnyH_takeD (i := 16) (d := some 52) (v := ?v134) rfl rfl (by kernel_rfl) (by kernel_rfl) (by kernel_rfl) (fun _ _ _ h => h) (Or.inl ⟨by rfl, ?hy134⟩) hHeld ?rest134
          case hy134 =>
            intro wS hS
            go_simp
            all_goals with_reducible rfl
          (try simp only [Act.put, List.setIfInBounds_toArray, List.set_cons_zero, List.set_cons_succ])
          refine wpAnyH_takeD (i := 17) (d := some 53) (v := ?v135) rfl rfl (by kernel_rfl) (by kernel_rfl) (by kernel_rfl) (fun _ _ _ h => h) (Or.inl ⟨by rfl, ?hy135⟩) hHeld ?rest135
          case hy135 =>
            intro wS hS
            go_simp
            all_goals with_reducible rfl
          (try simp only [Act.put, List.setIfInBounds_toArray, List.set_cons_zero, List.set_cons_succ])
          refine wpAnyH_takeD (i := 18) (d := some 54) (v := ?v136) rfl rfl (by kernel_rfl) (by kernel_rfl) (by kernel_rfl) (fun _ _ _ h => h) (Or.inl ⟨by rfl, ?hy136⟩) hHeld ?rest136
          case hy136 =>
            intro wS hS
            go_simp
            all_goals with_reducible rfl
          (try simp only [Act.put, List.setIfInBounds_toArray, List.set_cons_zero, List.set_cons_succ])
          refine wpAnyH_takeD (i := 20) (d := some 56) (v := ?v137) rfl rfl (by kernel_rfl) (by kernel_rfl) (by kernel_rfl) (fun _ _ _ h => h) (Or.inl ⟨by rfl, ?hy137⟩) hHeld ?rest137
          case hy137 =>
            intro wS hS
            go_simp
            all_goals with_reducible rfl
          (try simp only [Act.put, List.setIfInBounds_toArray, List.set_cons_zero, List.set_cons_succ])
          refine wpAnyH_takeD (i := 21) (d := some 57) (v := ?v138) rfl rfl (by kernel_rfl) (by kernel_rfl) (by kernel_rfl) (fun _ _ _ h => h) (Or.inl ⟨by rfl, ?hy138⟩) hHeld ?rest138
          case hy138 =>
            intro wS hS
            go_simp
            all_goals with_reducible rfl
          (try simp only [Act.put, List.setIfInBounds_toArray, List.set_cons_zero, List.set_cons_succ])
          refine wpAnyH_takeD (i := 22) (d := some 58) (v := ?v139) rfl rfl (by kernel_rfl) (by kernel_rfl) (by kernel_rfl) (fun _ _ _ h => h) (Or.inl ⟨by rfl, ?hy139⟩) hHeld ?rest139
          case hy139 =>
            intro wS hS
            go_simp
            all_goals with_reducible rfl
          (try simp only [Act.put, List.setIfInBounds_toArray, List.set_cons_zero, List.set_cons_succ])
          refine wpAnyH_ready (rs := [19, 23]) (by kernel_rfl) (by simp) (AllReadyH.cons rfl (fun K hK => ?_) (AllReadyH.cons rfl (fun K hK => ?_) AllReadyH.nil))
          · rw [if_pos (by rfl)]
            go_simp
            refine (tat_is g (p2 : Int) _ t2).mono ?_
            rintro e wb ⟨rfl, rfl⟩
            go_wp2_with fail
            refine hK.out _ _ (HQW.out _ hbW) (fun hHeld => ?_)
            clear hK K
            (try simp only [Act.put, List.setIfInBounds_toArray, List.set_cons_zero, List.set_cons_succ])
            refine wpAnyH_ready (rs := [23]) (by kernel_rfl) (by simp) (AllReadyH.cons rfl (fun K hK => ?_) AllReadyH.nil)
            rw [if_pos (by rfl)]
            go_simp
            refine hK.out _ _ (HQW.out _ hbW) (fun hHeld => ?_)
            clear hK K
            (try simp only [Act.put, List.setIfInBounds_toArray, List.set_cons_zero, List.set_cons_succ])
            refine wpAnyH_takeD (i := 24) (d := some 60) (v := ?v140) rfl rfl (by kernel_rfl) (by kernel_rfl) (by kernel_rfl) (fun _ _ _ h => h) (Or.inl ⟨by rfl, ?hy140⟩) hHeld ?rest140
            case hy140 =>
              intro wS hS
              go_simp
              all_goals with_reducible rfl
            (try simp only [Act.put, List.setIfInBounds_toArray, List.set_cons_zero, List.set_cons_succ])
            refine wpAnyH_takeD (i := 25) (d := some 61) (v := ?v141) rfl rfl (by kernel_rfl) (by kernel_rfl) (by kernel_rfl) (fun _ _ _ h => h) (Or.inl ⟨by rfl, ?hy141⟩) hHeld ?rest141
            case hy141 =>
              intro wS hS
              go_simp
              all_goals with_reducible rfl
            (try simp only [Act.put, List.setIfInBounds_toArray, List.set_cons_zero, List.set_cons_succ])
            refine wpAnyH_takeD (i := 26) (d := some 62) (v := ?v142) rfl rfl (by kernel_rfl) (by kernel_rfl) (by kernel_rfl) (fun _ _ _ h => h) (Or.inl ⟨by rfl, ?hy142⟩) hHeld ?rest142
            case hy142 =>
              intro wS hS
              go_simp
              all_goals with_reducible rfl
            (try simp only [Act.put, List.setIfInBounds_toArray, List.set_cons_zero, List.set_cons_succ])
            refine wpAnyH_takeD (i := 27) (d := some 63) (v := ?v143) rfl rfl (by kernel_rfl) (by kernel_rfl) (by kernel_rfl) (fun _ _ _ h => h) (Or.inl ⟨by rfl, ?hy143⟩) hHeld ?rest143
            case hy143 =>
              intro wS hS
              go_simp
              all_goals with_reducible rfl
            (try simp only [Act.put, List.setIfInBounds_toArray, List.set_cons_zero, List.set_cons_succ])
            refine wpAnyH_takeD (i := 29) (d := some 65) (v := ?v144) rfl rfl (by kernel_rfl) (by kernel_rfl) (by kernel_rfl) (fun _ _ _ h => h) (Or.inl ⟨by rfl, ?hy144⟩) hHeld ?rest144
            case hy144 =>
              intro wS hS
              go_simp
              all_goals with_reducible rfl
            (try simp only [Act.put, List.setIfInBounds_toArray, List.set_cons_zero, List.set_cons_succ])
            refine wpAnyH_ready (rs := [28]) (by kernel_rfl) (by simp) (AllReadyH.cons rfl (fun K hK => ?_) AllReadyH.nil)
            rw [if_pos (by rfl)]
            go_simp
            refine (HTL.out _ hT2).mono ?_
            rintro e wc ⟨rfl, hbc⟩
            have hR3 := hR2.below hbc
            have hT3 := hT2.below hbc
            have hbX := hbW.trans (hbc.mono hbW.size)
            clear hbc
            go_wp2_with fail
            refine hK.out _ _ (HQW.out _ hbX) (fun hHeld => ?_)
            clear hK K
            (try simp only [Act.put, List.setIfInBounds_toArray, List.set_cons_zero, List.set_cons_succ])
            refine wpAnyH_ready (rs := [30]) (by kernel_rfl) (by simp) (AllReadyH.cons rfl (fun K hK => ?_) AllReadyH.nil)
            rw [if_pos (by rfl)]
            go_simp
            refine (HRL.out _ hR3).mono ?_
            rintro e we ⟨rfl, hbc⟩
            have hR4 := hR3.below hbc
            have hT4 := hT3.below hbc
            have hbY := hbX.trans (hbc.mono hbX.size)
            clear hbc
            go_wp2_with fail
            refine hK.out _ _ (HQW.out _ hbY) (fun hHeld => ?_)
            clear hK K
            (try simp only [Act.put, List.setIfInBounds_toArray, List.set_cons_zero, List.set_cons_succ])
            refine wpAnyH_takeD (i := 31) (d := some 67) (v := ?v145) rfl rfl (by kernel_rfl) (by kernel_rfl) (by kernel_rfl) (fun _ _ _ h => h) (Or.inl ⟨by rfl, ?hy145⟩) hHeld ?rest145
            case hy145 =>
              intro wS hS
              go_simp
              all_goals with_reducible rfl
            (try simp only [Act.put, List.setIfInBounds_toArray, List.set_cons_zero, List.set_cons_succ])
            refine wpAnyH_takeD (i := 32) (d := some 68) (v := ?v146) rfl rfl (by kernel_rfl) (by kernel_rfl) (by kernel_rfl) (fun _ _ _ h => h) (Or.inl ⟨by rfl, ?hy146⟩) hHeld ?rest146
            case hy146 =>
              intro wS hS
              go_simp
              all_goals with_reducible rfl
            (try simp only [Act.put, List.setIfInBounds_toArray, List.set_cons_zero, List.set_cons_succ])
            refine wpAnyH_done (by kernel_rfl) ?_ _
            clear hHeld r0 r1 r2 t0 t1 t2 q0 q1 q2
            go_wp2_with fail
            go_roundw
            case rel => exact ⟨k + 1, E2, p2, by omega, by go_num, hT4, hR4, hbY⟩
            case measure => simp [intOf]; omega
          · rw [if_pos (by rfl)]
            go_simp
            refine hK.out _ _ (HQW.out _ hbW) (fun hHeld => ?_)
            clear hK K
            (try simp only [Act.put, List.setIfInBounds_toArray, List.set_cons_zero, List.set_cons_succ])
            refine wpAnyH_ready (rs := [19]) (by kernel_rfl) (by simp) (AllReadyH.cons rfl (fun K hK => ?_) AllReadyH.nil)
            rw [if_pos (by rfl)]
            go_simp
            refine (tat_is g (p2 : Int) _ t2).mono ?_
            rintro e wb ⟨rfl, rfl⟩
            go_wp2_with fail
            refine hK.out _ _ (HQW.out _ hbW) (fun hHeld => ?_)
            clear hK K
            (try simp only [Act.put, List.setIfInBounds_toArray, List.set_cons_zero, List.set_cons_succ])
            refine wpAnyH_takeD (i := 24) (d := some 60) (v := ?v147) rfl rfl (by kernel_rfl) (by kernel_rfl) (by kernel_rfl) (fun _ _ _ h => h) (Or.inl ⟨by rfl, ?hy147⟩) hHeld ?rest147
            case hy147 =>
              intro wS hS
              go_simp
              all_goals with_reducible rfl
            (try simp only [Act.put, List.setIfInBounds_toArray, List.set_cons_zero, List.set_cons_succ])
            refine wpAnyH_takeD (i := 25) (d := some 61) (v := ?v148) rfl rfl (by kernel_rfl) (by kernel_rfl) (by kernel_rfl) (fun _ _ _ h => h) (Or.inl ⟨by rfl, ?hy148⟩) hHeld ?rest148
            case hy148 =>
              intro wS hS
              go_simp
              all_goals with_reducible rfl
            (try simp only [Act.put, List.setIfInBounds_toArray, List.set_cons_zero, List.set_cons_succ])
            refine wpAnyH_takeD (i := 26) (d := some 62) (v := ?v149) rfl rfl (by kernel_rfl) (by kernel_rfl) (by kernel_rfl) (fun _ _ _ h => h) (Or.inl ⟨by rfl, ?hy149⟩) hHeld ?rest149
            case hy149 =>
              intro wS hS
              go_simp
              all_goals with_reducible rfl
            (try simp only [Act.put, List.setIfInBounds_toArray, List.set_cons_zero, List.set_cons_succ])
            refine wpAnyH_takeD (i := 27) (d := some 63) (v := ?v150) rfl rfl (by kernel_rfl) (by kernel_rfl) (by kernel_rfl) (fun _ _ _ h => h) (Or.inl ⟨by rfl, ?hy150⟩) hHeld ?rest150
            case hy150 =>
              intro wS hS
              go_simp
              all_goals with_reducible rfl
            (try simp only [Act.put, List.setIfInBounds_toArray, List.set_cons_zero, List.set_cons_succ])
            refine wpAnyH_takeD (i := 29) (d := some 65) (v := ?v151) rfl rfl (by kernel_rfl) (by kernel_rfl) (by kernel_rfl) (fun _ _ _ h => h) (Or.inl ⟨by rfl, ?hy151⟩) hHeld ?rest151
            case hy151 =>
              intro wS hS
              go_simp
              all_goals with_reducible rfl
            (try simp only [Act.put, List.setIfInBounds_toArray, List.set_cons_zero, List.set_cons_succ])
            refine wpAnyH_ready (rs := [28]) (by kernel_rfl) (by simp) (AllReadyH.cons rfl (fun K hK => ?_) AllReadyH.nil)
            rw [if_pos (by rfl)]
            go_simp
            refine (HTL.out _ hT2).mono ?_
            rintro e wc ⟨rfl, hbc⟩
            have hR3 := hR2.below hbc
            have hT3 := hT2.below hbc
            have hbX := hbW.trans (hbc.mono hbW.size)
            clear hbc
            go_wp2_with fail
            refine hK.out _ _ (HQW.out _ hbX) (fun hHeld => ?_)
            clear hK K
            (try simp only [Act.put, List.setIfInBounds_toArray, List.set_cons_zero, List.set_cons_succ])
            refine wpAnyH_ready (rs := [30]) (by kernel_rfl) (by simp) (AllReadyH.cons rfl (fun K hK => ?_) AllReadyH.nil)
            rw [if_pos (by rfl)]
            go_simp
            refine (HRL.out _ hR3).mono ?_
            rintro e we ⟨rfl, hbc⟩
            have hR4 := hR3.below hbc
            have hT4 := hT3.below hbc
            have hbY := hbX.trans (hbc.mono hbX.size)
            clear hbc
            go_wp2_with fail
            refine hK.out _ _ (HQW.out _ hbY) (fun hHeld => ?_)
            clear hK K
            (try simp only [Act.put, List.setIfInBounds_toArray, List.set_cons_zero, List.set_cons_succ])
            refine wpAnyH_takeD (i := 31) (d := some 67) (v := ?v152) rfl rfl (by kernel_rfl) (by kernel_rfl) (by kernel_rfl) (fun _ _ _ h => h) (Or.inl ⟨by rfl, ?hy152⟩) hHeld ?rest152
            case hy152 =>
              intro wS hS
              go_simp
              all_goals with_reducible rfl
            (try simp only [Act.put, List.setIfInBounds_toArray, List.set_cons_zero, List.set_cons_succ])
            refine wpAnyH_takeD (i := 32) (d := some 68) (v := ?v153) rfl rfl (by kernel_rfl) (by kernel_rfl) (by kernel_rfl) (fun _ _ _ h => h) (Or.inl ⟨by rfl, ?hy153⟩) hHeld ?rest153
            case hy153 =>
              intro wS hS
              go_simp
              all_goals with_reducible rfl
            (try simp only [Act.put, List.setIfInBounds_toArray, List.set_cons_zero, List.set_cons_succ])
            refine wpAnyH_done (by kernel_rfl) ?_ _
            clear hHeld r0 r1 r2 t0 t1 t2 q0 q1 q2
            go_wp2_with fail
            go_roundw
            case rel => exact ⟨k + 1, E2, p2, by omega, by go_num, hT4, hR4, hbY⟩
            case measure => simp [intOf]; omega
    · obtain rfl : k = L.length := by omega
      have dk : decide ((L.length : Int) < (L.length : Int)) = false := decide_eq_false (by omega)
      go_wp2_with fail
      refine (known_any _).mono ?_
      rintro e wz ⟨rfl, hbz⟩
      go_wp2_with fail
      go_ret
      exact ⟨rfl, hbW.trans (hbz.mono hbW.size)⟩
end Go.Proofs.Ytbcddeiicneajaa.fieldTakes
