/- The walk of TagsFinds. -/
import Derived.Test.YtlcbfikmljmlpaaDoorLaw26Set
import Derived.Test.YtlcbfikmljmlpaaDoorTagsPlain
namespace Go.Proofs.YtlcbfikmljmlpaaDoor
set_option linter.unusedVariables false
open Go.RowKit
theorem foldN_idem (n : Nat) : foldN (foldN n) = foldN n := by
  unfold foldN
  (repeat' split) <;> omega
theorem fold_idem (s : ByteArray) : foldS (foldS s) = foldS s := by
  unfold foldS
  congr 2
  rw [List.map_map]
  congr 1
  funext b
  show foldB (foldB b) = foldB b
  have h := foldN_lt b.toNat b.toNat_lt
  unfold foldB
  rw [UInt8.toNat_ofNat', Nat.mod_eq_of_lt h, foldN_idem]
namespace tagsFinds
set_option maxRecDepth 20000 in
set_option maxHeartbeats 8000000 in
theorem walk (A : Option Addr) (c : Nat) (l : List TagV) (tk tv : ByteArray) (w : World) (h : SeesT w A l ∧ l.length ≤ c ∧ c ≤ maxLen) (hT : Tabs w) :
    Calls Tryd.prog 5 #[.slice A l.length c, .agg #[.string tk, .string tv]] w fun e w' => e = .returned (.bool true) ∧ Below w.heap.size w w' := by
  obtain ⟨hl, hlc, hc⟩ := h
  have hK := hid known_any
  have hb0 : Below w.heap.size w (w.alloc (.cells #[.string tk, .string tv] 30)) := (Below.refl _ _).alloc (Nat.le_refl _) _
  have hrow := heap_alloc_new w (.cells #[.string tk, .string tv] 30)
  have c0 : (w.alloc (.cells #[.string tk, .string tv] 30)).cell? ⟨w.heap.size, 0, none⟩ = some (.string tk) := by rw [cell_of_row _ _ _ _ _ _ hrow]; rfl
  have c1 : (w.alloc (.cells #[.string tk, .string tv] 30)).cell? ⟨w.heap.size, 1, none⟩ = some (.string tv) := by rw [cell_of_row _ _ _ _ _ _ hrow]; rfl
  have hl0 := hl.below hb0
  have hT0 := hT.below hb0
  have hfew := fewT_any A c l _ hl0 ⟨hlc, hc⟩
  clear hrow hl hT
  go_enter Tryd.func5, Tryd.ntmps5
  go_wp2_with fail
  generalize w.alloc (.cells #[.string tk, .string tv] 30) = w0 at *
  refine hfew.mono ?_
  rintro e w1 ⟨b, rfl, rfl, hfl⟩
  clear hfew
  have hkn : ∀ {Q : Ending → World → Prop}, (∀ w', Below w.heap.size w w' → Q (.returned (.bool true)) w') → Calls Tryd.prog 10 #[] w0 Q := fun hq => (hK.out w0).mono (by rintro e w2 ⟨rfl, hb2⟩; exact hq _ (hb0.trans (hb2.mono hb0.size)))
  cases b with
  | false =>
    clear hfl
    go_wp2_with fail
    refine hkn fun w2 hb2 => ?_
    go_wp2_with fail
    go_ret
    exact ⟨rfl, hb2⟩
  | true =>
    obtain ⟨n1, s1⟩ := hfl rfl
    clear hfl
    by_cases q1 : 100 < tk.size
    · have d1 : decide (100 < (tk.size : Int)) = true := decide_eq_true (by omega)
      go_wp2_with fail
      refine hkn fun w2 hb2 => ?_
      go_wp2_with fail
      go_ret
      exact ⟨rfl, hb2⟩
    have d1 : decide (100 < (tk.size : Int)) = false := decide_eq_false (by omega)
    by_cases q2 : 1500 < tv.size
    · have d2 : decide (1500 < (tv.size : Int)) = true := decide_eq_true (by omega)
      go_wp2_with fail
      refine hkn fun w2 hb2 => ?_
      go_wp2_with fail
      go_ret
      exact ⟨rfl, hb2⟩
    have d2 : decide (1500 < (tv.size : Int)) = false := decide_eq_false (by omega)
    have hBr := brief_of s1
    have hlen : l.length ≤ 1000000 := by omega
    have hset := set_any A c l ⟨tk, tv⟩ w0 hl0 hlen hBr (by show tk.size ≤ _; omega) (by show tv.size ≤ _; omega) hT0
    have hBM := setT_brief (t := ⟨tk, tv⟩) hBr (by show tk.size ≤ _; omega) (by show tv.size ≤ _; omega)
    have hML := setT_len l ⟨tk, tv⟩
    have f1 := found_set l ⟨tk, tv⟩
    have f2 := fun h => keep_len (M := setT l ⟨tk, tv⟩) (K := foldS tk) h f1
    have f3 := found_keep (foldS tk) (setT l ⟨tk, tv⟩)
    have f4 := fun h x hx hne => found_other (l := l) (t := ⟨tk, tv⟩) (x := x) h hx hne
    simp only at f1 f2 f4
    unfold SetPost setR at hset
    generalize setT l ⟨tk, tv⟩ = M at *
    generalize (checkT M).2 = y at *
    have F4 := hid f4
    have F2 := hid f2
    clear hkn s1 f4 f2
    go_wp2_with fail
    refine hset.mono ?_
    rintro e w1 ⟨A1, c1', rfl, h1, h1c, hb1⟩
    clear hset
    replace c0 := keep1 hb1 c0
    replace c1 := keep1 hb1 c1
    have hl1 := hl0.below hb1
    replace hb1 := hb0.trans (hb1.mono hb0.size)
    clear hl0 hT0 hb0
    by_cases hy : y = 0
    · subst hy
      rw [if_pos rfl] at h1 h1c ⊢
      have HK := F2.out rfl
      have HO := hid (F4.out rfl)
      clear F2 F4
      have hfold := hid (fun W => fold_any tk W (by omega))
      have hfd1 := hid (fun W (h : SeesT W A1 M) => find_any A1 c1' M (foldS tk) W h (by omega) hBM (by rw [foldS_size]; omega))
      have hdp := hid (fun W (h : SeesT W A1 M) => drop_any A1 c1' M (foldS tk) W h (by omega) hBM (by rw [foldS_size]; omega))
      have hBk : Brief (keepT (foldS tk) M) := fun x hx => hBM x (List.mem_filter.1 hx).1
      have hfd2 := hid (fun W A2 c2 (h : SeesT W A2 (keepT (foldS tk) M)) => find_any A2 c2 (keepT (foldS tk) M) tk W h (by omega) hBk (by omega))
      rw [fold_idem] at hfd1 hdp
      rw [f1] at hfd1
      rw [f3] at hfd2
      have e1 : valT (some (⟨tk, tv⟩ : TagV)) = tv := rfl
      have e1' : (some (⟨tk, tv⟩ : TagV)).isSome = true := rfl
      have e2' : (none : Option TagV).isSome = false := rfl
      rw [e1, e1'] at hfd1
      rw [e2'] at hfd2
      generalize valT none = junk at *
      generalize keepT (foldS tk) M = kp at *
      have hfo := hid (fun W => rfold_any tk W (by omega))
      have hfx := hid (fun W x (hx : x ∈ l) => rfold_any x.k W (hBr x hx).1)
      have hfn := hid (fun W x (hx : x ∈ l) (h : SeesT W A1 M) => find_any A1 c1' M x.k W h (by omega) hBM (hBr x hx).1)
      generalize foldS tk = K at *
      clear f1 f3 e1 e1' e2' hBk hBM
      go_wp2_with fail
      refine (hfold.out w1).mono ?_
      rintro e w2 ⟨rfl, hb2⟩
      replace c0 := keep1 hb2 c0
      replace c1 := keep1 hb2 c1
      have hl2 := hl1.below hb2
      have h2 := h1.below hb2
      replace hb2 := hb1.trans (hb2.mono hb1.size)
      go_wp2_with fail
      refine (hfd1.out w2 h2).mono ?_
      rintro e w3 ⟨rfl, hb3⟩
      clear hfd1
      replace c0 := keep1 hb3 c0
      replace c1 := keep1 hb3 c1
      have hl3 := hl2.below hb3
      have h3 := h2.below hb3
      replace hb3 := hb2.trans (hb3.mono hb2.size)
      go_wp2_with fail
      refine (hfold.out w3).mono ?_
      rintro e w4 ⟨rfl, hb4⟩
      clear hfold
      replace c0 := keep1 hb4 c0
      replace c1 := keep1 hb4 c1
      have hl4 := hl3.below hb4
      have h4 := h3.below hb4
      replace hb4 := hb3.trans (hb4.mono hb3.size)
      go_wp2_with fail
      refine (hdp.out w4 h4).mono ?_
      rintro e w5 ⟨A5, c5, rfl, hk5, h5c, hb5⟩
      clear hdp
      replace c0 := keep1 hb5 c0
      replace c1 := keep1 hb5 c1
      have hl5 := hl4.below hb5
      have h5 := h4.below hb5
      replace hb5 := hb4.trans (hb5.mono hb4.size)
      go_wp2_with fail
      refine (hfd2.out w5 A5 c5 hk5).mono ?_
      rintro e w6 ⟨rfl, hb6⟩
      clear hfd2
      replace c0 := keep1 hb6 c0
      replace c1 := keep1 hb6 c1
      have hl6 := hl5.below hb6
      have h6 := h5.below hb6
      replace hb6 := hb5.trans (hb6.mono hb5.size)
      clear hl1 hl2 hl3 hl4 hl5 h1 h2 h3 h4 h5 hk5 hb1 hb2 hb3 hb4 hb5
      have e2 := toList_self tv
      have d5 : ((kp.length : Int) != (M.length : Int) - 1) = false := by simp; omega
      have d6 : decide ((kp.length : Int) = (M.length : Int) - 1) = true := decide_eq_true (by omega)
      have hMl : M.length ≤ 1000000 := by omega
      have hkl : kp.length ≤ 1000000 := by omega
      clear hML HK
      go_wp2_with fail
      go_loopw [12] (fun i wr => ∃ k : Nat, k ≤ l.length ∧ i = .int .i64 (k : Int) ∧ Below w6.heap.size w6 wr) (fun i _ => l.length - (intOf i).toNat)
      case atStart => exact ⟨0, by omega, rfl, Below.refl _ _⟩
      case round =>
        obtain ⟨k, hk, rfl, hbr⟩ := hrel
        by_cases hlt : k < l.length
        · have dk : decide ((k : Int) < (l.length : Int)) = true := decide_eq_true (by omega)
          have dkl : (k : Int) < (l.length : Int) := by omega
          have c0r := keep1 hbr c0
          obtain ⟨a, rfl, x1, x2⟩ := (hl6.below hbr).at hlt
          have hmem := List.getElem_mem hlt
          have hfr := hfn.out wr l[k] hmem (h6.below hbr)
          have hfxk := hid (fun W => hfx.out W l[k] hmem)
          have hok := hid (HO.out l[k] hmem)
          clear hmem
          generalize foundT (foldS l[k].k) M = Fd at *
          generalize foldS l[k].k = F at *
          generalize l[k] = x at *
          obtain ⟨xk, xv⟩ := x
          simp only at x1 x2 hfr hfxk
          go_wp2_with fail
          refine hfr.mono ?_
          rintro e w7 ⟨rfl, hb7⟩
          clear hfr
          replace c0r := keep1 hb7 c0r
          replace x1 := keep1 hb7 x1
          replace x2 := keep1 hb7 x2
          replace hbr := hbr.trans (hb7.mono hbr.size)
          clear hb7
          go_wp2_with fail
          refine wp_region_held_drew (S := fun W => W.cell? ⟨w.heap.size, 0, none⟩ = some (.string tk) ∧ W.cell? (a.add (k * 2)) = some (.string xk) ∧ W.cell? { block := (a.add (k * 2)).block, off := (a.add (k * 2)).off + 1 } = some (.string xv)) (by kernel_rfl) ⟨c0r, x1, x2⟩ (fun hHeld => ?_)
          replace c0r : w7.drew.cell? ⟨w.heap.size, 0, none⟩ = some (.string tk) := c0r
          replace x1 : w7.drew.cell? (a.add (k * 2)) = some (.string xk) := x1
          replace x2 : w7.drew.cell? { block := (a.add (k * 2)).block, off := (a.add (k * 2)).off + 1 } = some (.string xv) := x2
          replace hbr : Below w6.heap.size w6 w7.drew := hbr.drew
          generalize w7.drew = w8 at *
          skip
          refine wpAnyH_takeD (i := 0) (d := some 100) (v := ?v100) rfl rfl (by kernel_rfl) (by kernel_rfl) (by kernel_rfl) (fun _ _ _ h => h) (Or.inl ⟨by rfl, ?hy100⟩) hHeld ?rest100
          case hy100 =>
            intro wS hS
            go_simp
            all_goals with_reducible rfl
          (try simp only [Act.put, List.setIfInBounds_toArray, List.set_cons_zero, List.set_cons_succ])
          refine wpAnyH_takeD (i := 1) (d := some 101) (v := ?v101) rfl rfl (by kernel_rfl) (by kernel_rfl) (by kernel_rfl) (fun _ _ _ h => h) (Or.inl ⟨by rfl, ?hy101⟩) hHeld ?rest101
          case hy101 =>
            intro wS hS
            go_simp
            all_goals with_reducible rfl
          (try simp only [Act.put, List.setIfInBounds_toArray, List.set_cons_zero, List.set_cons_succ])
          refine wpAnyH_takeD (i := 2) (d := some 102) (v := ?v102) rfl rfl (by kernel_rfl) (by kernel_rfl) (by kernel_rfl) (fun _ _ _ h => h) (Or.inl ⟨by rfl, ?hy102⟩) hHeld ?rest102
          case hy102 =>
            intro wS hS
            go_simp
            all_goals with_reducible rfl
          (try simp only [Act.put, List.setIfInBounds_toArray, List.set_cons_zero, List.set_cons_succ])
          refine wpAnyH_takeD (i := 3) (d := some 103) (v := ?v103) rfl rfl (by kernel_rfl) (by kernel_rfl) (by kernel_rfl) (fun _ _ _ h => h) (Or.inl ⟨by rfl, ?hy103⟩) hHeld ?rest103
          case hy103 =>
            intro wS hS
            go_simp
            all_goals with_reducible rfl
          (try simp only [Act.put, List.setIfInBounds_toArray, List.set_cons_zero, List.set_cons_succ])
          refine wpAnyH_takeD (i := 4) (d := some 104) (v := ?v104) rfl rfl (by kernel_rfl) (by kernel_rfl) (by kernel_rfl) (fun _ _ _ h => h) (Or.inl ⟨by rfl, ?hy104⟩) hHeld ?rest104
          case hy104 =>
            intro wS hS
            obtain ⟨e1, e2, e3⟩ := hS
            go_simp
            all_goals with_reducible rfl
          (try simp only [Act.put, List.setIfInBounds_toArray, List.set_cons_zero, List.set_cons_succ])
          refine wpAnyH_takeD (i := 6) (d := some 106) (v := ?v105) rfl rfl (by kernel_rfl) (by kernel_rfl) (by kernel_rfl) (fun _ _ _ h => h) (Or.inl ⟨by rfl, ?hy105⟩) hHeld ?rest105
          case hy105 =>
            intro wS hS
            go_simp
            all_goals with_reducible rfl
          (try simp only [Act.put, List.setIfInBounds_toArray, List.set_cons_zero, List.set_cons_succ])
          refine wpAnyH_takeD (i := 7) (d := some 107) (v := ?v106) rfl rfl (by kernel_rfl) (by kernel_rfl) (by kernel_rfl) (fun _ _ _ h => h) (Or.inl ⟨by rfl, ?hy106⟩) hHeld ?rest106
          case hy106 =>
            intro wS hS
            obtain ⟨e1, e2, e3⟩ := hS
            go_simp
            all_goals with_reducible rfl
          (try simp only [Act.put, List.setIfInBounds_toArray, List.set_cons_zero, List.set_cons_succ])
          refine wpAnyH_ready (rs := [5]) (by kernel_rfl) (by simp) (AllReadyH.cons rfl (fun K hK => ?_) AllReadyH.nil)
          rw [if_pos (by rfl)]
          go_simp
          refine (hfxk.out w8).mono ?_
          rintro e w9 ⟨rfl, hb9⟩
          clear hfxk
          replace c0r := keep1 hb9 c0r
          replace x1 := keep1 hb9 x1
          replace x2 := keep1 hb9 x2
          replace hbr := hbr.trans (hb9.mono hbr.size)
          clear hb9
          go_wp2_with fail
          refine hK.out _ _ ⟨c0r, x1, x2⟩ (fun hHeld => ?_)
          clear hK K
          (try simp only [Act.put, List.setIfInBounds_toArray, List.set_cons_zero, List.set_cons_succ])
          refine wpAnyH_ready (rs := [8]) (by kernel_rfl) (by simp) (AllReadyH.cons rfl (fun K hK => ?_) AllReadyH.nil)
          rw [if_pos (by rfl)]
          go_simp
          refine (hfo.out w9).mono ?_
          rintro e w10 ⟨rfl, hb10⟩
          replace c0r := keep1 hb10 c0r
          replace x1 := keep1 hb10 x1
          replace x2 := keep1 hb10 x2
          replace hbr := hbr.trans (hb10.mono hbr.size)
          clear hb10
          go_wp2_with fail
          refine hK.out _ _ ⟨c0r, x1, x2⟩ (fun hHeld => ?_)
          clear hK K
          (try simp only [Act.put, List.setIfInBounds_toArray, List.set_cons_zero, List.set_cons_succ])
          have dl := list_eql F K
          cases hq : (F.toList == K.toList) with
          | true =>
            clear dl hok
            refine wpAnyH_takeD (i := 9) (d := some 109) (v := ?v107) rfl rfl (by kernel_rfl) (by kernel_rfl) (by kernel_rfl) (fun _ _ _ h => h) (Or.inl ⟨by rfl, ?hy107⟩) hHeld ?rest107
            case hy107 =>
              intro wS hS
              go_simp
              all_goals with_reducible rfl
            (try simp only [Act.put, List.setIfInBounds_toArray, List.set_cons_zero, List.set_cons_succ])
            refine wpAnyH_takeD (i := 10) (d := some 110) (v := ?v108) rfl rfl (by kernel_rfl) (by kernel_rfl) (by kernel_rfl) (fun _ _ _ h => h) (Or.inl ⟨by rfl, ?hy108⟩) hHeld ?rest108
            case hy108 =>
              intro wS hS
              go_simp
              all_goals with_reducible rfl
            (try simp only [Act.put, List.setIfInBounds_toArray, List.set_cons_zero, List.set_cons_succ])
            refine wpAnyH_takeD (i := 11) (d := some 111) (v := undef) rfl rfl (by kernel_rfl) (by kernel_rfl) (by kernel_rfl) (fun _ _ _ h => h) (Or.inr ⟨by rfl, rfl⟩) hHeld ?_
            (try simp only [Act.put, List.setIfInBounds_toArray, List.set_cons_zero, List.set_cons_succ])
            refine wpAnyH_takeD (i := 12) (d := some 112) (v := undef) rfl rfl (by kernel_rfl) (by kernel_rfl) (by kernel_rfl) (fun _ _ _ h => h) (Or.inr ⟨by rfl, rfl⟩) hHeld ?_
            (try simp only [Act.put, List.setIfInBounds_toArray, List.set_cons_zero, List.set_cons_succ])
            refine wpAnyH_takeD (i := 13) (d := some 113) (v := undef) rfl rfl (by kernel_rfl) (by kernel_rfl) (by kernel_rfl) (fun _ _ _ h => h) (Or.inr ⟨by rfl, rfl⟩) hHeld ?_
            (try simp only [Act.put, List.setIfInBounds_toArray, List.set_cons_zero, List.set_cons_succ])
            refine wpAnyH_takeD (i := 14) (d := some 114) (v := undef) rfl rfl (by kernel_rfl) (by kernel_rfl) (by kernel_rfl) (fun _ _ _ h => h) (Or.inr ⟨by rfl, rfl⟩) hHeld ?_
            (try simp only [Act.put, List.setIfInBounds_toArray, List.set_cons_zero, List.set_cons_succ])
            refine wpAnyH_takeD (i := 15) (d := some 115) (v := undef) rfl rfl (by kernel_rfl) (by kernel_rfl) (by kernel_rfl) (fun _ _ _ h => h) (Or.inr ⟨by rfl, rfl⟩) hHeld ?_
            (try simp only [Act.put, List.setIfInBounds_toArray, List.set_cons_zero, List.set_cons_succ])
            refine wpAnyH_takeD (i := 16) (d := some 116) (v := undef) rfl rfl (by kernel_rfl) (by kernel_rfl) (by kernel_rfl) (fun _ _ _ h => h) (Or.inr ⟨by rfl, rfl⟩) hHeld ?_
            (try simp only [Act.put, List.setIfInBounds_toArray, List.set_cons_zero, List.set_cons_succ])
            refine wpAnyH_takeD (i := 17) (d := some 117) (v := undef) rfl rfl (by kernel_rfl) (by kernel_rfl) (by kernel_rfl) (fun _ _ _ h => h) (Or.inr ⟨by rfl, rfl⟩) hHeld ?_
            (try simp only [Act.put, List.setIfInBounds_toArray, List.set_cons_zero, List.set_cons_succ])
            refine wpAnyH_takeD (i := 18) (d := some 118) (v := undef) rfl rfl (by kernel_rfl) (by kernel_rfl) (by kernel_rfl) (fun _ _ _ h => h) (Or.inr ⟨by rfl, rfl⟩) hHeld ?_
            (try simp only [Act.put, List.setIfInBounds_toArray, List.set_cons_zero, List.set_cons_succ])
            refine wpAnyH_takeD (i := 19) (d := some 119) (v := undef) rfl rfl (by kernel_rfl) (by kernel_rfl) (by kernel_rfl) (fun _ _ _ h => h) (Or.inr ⟨by rfl, rfl⟩) hHeld ?_
            (try simp only [Act.put, List.setIfInBounds_toArray, List.set_cons_zero, List.set_cons_succ])
            refine wpAnyH_takeD (i := 20) (d := some 120) (v := undef) rfl rfl (by kernel_rfl) (by kernel_rfl) (by kernel_rfl) (fun _ _ _ h => h) (Or.inr ⟨by rfl, rfl⟩) hHeld ?_
            (try simp only [Act.put, List.setIfInBounds_toArray, List.set_cons_zero, List.set_cons_succ])
            refine wpAnyH_takeD (i := 21) (d := some 121) (v := undef) rfl rfl (by kernel_rfl) (by kernel_rfl) (by kernel_rfl) (fun _ _ _ h => h) (Or.inr ⟨by rfl, rfl⟩) hHeld ?_
            (try simp only [Act.put, List.setIfInBounds_toArray, List.set_cons_zero, List.set_cons_succ])
            refine wpAnyH_takeD (i := 22) (d := some 122) (v := ?v109) rfl rfl (by kernel_rfl) (by kernel_rfl) (by kernel_rfl) (fun _ _ _ h => h) (Or.inl ⟨by rfl, ?hy109⟩) hHeld ?rest109
            case hy109 =>
              intro wS hS
              go_simp
              all_goals with_reducible rfl
            (try simp only [Act.put, List.setIfInBounds_toArray, List.set_cons_zero, List.set_cons_succ])
            refine wpAnyH_done (by kernel_rfl) ?_ _
            go_wp2_with fail
            exact ⟨⟨k + 1, by omega, by go_num, hbr⟩, by simp [intOf]; omega⟩
          | false =>
            rw [hq] at dl
            obtain rfl : Fd = some ⟨xk, xv⟩ := hok.out (of_decide_eq_false dl.symm)
            have v1 : valT (some (⟨xk, xv⟩ : TagV)) = xv := rfl
            have v2 : (some (⟨xk, xv⟩ : TagV)).isSome = true := rfl
            rw [v1, v2]
            have v3 := toList_self xv
            clear dl hok v1 v2
            refine wpAnyH_takeD (i := 9) (d := some 109) (v := ?v110) rfl rfl (by kernel_rfl) (by kernel_rfl) (by kernel_rfl) (fun _ _ _ h => h) (Or.inl ⟨by rfl, ?hy110⟩) hHeld ?rest110
            case hy110 =>
              intro wS hS
              go_simp
              all_goals with_reducible rfl
            (try simp only [Act.put, List.setIfInBounds_toArray, List.set_cons_zero, List.set_cons_succ])
            refine wpAnyH_takeD (i := 10) (d := some 110) (v := ?v111) rfl rfl (by kernel_rfl) (by kernel_rfl) (by kernel_rfl) (fun _ _ _ h => h) (Or.inl ⟨by rfl, ?hy111⟩) hHeld ?rest111
            case hy111 =>
              intro wS hS
              go_simp
              all_goals with_reducible rfl
            (try simp only [Act.put, List.setIfInBounds_toArray, List.set_cons_zero, List.set_cons_succ])
            refine wpAnyH_takeD (i := 11) (d := some 111) (v := ?v112) rfl rfl (by kernel_rfl) (by kernel_rfl) (by kernel_rfl) (fun _ _ _ h => h) (Or.inl ⟨by rfl, ?hy112⟩) hHeld ?rest112
            case hy112 =>
              intro wS hS
              go_simp
              all_goals with_reducible rfl
            (try simp only [Act.put, List.setIfInBounds_toArray, List.set_cons_zero, List.set_cons_succ])
            refine wpAnyH_takeD (i := 12) (d := some 112) (v := ?v113) rfl rfl (by kernel_rfl) (by kernel_rfl) (by kernel_rfl) (fun _ _ _ h => h) (Or.inl ⟨by rfl, ?hy113⟩) hHeld ?rest113
            case hy113 =>
              intro wS hS
              go_simp
              all_goals with_reducible rfl
            (try simp only [Act.put, List.setIfInBounds_toArray, List.set_cons_zero, List.set_cons_succ])
            refine wpAnyH_takeD (i := 13) (d := some 113) (v := ?v114) rfl rfl (by kernel_rfl) (by kernel_rfl) (by kernel_rfl) (fun _ _ _ h => h) (Or.inl ⟨by rfl, ?hy114⟩) hHeld ?rest114
            case hy114 =>
              intro wS hS
              go_simp
              all_goals with_reducible rfl
            (try simp only [Act.put, List.setIfInBounds_toArray, List.set_cons_zero, List.set_cons_succ])
            refine wpAnyH_takeD (i := 14) (d := some 114) (v := ?v115) rfl rfl (by kernel_rfl) (by kernel_rfl) (by kernel_rfl) (fun _ _ _ h => h) (Or.inl ⟨by rfl, ?hy115⟩) hHeld ?rest115
            case hy115 =>
              intro wS hS
              go_simp
              all_goals with_reducible rfl
            (try simp only [Act.put, List.setIfInBounds_toArray, List.set_cons_zero, List.set_cons_succ])
            refine wpAnyH_takeD (i := 15) (d := some 115) (v := ?v116) rfl rfl (by kernel_rfl) (by kernel_rfl) (by kernel_rfl) (fun _ _ _ h => h) (Or.inl ⟨by rfl, ?hy116⟩) hHeld ?rest116
            case hy116 =>
              intro wS hS
              go_simp
              all_goals with_reducible rfl
            (try simp only [Act.put, List.setIfInBounds_toArray, List.set_cons_zero, List.set_cons_succ])
            refine wpAnyH_takeD (i := 16) (d := some 116) (v := ?v117) rfl rfl (by kernel_rfl) (by kernel_rfl) (by kernel_rfl) (fun _ _ _ h => h) (Or.inl ⟨by rfl, ?hy117⟩) hHeld ?rest117
            case hy117 =>
              intro wS hS
              go_simp
              all_goals with_reducible rfl
            (try simp only [Act.put, List.setIfInBounds_toArray, List.set_cons_zero, List.set_cons_succ])
            refine wpAnyH_takeD (i := 17) (d := some 117) (v := ?v118) rfl rfl (by kernel_rfl) (by kernel_rfl) (by kernel_rfl) (fun _ _ _ h => h) (Or.inl ⟨by rfl, ?hy118⟩) hHeld ?rest118
            case hy118 =>
              intro wS hS
              go_simp
              all_goals with_reducible rfl
            (try simp only [Act.put, List.setIfInBounds_toArray, List.set_cons_zero, List.set_cons_succ])
            refine wpAnyH_takeD (i := 18) (d := some 118) (v := ?v119) rfl rfl (by kernel_rfl) (by kernel_rfl) (by kernel_rfl) (fun _ _ _ h => h) (Or.inl ⟨by rfl, ?hy119⟩) hHeld ?rest119
            case hy119 =>
              intro wS hS
              go_simp
              all_goals with_reducible rfl
            (try simp only [Act.put, List.setIfInBounds_toArray, List.set_cons_zero, List.set_cons_succ])
            refine wpAnyH_takeD (i := 19) (d := some 119) (v := ?v120) rfl rfl (by kernel_rfl) (by kernel_rfl) (by kernel_rfl) (fun _ _ _ h => h) (Or.inl ⟨by rfl, ?hy120⟩) hHeld ?rest120
            case hy120 =>
              intro wS hS
              obtain ⟨e1, e2, e3⟩ := hS
              go_simp
              all_goals with_reducible rfl
            (try simp only [Act.put, List.setIfInBounds_toArray, List.set_cons_zero, List.set_cons_succ])
            refine wpAnyH_takeD (i := 20) (d := some 120) (v := ?v121) rfl rfl (by kernel_rfl) (by kernel_rfl) (by kernel_rfl) (fun _ _ _ h => h) (Or.inl ⟨by rfl, ?hy121⟩) hHeld ?rest121
            case hy121 =>
              intro wS hS
              go_simp
              all_goals with_reducible rfl
            (try simp only [Act.put, List.setIfInBounds_toArray, List.set_cons_zero, List.set_cons_succ])
            refine wpAnyH_takeD (i := 21) (d := some 121) (v := ?v122) rfl rfl (by kernel_rfl) (by kernel_rfl) (by kernel_rfl) (fun _ _ _ h => h) (Or.inl ⟨by rfl, ?hy122⟩) hHeld ?rest122
            case hy122 =>
              intro wS hS
              go_simp
              all_goals with_reducible rfl
            (try simp only [Act.put, List.setIfInBounds_toArray, List.set_cons_zero, List.set_cons_succ])
            refine wpAnyH_takeD (i := 22) (d := some 122) (v := ?v123) rfl rfl (by kernel_rfl) (by kernel_rfl) (by kernel_rfl) (fun _ _ _ h => h) (Or.inl ⟨by rfl, ?hy123⟩) hHeld ?rest123
            case hy123 =>
              intro wS hS
              go_simp
              all_goals with_reducible rfl
            (try simp only [Act.put, List.setIfInBounds_toArray, List.set_cons_zero, List.set_cons_succ])
            refine wpAnyH_done (by kernel_rfl) ?_ _
            go_wp2_with fail
            exact ⟨⟨k + 1, by omega, by go_num, hbr⟩, by simp [intOf]; omega⟩
        · obtain rfl : k = l.length := by omega
          have dk : decide ((l.length : Int) < (l.length : Int)) = false := decide_eq_false (by omega)
          go_wp2_with fail
          refine (hK.out _).mono ?_
          rintro e w9 ⟨rfl, hb9⟩
          go_wp2_with fail
          go_ret
          exact ⟨rfl, hb6.trans ((hbr.trans (hb9.mono hbr.size)).mono hb6.size)⟩
    · have dy : (y != 0) = true := by simpa using hy
      have dy2 : decide (y = 0) = false := decide_eq_false hy
      rw [if_neg hy]
      rw [if_neg hy] at h1 h1c
      clear F2 F4 hy
      go_wp2_with fail
      refine (hK.out _).mono ?_
      rintro e w2 ⟨rfl, hb2⟩
      go_wp2_with fail
      go_ret
      exact ⟨rfl, hb1.trans (hb2.mono hb1.size)⟩
end tagsFinds
end Go.Proofs.YtlcbfikmljmlpaaDoor
