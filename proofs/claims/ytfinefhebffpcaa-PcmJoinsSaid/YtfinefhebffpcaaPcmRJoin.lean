/- Sound joined: the reference's. -/
import Derived.Test.YtfinefhebffpcaaPcmJoin
namespace Go.Proofs.Ytfinefhebffpcaa
set_option linter.unusedVariables false
open Go.RowKit
set_option maxRecDepth 20000 in
set_option maxHeartbeats 16000000 in
theorem rjoin_any (ch bi ra : Int) (A : Option Addr) (c : Nat) (L : List Chan) (ch' bi' ra' : Int) (B : Option Addr) (d : Nat) (M : List Chan) (w : World) (hl : SeesL w A L) (hm : SeesL w B M) (h1 : L.length ≤ maxLen) (h2 : M.length ≤ maxLen) :
    Calls Try.prog 26 #[.agg #[.int .i64 ch, .int .i64 bi, .int .i64 ra, .slice A L.length c], .agg #[.int .i64 ch', .int .i64 bi', .int .i64 ra', .slice B M.length d]] w (SndPost w (bothV ch bi ra L ch' bi' ra' M) ch bi ra ((List.range L.length).map (catL L M))) := by
  obtain ⟨w2, hw2, ha, hc, r2, hb, hs⟩ := snd_three w ch bi ra A L.length c ch' bi' ra' B M.length d
  replace hs : w.heap.size + 2 ≤ w2.heap.size := by omega
  have hs2 : w.heap.size + 3 ≤ w2.heap.size := by have := (Array.getElem?_eq_some_iff.1 r2).1; omega
  obtain ⟨R, hR⟩ : ∃ R, R = bothV ch bi ra L ch' bi' ra' M := ⟨_, rfl⟩
  rw [← hR]
  have hl0 := hl.below hb
  have hm0 := hm.below hb
  have KB := hid (fun W hW hW2 => rboth_any ch bi ra A c L ch' bi' ra' B d M W hW hW2 h1 h2)
  rw [← hR] at KB
  clear hl hm
  obtain ⟨s0, s1, s2, s3⟩ := ha
  obtain ⟨t0, t1, t2, t3⟩ := hc
  by_cases e1 : R = 0
  case neg =>
    have d1 : (R != 0) = true := by simpa using e1
    have d1' : decide (R = 0) = false := decide_eq_false e1
    have HE := hid e1
    clear hR e1
    go_enter Try.func26, Try.ntmps26
    go_wp2_with fail
    rw [← hw2]
    clear hw2
    refine (KB.out _ hl0 hm0).mono ?_
    rintro e w3 ⟨rfl, hb3⟩
    replace r2 := (hb3.block _ (by omega)).trans r2
    replace hb := hb.trans (hb3.mono hb.size)
    replace hs := Nat.le_trans hs hb3.size
    clear hb3 KB hl0 hm0 s0 s1 s2 s3 t0 t1 t2 t3
    go_wp2_with first | (refine wpList_store_row rfl 26 (.tmp 4) (.tmp 14) rfl rfl (w.heap.size + 1 + 1) rfl #[.int .i64 0, .int .i64 0, .int .i64 0, .slice none 0 0] rfl 26 #[.int .i64 0, .int .i64 0, .int .i64 0, .slice none 0 0] r2 (by kernel_rfl) rfl (by simp [Value.oneCell']) ?_)
    exact bodyPost_ret (v := .tuple #[.agg #[.int .i64 0, .int .i64 0, .int .i64 0, .slice none 0 0], .int .i64 R]) (results_row_tmp (fn := Try.f26) (p := 4) (u := 5) (ty := 26) rfl _ _ (w.heap.size + 1 + 1) _ _ _ _ rfl (setRow_heap _ _ _ _ _ _ r2) Try.underlying26 rfl (by kernel_rfl)) rfl (by
      unfold SndPost
      rw [if_neg HE.out]
      exact ⟨rfl, below_setRow hb (by omega) _⟩)
  case pos =>
    obtain ⟨k1, k2, k3⟩ := both_ok (hR.symm.trans e1)
    subst e1
    obtain ⟨r1, n1, m1, a1⟩ := check_ok k1
    obtain ⟨rr, n2, m2, a2⟩ := check_ok k2
    have hL8 : L.length ≤ 8 := by unfold rightF at r1; have := of_decide_eq_true r1; omega
    have hLM : L.length = M.length := by
      unfold sameF at k3
      simp at k3
      omega
    have A1 := hid (fun x (hx : x ∈ L) => show x.l.length ≤ 4294967295 by rw [(a1 x hx).1]; exact m1)
    have A2 := hid (fun x (hx : x ∈ M) => show x.l.length ≤ 4294967295 by rw [(a2 x hx).1]; exact m2)
    have HLM := hid hLM
    clear k1 k2 k3 r1 rr m1 m2 n1 a1 a2 n2 hLM hR h1 h2
    go_enter Try.func26, Try.ntmps26
    go_wp2_with fail
    rw [← hw2]
    clear hw2
    refine (KB.out _ hl0 hm0).mono ?_
    rintro e w4 ⟨rfl, hb3⟩
    replace r2 := (hb3.block _ (by omega)).trans r2
    replace hb := hb.trans (hb3.mono hb.size)
    replace hs := Nat.le_trans hs hb3.size
    replace s0 := keep1 hb3 s0
    replace s1 := keep1 hb3 s1
    replace s2 := keep1 hb3 s2
    replace s3 := keep1 hb3 s3
    replace t3 := keep1 hb3 t3
    replace hl0 := hl0.below hb3
    replace hm0 := hm0.below hb3
    clear hb3 KB t0 t1 t2
    go_wp2_with fail
    have hbw : Below w4.heap.size w4 (w4.alloc (.cells #[.int .i64 ch, .int .i64 bi, .int .i64 ra, .slice none 0 0] 26)) := (Below.refl _ _).alloc (Nat.le_refl _) _
    have rS := heap_alloc_new w4 (.cells #[.int .i64 ch, .int .i64 bi, .int .i64 ra, .slice none 0 0] 26)
    have hsg1 : w4.heap.size + 1 ≤ (w4.alloc (.cells #[.int .i64 ch, .int .i64 bi, .int .i64 ra, .slice none 0 0] 26)).heap.size := by simp
    have HS4 := hid (fun W (hW : Below w4.heap.size w4 W) => show W.cell? ⟨w.heap.size, 3, none⟩ = some (.slice A L.length c) ∧ W.cell? ⟨w.heap.size + 1, 3, none⟩ = some (.slice B M.length d) ∧ SeesL W A L ∧ SeesL W B M from ⟨keep1 hW s3, keep1 hW t3, hl0.below hW, hm0.below hW⟩)
    have HR2 := hid (fun W (hW : Below w4.heap.size w4 W) => show W.heap[w.heap.size + 1 + 1]? = some (.cells #[.int .i64 0, .int .i64 0, .int .i64 0, .slice none 0 0] 26 (0, 0)) from (hW.block _ (Array.getElem?_eq_some_iff.1 r2).1).trans r2)
    have HBB := hid (fun W (hW : Below w4.heap.size w4 W) => show Below w.heap.size w W from hb.trans (hW.mono hb.size))
    obtain ⟨gS, hgS⟩ : ∃ gS, gS = w4.heap.size := ⟨_, rfl⟩
    rw [← hgS] at hbw rS hsg1 HS4 HR2 HBB hs ⊢
    have hz : w.heap.size + 1 + 1 < gS := by rw [hgS]; exact (Array.getElem?_eq_some_iff.1 r2).1
    clear hgS s0 s1 s2 s3 t3 hl0 hm0 r2 hb
    generalize w4.alloc (.cells #[.int .i64 ch, .int .i64 bi, .int .i64 ra, .slice none 0 0] 26) = w5 at *
    go_loopw [8] (fun iv wr => ∃ (k : Nat) (Lo : List Chan) (As : Option Addr) (cs : Nat), k ≤ L.length ∧ iv = .int .i64 (k : Int) ∧ wr.heap[gS]? = some (.cells #[.int .i64 ch, .int .i64 bi, .int .i64 ra, .slice As k cs] 26 (0, 0)) ∧ wr.ownsRow (gS + 1) 34 1 (.slice As k cs) k (Lo.map Chan.v) ∧ OwnL wr (gS + 1) Lo ∧ Hid (ints Lo = (List.range k).map (catL L M)) ∧ Below gS w4 wr ∧ gS + 1 ≤ wr.heap.size) (fun iv _ => L.length - (intOf iv).toNat)
    case atStart => exact ⟨0, [], none, 0, by omega, rfl, rS, own_nil _ _ _ _, fun x hx => by simp at hx, hid rfl, hbw, hsg1⟩
    case round =>
      clear rS hbw hsg1
      obtain ⟨k, Lo, As, cs, hk, rfl, rS, ho, hO, hI, hbw, hsg1⟩ := hrel
      have c3 := (HS4.out _ hbw).1
      by_cases hlt : k < L.length
      · have dk : decide ((k : Int) < (L.length : Int)) = true := decide_eq_true (by omega)
        have ck : (k : Int) < (L.length : Int) := by omega
        go_wp2_with fail
        clear c3
        have hltm : k < M.length := by rw [← HLM.out]; exact hlt
        have ckm : (k : Int) < (M.length : Int) := by omega
        have HCAT := hid (catL_at L M k hlt hltm)
        obtain ⟨a, rfl, _⟩ := (HS4.out _ hbw).2.2.1.at hlt
        obtain ⟨b, rfl, _⟩ := (HS4.out _ hbw).2.2.2.at hltm
        have HSF := hid (fun W (hW : Below gS w4 W) => show (W.cell? ⟨w.heap.size, 3, none⟩ = some (.slice (some a) L.length c) ∧ W.cell? ⟨w.heap.size + 1, 3, none⟩ = some (.slice (some b) M.length d) ∧ W.cell? (a.add k) = some (.slice L[k].A L[k].l.length L[k].c) ∧ W.cell? (b.add k) = some (.slice M[k].A M[k].l.length M[k].c)) ∧ SeesI W L[k].A L[k].l ∧ SeesI W M[k].A M[k].l from by
          obtain ⟨q1, q2, q3, q4⟩ := HS4.out W hW
          obtain ⟨a1, ha1, hx⟩ := q3.at hlt
          injection ha1 with ha1
          subst ha1
          obtain ⟨b1, hb1, hy⟩ := q4.at hltm
          injection hb1 with hb1
          subst hb1
          exact ⟨⟨q1, q2, hx, hy⟩, (q3.2 _ (List.getElem_mem hlt)).1, (q4.2 _ (List.getElem_mem hltm)).1⟩)
        have hxn := A1.out L[k] (List.getElem_mem hlt)
        have hyn := A2.out M[k] (List.getElem_mem hltm)
        obtain ⟨out, hout⟩ : ∃ out, out = catL L M k := ⟨_, rfl⟩
        rw [← hout] at HCAT
        replace hout := hid hout
        generalize L[k] = x at *
        generalize M[k] = y at *
        obtain ⟨xA, xc, xl⟩ := x
        obtain ⟨yA, yc, yl⟩ := y
        simp only at *
        · skip
          refine wp_region_held_drew (S := fun W => W.cell? ⟨w.heap.size, 3, none⟩ = some (.slice (some a) L.length c) ∧ W.cell? ⟨w.heap.size + 1, 3, none⟩ = some (.slice (some b) M.length d) ∧ W.cell? (a.add k) = some (.slice xA xl.length xc) ∧ W.cell? (b.add k) = some (.slice yA yl.length yc)) (by kernel_rfl) (HSF.out _ hbw).1 (fun hHeld => ?_)
          replace rS : wr.drew.heap[gS]? = some (.cells #[.int .i64 ch, .int .i64 bi, .int .i64 ra, .slice As k cs] 26 (0, 0)) := rS
          replace ho : wr.drew.ownsRow (gS + 1) 34 1 (.slice As k cs) k (Lo.map Chan.v) := ho
          replace hO : OwnL wr.drew (gS + 1) Lo := hO
          replace hbw : Below gS w4 wr.drew := hbw.drew
          replace hsg1 : gS + 1 ≤ wr.drew.heap.size := hsg1
          generalize wr.drew = wd at *
          have hsg : gS ≤ wd.heap.size := by omega
          have hk0 := Below.refl wd.heap.size wd
          refine wpAnyH_takeD (i := 0) (d := some 26) (v := ?v100) rfl rfl (by kernel_rfl) (by kernel_rfl) (by kernel_rfl) (fun _ _ _ h => h) (Or.inl ⟨by rfl, ?hy100⟩) hHeld ?rest100
          case hy100 =>
            intro wS hS
            go_simp
            all_goals with_reducible rfl
          (try simp only [Act.put, List.setIfInBounds_toArray, List.set_cons_zero, List.set_cons_succ])
          refine wpAnyH_takeD (i := 3) (d := some 29) (v := ?v101) rfl rfl (by kernel_rfl) (by kernel_rfl) (by kernel_rfl) (fun _ _ _ h => h) (Or.inl ⟨by rfl, ?hy101⟩) hHeld ?rest101
          case hy101 =>
            intro wS hS
            go_simp
            all_goals with_reducible rfl
          (try simp only [Act.put, List.setIfInBounds_toArray, List.set_cons_zero, List.set_cons_succ])
          refine wpAnyH_takeD (i := 5) (d := some 31) (v := ?v102) rfl rfl (by kernel_rfl) (by kernel_rfl) (by kernel_rfl) (fun _ _ _ h => h) (Or.inl ⟨by rfl, ?hy102⟩) hHeld ?rest102
          case hy102 =>
            intro wS hS
            go_simp
            all_goals with_reducible rfl
          (try simp only [Act.put, List.setIfInBounds_toArray, List.set_cons_zero, List.set_cons_succ])
          refine wpAnyH_takeD (i := 9) (d := some 35) (v := ?v103) rfl rfl (by kernel_rfl) (by kernel_rfl) (by kernel_rfl) (fun _ _ _ h => h) (Or.inl ⟨by rfl, ?hy103⟩) hHeld ?rest103
          case hy103 =>
            intro wS hS
            go_simp
            all_goals with_reducible rfl
          (try simp only [Act.put, List.setIfInBounds_toArray, List.set_cons_zero, List.set_cons_succ])
          refine wpAnyH_takeD (i := 11) (d := some 37) (v := ?v104) rfl rfl (by kernel_rfl) (by kernel_rfl) (by kernel_rfl) (fun _ _ _ h => h) (Or.inl ⟨by rfl, ?hy104⟩) hHeld ?rest104
          case hy104 =>
            intro wS hS
            go_simp
            all_goals with_reducible rfl
          (try simp only [Act.put, List.setIfInBounds_toArray, List.set_cons_zero, List.set_cons_succ])
          refine wpAnyH_takeD (i := 4) (d := some 30) (v := ?v105) rfl rfl (by kernel_rfl) (by kernel_rfl) (by kernel_rfl) (fun _ _ _ h => h) (Or.inl ⟨by rfl, ?hy105⟩) hHeld ?rest105
          case hy105 =>
            intro wS hS
            obtain ⟨e1, e2, e3, e4⟩ := hS
            go_simp
            all_goals with_reducible rfl
          (try simp only [Act.put, List.setIfInBounds_toArray, List.set_cons_zero, List.set_cons_succ])
          refine wpAnyH_takeD (i := 10) (d := some 36) (v := ?v106) rfl rfl (by kernel_rfl) (by kernel_rfl) (by kernel_rfl) (fun _ _ _ h => h) (Or.inl ⟨by rfl, ?hy106⟩) hHeld ?rest106
          case hy106 =>
            intro wS hS
            obtain ⟨e1, e2, e3, e4⟩ := hS
            go_simp
            all_goals with_reducible rfl
          (try simp only [Act.put, List.setIfInBounds_toArray, List.set_cons_zero, List.set_cons_succ])
          refine wpAnyH_takeD (i := 6) (d := some 32) (v := ?v107) rfl rfl (by kernel_rfl) (by kernel_rfl) (by kernel_rfl) (fun _ _ _ h => h) (Or.inl ⟨by rfl, ?hy107⟩) hHeld ?rest107
          case hy107 =>
            intro wS hS
            go_simp
            all_goals with_reducible rfl
          (try simp only [Act.put, List.setIfInBounds_toArray, List.set_cons_zero, List.set_cons_succ])
          refine wpAnyH_takeD (i := 12) (d := some 38) (v := ?v108) rfl rfl (by kernel_rfl) (by kernel_rfl) (by kernel_rfl) (fun _ _ _ h => h) (Or.inl ⟨by rfl, ?hy108⟩) hHeld ?rest108
          case hy108 =>
            intro wS hS
            go_simp
            all_goals with_reducible rfl
          (try simp only [Act.put, List.setIfInBounds_toArray, List.set_cons_zero, List.set_cons_succ])
          refine wpAnyH_takeD (i := 7) (d := some 33) (v := ?v109) rfl rfl (by kernel_rfl) (by kernel_rfl) (by kernel_rfl) (fun _ _ _ h => h) (Or.inl ⟨by rfl, ?hy109⟩) hHeld ?rest109
          case hy109 =>
            intro wS hS
            obtain ⟨e1, e2, e3, e4⟩ := hS
            go_simp
            all_goals with_reducible rfl
          (try simp only [Act.put, List.setIfInBounds_toArray, List.set_cons_zero, List.set_cons_succ])
          refine wpAnyH_takeD (i := 13) (d := some 39) (v := ?v110) rfl rfl (by kernel_rfl) (by kernel_rfl) (by kernel_rfl) (fun _ _ _ h => h) (Or.inl ⟨by rfl, ?hy110⟩) hHeld ?rest110
          case hy110 =>
            intro wS hS
            obtain ⟨e1, e2, e3, e4⟩ := hS
            go_simp
            all_goals with_reducible rfl
          (try simp only [Act.put, List.setIfInBounds_toArray, List.set_cons_zero, List.set_cons_succ])
          refine wpAnyH_ready (rs := [1, 2]) (by kernel_rfl) (by simp) (AllReadyH.cons rfl (fun K hK => ?_) (AllReadyH.cons rfl (fun K hK => ?_) AllReadyH.nil))
          · rw [if_pos (by rfl)]
            have k2 : wd.cell? ⟨gS, 3, none⟩ = some (.slice As k cs) := by rw [cell_of_row _ _ _ _ _ _ ((hk0.block _ (by omega)).trans rS)]; rfl
            go_simp
            refine hK.out _ _ (HSF.out _ (hbw.trans (hk0.mono hsg))).1 (fun hHeld => ?_)
            clear hK K
            (try simp only [Act.put, List.setIfInBounds_toArray, List.set_cons_zero, List.set_cons_succ])
            clear k2
            refine wpAnyH_ready (rs := [2]) (by kernel_rfl) (by simp) (AllReadyH.cons rfl (fun K hK => ?_) AllReadyH.nil)
            rw [if_pos (by rfl)]
            have hk1 : Below wd.heap.size wd ((wd).alloc (.cells #[] 3)) := (hk0).alloc (hk0).size _
            have hoN : ((wd).alloc (.cells #[] 3)).ownsRow wd.heap.size 3 1 (.slice (some ⟨wd.heap.size, 0, none⟩) 0 0) 0 [] := ⟨rfl, .inr ⟨wd.heap.size, 0, #[], rfl, Nat.le_refl _, heap_alloc_new _ _, Nat.le_refl _, by unfold maxLen; omega, rfl, rfl⟩⟩
            go_simp
            generalize (wd).alloc (.cells #[] 3) = w7 at *
            refine hK.out _ _ (HSF.out _ (hbw.trans (hk1.mono hsg))).1 (fun hHeld => ?_)
            clear hK K
            (try simp only [Act.put, List.setIfInBounds_toArray, List.set_cons_zero, List.set_cons_succ])
            refine wpAnyH_ready (rs := [8]) (by kernel_rfl) (by simp) (AllReadyH.cons rfl (fun K hK => ?_) AllReadyH.nil)
            rw [if_pos (by rfl)]
            have hsx := (HSF.out _ (hbw.trans (hk1.mono hsg))).2.1
            refine wp_app (.tmp 28) (.tmp 33) _ rfl elI rfl hoN xA xl.length xc rfl (xl.map intV) hsx (by simp) (ints_one xl) xl.length (by omega) (xl.map intV) (by simp) (by unfold maxLen; omega) (by omega) hk1.size ?_
            clear hsx
            intro Aw8 cw8 w8 hoNw8 hgrN hatN hbN
            have hk2 := hk1.trans hbN
            replace hoN := hoNw8
            clear hoNw8 hgrN hatN hbN
            refine hK.out _ _ (HSF.out _ (hbw.trans (hk2.mono hsg))).1 (fun hHeld => ?_)
            clear hK K
            (try simp only [Act.put, List.setIfInBounds_toArray])
            refine wpAnyH_ready (rs := [14]) (by kernel_rfl) (by simp) (AllReadyH.cons rfl (fun K hK => ?_) AllReadyH.nil)
            rw [if_pos (by rfl)]
            have hsx := (HSF.out _ (hbw.trans (hk2.mono hsg))).2.2
            refine wp_app (.tmp 34) (.tmp 39) _ rfl elI rfl hoN yA yl.length yc rfl (yl.map intV) hsx (by simp) (ints_one yl) (xl.length + yl.length) (by omega) ((xl ++ yl).map intV) (by simp) (by unfold maxLen; omega) (by omega) hk2.size ?_
            clear hsx
            intro Aw9 cw9 w9 hoNw9 hgrN hatN hbN
            have hk3 := hk2.trans hbN
            replace hoN := hoNw9
            clear hoNw9 hgrN hatN hbN
            refine hK.out _ _ (HSF.out _ (hbw.trans (hk3.mono hsg))).1 (fun hHeld => ?_)
            clear hK K
            (try simp only [Act.put])
            refine wpAnyH_ready (rs := [15]) (by kernel_rfl) (by simp) (AllReadyH.cons rfl (fun K hK => ?_) AllReadyH.nil)
            rw [if_pos (by rfl)]
            have hbB : Below w9.heap.size w9 (w9.alloc (.cells #[.slice Aw9 (xl.length + yl.length) cw9] 34)) := (Below.refl _ _).alloc (Nat.le_refl _) _
            have hseen : Sees (w9.alloc (.cells #[.slice Aw9 (xl.length + yl.length) cw9] 34)) (some ⟨w9.heap.size, 0, none⟩) [.slice Aw9 (xl.length + yl.length) cw9] := Sees.of_alloc _ _ _ rfl
            replace hoN := own_keep' hoN hbB
            have hk4 := hk3.trans (hbB.mono hk3.size)
            clear hbB
            go_simp
            obtain ⟨GB, hGB⟩ : ∃ GB, GB = w9.heap.size := ⟨_, rfl⟩
            rw [← hGB] at hseen ⊢
            clear hGB
            generalize w9.alloc (.cells #[.slice Aw9 (xl.length + yl.length) cw9] 34) = wb at *
            refine hK.out _ _ (HSF.out _ (hbw.trans (hk4.mono hsg))).1 (fun hHeld => ?_)
            clear hK K
            (try simp only [Act.put, List.setIfInBounds_toArray, List.set_cons_zero, List.set_cons_succ])
            refine wpAnyH_ready (rs := [16]) (by kernel_rfl) (by simp) (AllReadyH.cons rfl (fun K hK => ?_) AllReadyH.nil)
            rw [if_pos (by rfl)]
            replace rS := (hk4.block _ (by omega)).trans rS
            replace ho := own_keep' ho hk4
            replace hO := hO.keep hk4
            replace hbw := hbw.trans (hk4.mono hsg)
            replace hoN := Joins.ownsRow_le hoN hsg1
            replace hsg1 := Nat.le_trans hsg1 hk4.size
            refine wp_app (.tmp 27) (.tmp 41) _ rfl elL rfl ho (some ⟨GB, 0, none⟩) 1 1 rfl [.slice Aw9 (xl.length + yl.length) cw9] hseen (by simp) (by intro u hu; simp at hu; subst hu; rfl) (k + 1) rfl ((Lo ++ [{ A := Aw9, c := cw9, l := (xl ++ yl) : Chan }]).map Chan.v) (by simp [Chan.v]) (by unfold maxLen; omega) (by omega) hsg1 ?_
            intro Ax cx wx hownx hgrx hatx hbx
            replace rS := (hbx.block _ (by omega)).trans rS
            replace hO := hO.grown ho hgrx
            replace hoN := OwnL.one ho hgrx hoN
            replace hbw := hbw.trans (hbx.mono (by omega))
            replace hsg1 := Nat.le_trans hsg1 hgrx.size
            clear hgrx hatx ho hbx hseen hk4
            refine hK.out _ _ (HSF.out _ hbw).1 (fun hHeld => ?_)
            clear hK K
            (try simp only [Act.put, List.setIfInBounds_toArray])
            refine wpAnyH_takeD (i := 17) (d := some 43) (v := ?v111) rfl rfl (by kernel_rfl) (by kernel_rfl) (by kernel_rfl) (fun _ _ _ h => h) (Or.inl ⟨by rfl, ?hy111⟩) hHeld ?rest111
            case hy111 =>
              intro wS hS
              go_simp
              all_goals with_reducible rfl
            (try simp only [Act.put])
            refine wpAnyH_ready (rs := [18]) (by kernel_rfl) (by simp) (AllReadyH.cons rfl (fun K hK => ?_) AllReadyH.nil)
            rw [if_pos (by rfl)]
            have k2 : wx.cell? ⟨gS, 3, none⟩ = some (.slice As k cs) := by rw [cell_of_row _ _ _ _ _ _ rS]; rfl
            have f2 : wx.frozen? ⟨gS, 3, none⟩ = false := frozen_of_row _ _ _ _ _ rS
            have rSy : (wx.setCell ⟨gS, 3, none⟩ (.slice Ax (k + 1) cx)).heap[gS]? = some (.cells #[.int .i64 ch, .int .i64 bi, .int .i64 ra, .slice Ax (k + 1) cx] 26 (0, 0)) := heap_setCell_same _ gS 3 _ _ (.slice Ax (k + 1) cx) rS
            have hby := hbw.setCell (p := ⟨gS, 3, none⟩) (Nat.le_refl gS) (.slice Ax (k + 1) cx)
            have hoy := ownsRow_setCell_below hownx (a := ⟨gS, 3, none⟩) (Nat.lt_succ_self gS) (.slice Ax (k + 1) cx)
            have hOy := hO.set (a := ⟨gS, 3, none⟩) (Nat.lt_succ_self gS) (.slice Ax (k + 1) cx)
            have hNy := ownsRow_setCell_below hoN (a := ⟨gS, 3, none⟩) (Nat.lt_succ_self gS) (.slice Ax (k + 1) cx)
            have hsy : gS + 1 ≤ (wx.setCell ⟨gS, 3, none⟩ (.slice Ax (k + 1) cx)).heap.size := Nat.le_trans hsg1 (by simp [World.setCell])
            have hSn := (HSF.out _ hby).1
            clear rS hbw hownx hO hoN hsg1
            go_simp
            refine hK.out _ _ hSn (fun hHeld => ?_)
            clear hK K
            (try simp only [Act.put, List.setIfInBounds_toArray, List.set_cons_zero, List.set_cons_succ])
            clear hSn
            refine wpAnyH_done (by kernel_rfl) ?_ _
            generalize wx.setCell ⟨gS, 3, none⟩ (.slice Ax (k + 1) cx) = wy at *
            clear k2 f2
            go_wp2_with fail
            go_roundw
            case rel => exact ⟨k + 1, Lo ++ [{ A := Aw9, c := cw9, l := (xl ++ yl) : Chan }], Ax, cx, by omega, by go_num, rSy, hoy, hOy.snoc (x := { A := Aw9, c := cw9, l := (xl ++ yl) : Chan }) (by simpa using hNy), hid (by rw [ints_snoc, hI.out, List.range_succ, List.map_append]; exact congrArg _ (congrArg (fun z => [z]) (HCAT.out.symm.trans hout.out))), hby, hsy⟩
            case measure => simp [intOf]; omega
          · rw [if_pos (by rfl)]
            have hk1 : Below wd.heap.size wd ((wd).alloc (.cells #[] 3)) := (hk0).alloc (hk0).size _
            have hoN : ((wd).alloc (.cells #[] 3)).ownsRow wd.heap.size 3 1 (.slice (some ⟨wd.heap.size, 0, none⟩) 0 0) 0 [] := ⟨rfl, .inr ⟨wd.heap.size, 0, #[], rfl, Nat.le_refl _, heap_alloc_new _ _, Nat.le_refl _, by unfold maxLen; omega, rfl, rfl⟩⟩
            go_simp
            generalize (wd).alloc (.cells #[] 3) = w7 at *
            refine hK.out _ _ (HSF.out _ (hbw.trans (hk1.mono hsg))).1 (fun hHeld => ?_)
            clear hK K
            (try simp only [Act.put, List.setIfInBounds_toArray, List.set_cons_zero, List.set_cons_succ])
            refine wpAnyH_ready (rs := [1, 8]) (by kernel_rfl) (by simp) (AllReadyH.cons rfl (fun K hK => ?_) (AllReadyH.cons rfl (fun K hK => ?_) AllReadyH.nil))
            · rw [if_pos (by rfl)]
              have k2 : w7.cell? ⟨gS, 3, none⟩ = some (.slice As k cs) := by rw [cell_of_row _ _ _ _ _ _ ((hk1.block _ (by omega)).trans rS)]; rfl
              go_simp
              refine hK.out _ _ (HSF.out _ (hbw.trans (hk1.mono hsg))).1 (fun hHeld => ?_)
              clear hK K
              (try simp only [Act.put, List.setIfInBounds_toArray, List.set_cons_zero, List.set_cons_succ])
              clear k2
              refine wpAnyH_ready (rs := [8]) (by kernel_rfl) (by simp) (AllReadyH.cons rfl (fun K hK => ?_) AllReadyH.nil)
              rw [if_pos (by rfl)]
              have hsx := (HSF.out _ (hbw.trans (hk1.mono hsg))).2.1
              refine wp_app (.tmp 28) (.tmp 33) _ rfl elI rfl hoN xA xl.length xc rfl (xl.map intV) hsx (by simp) (ints_one xl) xl.length (by omega) (xl.map intV) (by simp) (by unfold maxLen; omega) (by omega) hk1.size ?_
              clear hsx
              intro Aw8 cw8 w8 hoNw8 hgrN hatN hbN
              have hk2 := hk1.trans hbN
              replace hoN := hoNw8
              clear hoNw8 hgrN hatN hbN
              refine hK.out _ _ (HSF.out _ (hbw.trans (hk2.mono hsg))).1 (fun hHeld => ?_)
              clear hK K
              (try simp only [Act.put, List.setIfInBounds_toArray])
              refine wpAnyH_ready (rs := [14]) (by kernel_rfl) (by simp) (AllReadyH.cons rfl (fun K hK => ?_) AllReadyH.nil)
              rw [if_pos (by rfl)]
              have hsx := (HSF.out _ (hbw.trans (hk2.mono hsg))).2.2
              refine wp_app (.tmp 34) (.tmp 39) _ rfl elI rfl hoN yA yl.length yc rfl (yl.map intV) hsx (by simp) (ints_one yl) (xl.length + yl.length) (by omega) ((xl ++ yl).map intV) (by simp) (by unfold maxLen; omega) (by omega) hk2.size ?_
              clear hsx
              intro Aw9 cw9 w9 hoNw9 hgrN hatN hbN
              have hk3 := hk2.trans hbN
              replace hoN := hoNw9
              clear hoNw9 hgrN hatN hbN
              refine hK.out _ _ (HSF.out _ (hbw.trans (hk3.mono hsg))).1 (fun hHeld => ?_)
              clear hK K
              (try simp only [Act.put])
              refine wpAnyH_ready (rs := [15]) (by kernel_rfl) (by simp) (AllReadyH.cons rfl (fun K hK => ?_) AllReadyH.nil)
              rw [if_pos (by rfl)]
              have hbB : Below w9.heap.size w9 (w9.alloc (.cells #[.slice Aw9 (xl.length + yl.length) cw9] 34)) := (Below.refl _ _).alloc (Nat.le_refl _) _
              have hseen : Sees (w9.alloc (.cells #[.slice Aw9 (xl.length + yl.length) cw9] 34)) (some ⟨w9.heap.size, 0, none⟩) [.slice Aw9 (xl.length + yl.length) cw9] := Sees.of_alloc _ _ _ rfl
              replace hoN := own_keep' hoN hbB
              have hk4 := hk3.trans (hbB.mono hk3.size)
              clear hbB
              go_simp
              obtain ⟨GB, hGB⟩ : ∃ GB, GB = w9.heap.size := ⟨_, rfl⟩
              rw [← hGB] at hseen ⊢
              clear hGB
              generalize w9.alloc (.cells #[.slice Aw9 (xl.length + yl.length) cw9] 34) = wb at *
              refine hK.out _ _ (HSF.out _ (hbw.trans (hk4.mono hsg))).1 (fun hHeld => ?_)
              clear hK K
              (try simp only [Act.put, List.setIfInBounds_toArray, List.set_cons_zero, List.set_cons_succ])
              refine wpAnyH_ready (rs := [16]) (by kernel_rfl) (by simp) (AllReadyH.cons rfl (fun K hK => ?_) AllReadyH.nil)
              rw [if_pos (by rfl)]
              replace rS := (hk4.block _ (by omega)).trans rS
              replace ho := own_keep' ho hk4
              replace hO := hO.keep hk4
              replace hbw := hbw.trans (hk4.mono hsg)
              replace hoN := Joins.ownsRow_le hoN hsg1
              replace hsg1 := Nat.le_trans hsg1 hk4.size
              refine wp_app (.tmp 27) (.tmp 41) _ rfl elL rfl ho (some ⟨GB, 0, none⟩) 1 1 rfl [.slice Aw9 (xl.length + yl.length) cw9] hseen (by simp) (by intro u hu; simp at hu; subst hu; rfl) (k + 1) rfl ((Lo ++ [{ A := Aw9, c := cw9, l := (xl ++ yl) : Chan }]).map Chan.v) (by simp [Chan.v]) (by unfold maxLen; omega) (by omega) hsg1 ?_
              intro Ax cx wx hownx hgrx hatx hbx
              replace rS := (hbx.block _ (by omega)).trans rS
              replace hO := hO.grown ho hgrx
              replace hoN := OwnL.one ho hgrx hoN
              replace hbw := hbw.trans (hbx.mono (by omega))
              replace hsg1 := Nat.le_trans hsg1 hgrx.size
              clear hgrx hatx ho hbx hseen hk4
              refine hK.out _ _ (HSF.out _ hbw).1 (fun hHeld => ?_)
              clear hK K
              (try simp only [Act.put, List.setIfInBounds_toArray])
              refine wpAnyH_takeD (i := 17) (d := some 43) (v := ?v112) rfl rfl (by kernel_rfl) (by kernel_rfl) (by kernel_rfl) (fun _ _ _ h => h) (Or.inl ⟨by rfl, ?hy112⟩) hHeld ?rest112
              case hy112 =>
                intro wS hS
                go_simp
                all_goals with_reducible rfl
              (try simp only [Act.put])
              refine wpAnyH_ready (rs := [18]) (by kernel_rfl) (by simp) (AllReadyH.cons rfl (fun K hK => ?_) AllReadyH.nil)
              rw [if_pos (by rfl)]
              have k2 : wx.cell? ⟨gS, 3, none⟩ = some (.slice As k cs) := by rw [cell_of_row _ _ _ _ _ _ rS]; rfl
              have f2 : wx.frozen? ⟨gS, 3, none⟩ = false := frozen_of_row _ _ _ _ _ rS
              have rSy : (wx.setCell ⟨gS, 3, none⟩ (.slice Ax (k + 1) cx)).heap[gS]? = some (.cells #[.int .i64 ch, .int .i64 bi, .int .i64 ra, .slice Ax (k + 1) cx] 26 (0, 0)) := heap_setCell_same _ gS 3 _ _ (.slice Ax (k + 1) cx) rS
              have hby := hbw.setCell (p := ⟨gS, 3, none⟩) (Nat.le_refl gS) (.slice Ax (k + 1) cx)
              have hoy := ownsRow_setCell_below hownx (a := ⟨gS, 3, none⟩) (Nat.lt_succ_self gS) (.slice Ax (k + 1) cx)
              have hOy := hO.set (a := ⟨gS, 3, none⟩) (Nat.lt_succ_self gS) (.slice Ax (k + 1) cx)
              have hNy := ownsRow_setCell_below hoN (a := ⟨gS, 3, none⟩) (Nat.lt_succ_self gS) (.slice Ax (k + 1) cx)
              have hsy : gS + 1 ≤ (wx.setCell ⟨gS, 3, none⟩ (.slice Ax (k + 1) cx)).heap.size := Nat.le_trans hsg1 (by simp [World.setCell])
              have hSn := (HSF.out _ hby).1
              clear rS hbw hownx hO hoN hsg1
              go_simp
              refine hK.out _ _ hSn (fun hHeld => ?_)
              clear hK K
              (try simp only [Act.put, List.setIfInBounds_toArray, List.set_cons_zero, List.set_cons_succ])
              clear hSn
              refine wpAnyH_done (by kernel_rfl) ?_ _
              generalize wx.setCell ⟨gS, 3, none⟩ (.slice Ax (k + 1) cx) = wy at *
              clear k2 f2
              go_wp2_with fail
              go_roundw
              case rel => exact ⟨k + 1, Lo ++ [{ A := Aw9, c := cw9, l := (xl ++ yl) : Chan }], Ax, cx, by omega, by go_num, rSy, hoy, hOy.snoc (x := { A := Aw9, c := cw9, l := (xl ++ yl) : Chan }) (by simpa using hNy), hid (by rw [ints_snoc, hI.out, List.range_succ, List.map_append]; exact congrArg _ (congrArg (fun z => [z]) (HCAT.out.symm.trans hout.out))), hby, hsy⟩
              case measure => simp [intOf]; omega
            · rw [if_pos (by rfl)]
              have hsx := (HSF.out _ (hbw.trans (hk1.mono hsg))).2.1
              refine wp_app (.tmp 28) (.tmp 33) _ rfl elI rfl hoN xA xl.length xc rfl (xl.map intV) hsx (by simp) (ints_one xl) xl.length (by omega) (xl.map intV) (by simp) (by unfold maxLen; omega) (by omega) hk1.size ?_
              clear hsx
              intro Aw8 cw8 w8 hoNw8 hgrN hatN hbN
              have hk2 := hk1.trans hbN
              replace hoN := hoNw8
              clear hoNw8 hgrN hatN hbN
              refine hK.out _ _ (HSF.out _ (hbw.trans (hk2.mono hsg))).1 (fun hHeld => ?_)
              clear hK K
              (try simp only [Act.put, List.setIfInBounds_toArray])
              refine wpAnyH_ready (rs := [1, 14]) (by kernel_rfl) (by simp) (AllReadyH.cons rfl (fun K hK => ?_) (AllReadyH.cons rfl (fun K hK => ?_) AllReadyH.nil))
              · rw [if_pos (by rfl)]
                have k2 : w8.cell? ⟨gS, 3, none⟩ = some (.slice As k cs) := by rw [cell_of_row _ _ _ _ _ _ ((hk2.block _ (by omega)).trans rS)]; rfl
                go_simp
                refine hK.out _ _ (HSF.out _ (hbw.trans (hk2.mono hsg))).1 (fun hHeld => ?_)
                clear hK K
                (try simp only [Act.put, List.setIfInBounds_toArray, List.set_cons_zero, List.set_cons_succ])
                clear k2
                refine wpAnyH_ready (rs := [14]) (by kernel_rfl) (by simp) (AllReadyH.cons rfl (fun K hK => ?_) AllReadyH.nil)
                rw [if_pos (by rfl)]
                have hsx := (HSF.out _ (hbw.trans (hk2.mono hsg))).2.2
                refine wp_app (.tmp 34) (.tmp 39) _ rfl elI rfl hoN yA yl.length yc rfl (yl.map intV) hsx (by simp) (ints_one yl) (xl.length + yl.length) (by omega) ((xl ++ yl).map intV) (by simp) (by unfold maxLen; omega) (by omega) hk2.size ?_
                clear hsx
                intro Aw9 cw9 w9 hoNw9 hgrN hatN hbN
                have hk3 := hk2.trans hbN
                replace hoN := hoNw9
                clear hoNw9 hgrN hatN hbN
                refine hK.out _ _ (HSF.out _ (hbw.trans (hk3.mono hsg))).1 (fun hHeld => ?_)
                clear hK K
                (try simp only [Act.put, List.setIfInBounds_toArray])
                refine wpAnyH_ready (rs := [15]) (by kernel_rfl) (by simp) (AllReadyH.cons rfl (fun K hK => ?_) AllReadyH.nil)
                rw [if_pos (by rfl)]
                have hbB : Below w9.heap.size w9 (w9.alloc (.cells #[.slice Aw9 (xl.length + yl.length) cw9] 34)) := (Below.refl _ _).alloc (Nat.le_refl _) _
                have hseen : Sees (w9.alloc (.cells #[.slice Aw9 (xl.length + yl.length) cw9] 34)) (some ⟨w9.heap.size, 0, none⟩) [.slice Aw9 (xl.length + yl.length) cw9] := Sees.of_alloc _ _ _ rfl
                replace hoN := own_keep' hoN hbB
                have hk4 := hk3.trans (hbB.mono hk3.size)
                clear hbB
                go_simp
                obtain ⟨GB, hGB⟩ : ∃ GB, GB = w9.heap.size := ⟨_, rfl⟩
                rw [← hGB] at hseen ⊢
                clear hGB
                generalize w9.alloc (.cells #[.slice Aw9 (xl.length + yl.length) cw9] 34) = wb at *
                refine hK.out _ _ (HSF.out _ (hbw.trans (hk4.mono hsg))).1 (fun hHeld => ?_)
                clear hK K
                (try simp only [Act.put, List.setIfInBounds_toArray, List.set_cons_zero, List.set_cons_succ])
                refine wpAnyH_ready (rs := [16]) (by kernel_rfl) (by simp) (AllReadyH.cons rfl (fun K hK => ?_) AllReadyH.nil)
                rw [if_pos (by rfl)]
                replace rS := (hk4.block _ (by omega)).trans rS
                replace ho := own_keep' ho hk4
                replace hO := hO.keep hk4
                replace hbw := hbw.trans (hk4.mono hsg)
                replace hoN := Joins.ownsRow_le hoN hsg1
                replace hsg1 := Nat.le_trans hsg1 hk4.size
                refine wp_app (.tmp 27) (.tmp 41) _ rfl elL rfl ho (some ⟨GB, 0, none⟩) 1 1 rfl [.slice Aw9 (xl.length + yl.length) cw9] hseen (by simp) (by intro u hu; simp at hu; subst hu; rfl) (k + 1) rfl ((Lo ++ [{ A := Aw9, c := cw9, l := (xl ++ yl) : Chan }]).map Chan.v) (by simp [Chan.v]) (by unfold maxLen; omega) (by omega) hsg1 ?_
                intro Ax cx wx hownx hgrx hatx hbx
                replace rS := (hbx.block _ (by omega)).trans rS
                replace hO := hO.grown ho hgrx
                replace hoN := OwnL.one ho hgrx hoN
                replace hbw := hbw.trans (hbx.mono (by omega))
                replace hsg1 := Nat.le_trans hsg1 hgrx.size
                clear hgrx hatx ho hbx hseen hk4
                refine hK.out _ _ (HSF.out _ hbw).1 (fun hHeld => ?_)
                clear hK K
                (try simp only [Act.put, List.setIfInBounds_toArray])
                refine wpAnyH_takeD (i := 17) (d := some 43) (v := ?v113) rfl rfl (by kernel_rfl) (by kernel_rfl) (by kernel_rfl) (fun _ _ _ h => h) (Or.inl ⟨by rfl, ?hy113⟩) hHeld ?rest113
                case hy113 =>
                  intro wS hS
                  go_simp
                  all_goals with_reducible rfl
                (try simp only [Act.put])
                refine wpAnyH_ready (rs := [18]) (by kernel_rfl) (by simp) (AllReadyH.cons rfl (fun K hK => ?_) AllReadyH.nil)
                rw [if_pos (by rfl)]
                have k2 : wx.cell? ⟨gS, 3, none⟩ = some (.slice As k cs) := by rw [cell_of_row _ _ _ _ _ _ rS]; rfl
                have f2 : wx.frozen? ⟨gS, 3, none⟩ = false := frozen_of_row _ _ _ _ _ rS
                have rSy : (wx.setCell ⟨gS, 3, none⟩ (.slice Ax (k + 1) cx)).heap[gS]? = some (.cells #[.int .i64 ch, .int .i64 bi, .int .i64 ra, .slice Ax (k + 1) cx] 26 (0, 0)) := heap_setCell_same _ gS 3 _ _ (.slice Ax (k + 1) cx) rS
                have hby := hbw.setCell (p := ⟨gS, 3, none⟩) (Nat.le_refl gS) (.slice Ax (k + 1) cx)
                have hoy := ownsRow_setCell_below hownx (a := ⟨gS, 3, none⟩) (Nat.lt_succ_self gS) (.slice Ax (k + 1) cx)
                have hOy := hO.set (a := ⟨gS, 3, none⟩) (Nat.lt_succ_self gS) (.slice Ax (k + 1) cx)
                have hNy := ownsRow_setCell_below hoN (a := ⟨gS, 3, none⟩) (Nat.lt_succ_self gS) (.slice Ax (k + 1) cx)
                have hsy : gS + 1 ≤ (wx.setCell ⟨gS, 3, none⟩ (.slice Ax (k + 1) cx)).heap.size := Nat.le_trans hsg1 (by simp [World.setCell])
                have hSn := (HSF.out _ hby).1
                clear rS hbw hownx hO hoN hsg1
                go_simp
                refine hK.out _ _ hSn (fun hHeld => ?_)
                clear hK K
                (try simp only [Act.put, List.setIfInBounds_toArray, List.set_cons_zero, List.set_cons_succ])
                clear hSn
                refine wpAnyH_done (by kernel_rfl) ?_ _
                generalize wx.setCell ⟨gS, 3, none⟩ (.slice Ax (k + 1) cx) = wy at *
                clear k2 f2
                go_wp2_with fail
                go_roundw
                case rel => exact ⟨k + 1, Lo ++ [{ A := Aw9, c := cw9, l := (xl ++ yl) : Chan }], Ax, cx, by omega, by go_num, rSy, hoy, hOy.snoc (x := { A := Aw9, c := cw9, l := (xl ++ yl) : Chan }) (by simpa using hNy), hid (by rw [ints_snoc, hI.out, List.range_succ, List.map_append]; exact congrArg _ (congrArg (fun z => [z]) (HCAT.out.symm.trans hout.out))), hby, hsy⟩
                case measure => simp [intOf]; omega
              · rw [if_pos (by rfl)]
                have hsx := (HSF.out _ (hbw.trans (hk2.mono hsg))).2.2
                refine wp_app (.tmp 34) (.tmp 39) _ rfl elI rfl hoN yA yl.length yc rfl (yl.map intV) hsx (by simp) (ints_one yl) (xl.length + yl.length) (by omega) ((xl ++ yl).map intV) (by simp) (by unfold maxLen; omega) (by omega) hk2.size ?_
                clear hsx
                intro Aw9 cw9 w9 hoNw9 hgrN hatN hbN
                have hk3 := hk2.trans hbN
                replace hoN := hoNw9
                clear hoNw9 hgrN hatN hbN
                refine hK.out _ _ (HSF.out _ (hbw.trans (hk3.mono hsg))).1 (fun hHeld => ?_)
                clear hK K
                (try simp only [Act.put])
                refine wpAnyH_ready (rs := [1, 15]) (by kernel_rfl) (by simp) (AllReadyH.cons rfl (fun K hK => ?_) (AllReadyH.cons rfl (fun K hK => ?_) AllReadyH.nil))
                · rw [if_pos (by rfl)]
                  have k2 : w9.cell? ⟨gS, 3, none⟩ = some (.slice As k cs) := by rw [cell_of_row _ _ _ _ _ _ ((hk3.block _ (by omega)).trans rS)]; rfl
                  go_simp
                  refine hK.out _ _ (HSF.out _ (hbw.trans (hk3.mono hsg))).1 (fun hHeld => ?_)
                  clear hK K
                  (try simp only [Act.put, List.setIfInBounds_toArray, List.set_cons_zero, List.set_cons_succ])
                  clear k2
                  refine wpAnyH_ready (rs := [15]) (by kernel_rfl) (by simp) (AllReadyH.cons rfl (fun K hK => ?_) AllReadyH.nil)
                  rw [if_pos (by rfl)]
                  have hbB : Below w9.heap.size w9 (w9.alloc (.cells #[.slice Aw9 (xl.length + yl.length) cw9] 34)) := (Below.refl _ _).alloc (Nat.le_refl _) _
                  have hseen : Sees (w9.alloc (.cells #[.slice Aw9 (xl.length + yl.length) cw9] 34)) (some ⟨w9.heap.size, 0, none⟩) [.slice Aw9 (xl.length + yl.length) cw9] := Sees.of_alloc _ _ _ rfl
                  replace hoN := own_keep' hoN hbB
                  have hk4 := hk3.trans (hbB.mono hk3.size)
                  clear hbB
                  go_simp
                  obtain ⟨GB, hGB⟩ : ∃ GB, GB = w9.heap.size := ⟨_, rfl⟩
                  rw [← hGB] at hseen ⊢
                  clear hGB
                  generalize w9.alloc (.cells #[.slice Aw9 (xl.length + yl.length) cw9] 34) = wb at *
                  refine hK.out _ _ (HSF.out _ (hbw.trans (hk4.mono hsg))).1 (fun hHeld => ?_)
                  clear hK K
                  (try simp only [Act.put, List.setIfInBounds_toArray, List.set_cons_zero, List.set_cons_succ])
                  refine wpAnyH_ready (rs := [16]) (by kernel_rfl) (by simp) (AllReadyH.cons rfl (fun K hK => ?_) AllReadyH.nil)
                  rw [if_pos (by rfl)]
                  replace rS := (hk4.block _ (by omega)).trans rS
                  replace ho := own_keep' ho hk4
                  replace hO := hO.keep hk4
                  replace hbw := hbw.trans (hk4.mono hsg)
                  replace hoN := Joins.ownsRow_le hoN hsg1
                  replace hsg1 := Nat.le_trans hsg1 hk4.size
                  refine wp_app (.tmp 27) (.tmp 41) _ rfl elL rfl ho (some ⟨GB, 0, none⟩) 1 1 rfl [.slice Aw9 (xl.length + yl.length) cw9] hseen (by simp) (by intro u hu; simp at hu; subst hu; rfl) (k + 1) rfl ((Lo ++ [{ A := Aw9, c := cw9, l := (xl ++ yl) : Chan }]).map Chan.v) (by simp [Chan.v]) (by unfold maxLen; omega) (by omega) hsg1 ?_
                  intro Ax cx wx hownx hgrx hatx hbx
                  replace rS := (hbx.block _ (by omega)).trans rS
                  replace hO := hO.grown ho hgrx
                  replace hoN := OwnL.one ho hgrx hoN
                  replace hbw := hbw.trans (hbx.mono (by omega))
                  replace hsg1 := Nat.le_trans hsg1 hgrx.size
                  clear hgrx hatx ho hbx hseen hk4
                  refine hK.out _ _ (HSF.out _ hbw).1 (fun hHeld => ?_)
                  clear hK K
                  (try simp only [Act.put, List.setIfInBounds_toArray])
                  refine wpAnyH_takeD (i := 17) (d := some 43) (v := ?v114) rfl rfl (by kernel_rfl) (by kernel_rfl) (by kernel_rfl) (fun _ _ _ h => h) (Or.inl ⟨by rfl, ?hy114⟩) hHeld ?rest114
                  case hy114 =>
                    intro wS hS
                    go_simp
                    all_goals with_reducible rfl
                  (try simp only [Act.put])
                  refine wpAnyH_ready (rs := [18]) (by kernel_rfl) (by simp) (AllReadyH.cons rfl (fun K hK => ?_) AllReadyH.nil)
                  rw [if_pos (by rfl)]
                  have k2 : wx.cell? ⟨gS, 3, none⟩ = some (.slice As k cs) := by rw [cell_of_row _ _ _ _ _ _ rS]; rfl
                  have f2 : wx.frozen? ⟨gS, 3, none⟩ = false := frozen_of_row _ _ _ _ _ rS
                  have rSy : (wx.setCell ⟨gS, 3, none⟩ (.slice Ax (k + 1) cx)).heap[gS]? = some (.cells #[.int .i64 ch, .int .i64 bi, .int .i64 ra, .slice Ax (k + 1) cx] 26 (0, 0)) := heap_setCell_same _ gS 3 _ _ (.slice Ax (k + 1) cx) rS
                  have hby := hbw.setCell (p := ⟨gS, 3, none⟩) (Nat.le_refl gS) (.slice Ax (k + 1) cx)
                  have hoy := ownsRow_setCell_below hownx (a := ⟨gS, 3, none⟩) (Nat.lt_succ_self gS) (.slice Ax (k + 1) cx)
                  have hOy := hO.set (a := ⟨gS, 3, none⟩) (Nat.lt_succ_self gS) (.slice Ax (k + 1) cx)
                  have hNy := ownsRow_setCell_below hoN (a := ⟨gS, 3, none⟩) (Nat.lt_succ_self gS) (.slice Ax (k + 1) cx)
                  have hsy : gS + 1 ≤ (wx.setCell ⟨gS, 3, none⟩ (.slice Ax (k + 1) cx)).heap.size := Nat.le_trans hsg1 (by simp [World.setCell])
                  have hSn := (HSF.out _ hby).1
                  clear rS hbw hownx hO hoN hsg1
                  go_simp
                  refine hK.out _ _ hSn (fun hHeld => ?_)
                  clear hK K
                  (try simp only [Act.put, List.setIfInBounds_toArray, List.set_cons_zero, List.set_cons_succ])
                  clear hSn
                  refine wpAnyH_done (by kernel_rfl) ?_ _
                  generalize wx.setCell ⟨gS, 3, none⟩ (.slice Ax (k + 1) cx) = wy at *
                  clear k2 f2
                  go_wp2_with fail
                  go_roundw
                  case rel => exact ⟨k + 1, Lo ++ [{ A := Aw9, c := cw9, l := (xl ++ yl) : Chan }], Ax, cx, by omega, by go_num, rSy, hoy, hOy.snoc (x := { A := Aw9, c := cw9, l := (xl ++ yl) : Chan }) (by simpa using hNy), hid (by rw [ints_snoc, hI.out, List.range_succ, List.map_append]; exact congrArg _ (congrArg (fun z => [z]) (HCAT.out.symm.trans hout.out))), hby, hsy⟩
                  case measure => simp [intOf]; omega
                · rw [if_pos (by rfl)]
                  have hbB : Below w9.heap.size w9 (w9.alloc (.cells #[.slice Aw9 (xl.length + yl.length) cw9] 34)) := (Below.refl _ _).alloc (Nat.le_refl _) _
                  have hseen : Sees (w9.alloc (.cells #[.slice Aw9 (xl.length + yl.length) cw9] 34)) (some ⟨w9.heap.size, 0, none⟩) [.slice Aw9 (xl.length + yl.length) cw9] := Sees.of_alloc _ _ _ rfl
                  replace hoN := own_keep' hoN hbB
                  have hk4 := hk3.trans (hbB.mono hk3.size)
                  clear hbB
                  go_simp
                  obtain ⟨GB, hGB⟩ : ∃ GB, GB = w9.heap.size := ⟨_, rfl⟩
                  rw [← hGB] at hseen ⊢
                  clear hGB
                  generalize w9.alloc (.cells #[.slice Aw9 (xl.length + yl.length) cw9] 34) = wb at *
                  refine hK.out _ _ (HSF.out _ (hbw.trans (hk4.mono hsg))).1 (fun hHeld => ?_)
                  clear hK K
                  (try simp only [Act.put, List.setIfInBounds_toArray, List.set_cons_zero, List.set_cons_succ])
                  refine wpAnyH_ready (rs := [1]) (by kernel_rfl) (by simp) (AllReadyH.cons rfl (fun K hK => ?_) AllReadyH.nil)
                  rw [if_pos (by rfl)]
                  have k2 : wb.cell? ⟨gS, 3, none⟩ = some (.slice As k cs) := by rw [cell_of_row _ _ _ _ _ _ ((hk4.block _ (by omega)).trans rS)]; rfl
                  go_simp
                  refine hK.out _ _ (HSF.out _ (hbw.trans (hk4.mono hsg))).1 (fun hHeld => ?_)
                  clear hK K
                  (try simp only [Act.put, List.setIfInBounds_toArray, List.set_cons_zero, List.set_cons_succ])
                  clear k2
                  refine wpAnyH_ready (rs := [16]) (by kernel_rfl) (by simp) (AllReadyH.cons rfl (fun K hK => ?_) AllReadyH.nil)
                  rw [if_pos (by rfl)]
                  replace rS := (hk4.block _ (by omega)).trans rS
                  replace ho := own_keep' ho hk4
                  replace hO := hO.keep hk4
                  replace hbw := hbw.trans (hk4.mono hsg)
                  replace hoN := Joins.ownsRow_le hoN hsg1
                  replace hsg1 := Nat.le_trans hsg1 hk4.size
                  refine wp_app (.tmp 27) (.tmp 41) _ rfl elL rfl ho (some ⟨GB, 0, none⟩) 1 1 rfl [.slice Aw9 (xl.length + yl.length) cw9] hseen (by simp) (by intro u hu; simp at hu; subst hu; rfl) (k + 1) rfl ((Lo ++ [{ A := Aw9, c := cw9, l := (xl ++ yl) : Chan }]).map Chan.v) (by simp [Chan.v]) (by unfold maxLen; omega) (by omega) hsg1 ?_
                  intro Ax cx wx hownx hgrx hatx hbx
                  replace rS := (hbx.block _ (by omega)).trans rS
                  replace hO := hO.grown ho hgrx
                  replace hoN := OwnL.one ho hgrx hoN
                  replace hbw := hbw.trans (hbx.mono (by omega))
                  replace hsg1 := Nat.le_trans hsg1 hgrx.size
                  clear hgrx hatx ho hbx hseen hk4
                  refine hK.out _ _ (HSF.out _ hbw).1 (fun hHeld => ?_)
                  clear hK K
                  (try simp only [Act.put, List.setIfInBounds_toArray])
                  refine wpAnyH_takeD (i := 17) (d := some 43) (v := ?v115) rfl rfl (by kernel_rfl) (by kernel_rfl) (by kernel_rfl) (fun _ _ _ h => h) (Or.inl ⟨by rfl, ?hy115⟩) hHeld ?rest115
                  case hy115 =>
                    intro wS hS
                    go_simp
                    all_goals with_reducible rfl
                  (try simp only [Act.put])
                  refine wpAnyH_ready (rs := [18]) (by kernel_rfl) (by simp) (AllReadyH.cons rfl (fun K hK => ?_) AllReadyH.nil)
                  rw [if_pos (by rfl)]
                  have k2 : wx.cell? ⟨gS, 3, none⟩ = some (.slice As k cs) := by rw [cell_of_row _ _ _ _ _ _ rS]; rfl
                  have f2 : wx.frozen? ⟨gS, 3, none⟩ = false := frozen_of_row _ _ _ _ _ rS
                  have rSy : (wx.setCell ⟨gS, 3, none⟩ (.slice Ax (k + 1) cx)).heap[gS]? = some (.cells #[.int .i64 ch, .int .i64 bi, .int .i64 ra, .slice Ax (k + 1) cx] 26 (0, 0)) := heap_setCell_same _ gS 3 _ _ (.slice Ax (k + 1) cx) rS
                  have hby := hbw.setCell (p := ⟨gS, 3, none⟩) (Nat.le_refl gS) (.slice Ax (k + 1) cx)
                  have hoy := ownsRow_setCell_below hownx (a := ⟨gS, 3, none⟩) (Nat.lt_succ_self gS) (.slice Ax (k + 1) cx)
                  have hOy := hO.set (a := ⟨gS, 3, none⟩) (Nat.lt_succ_self gS) (.slice Ax (k + 1) cx)
                  have hNy := ownsRow_setCell_below hoN (a := ⟨gS, 3, none⟩) (Nat.lt_succ_self gS) (.slice Ax (k + 1) cx)
                  have hsy : gS + 1 ≤ (wx.setCell ⟨gS, 3, none⟩ (.slice Ax (k + 1) cx)).heap.size := Nat.le_trans hsg1 (by simp [World.setCell])
                  have hSn := (HSF.out _ hby).1
                  clear rS hbw hownx hO hoN hsg1
                  go_simp
                  refine hK.out _ _ hSn (fun hHeld => ?_)
                  clear hK K
                  (try simp only [Act.put, List.setIfInBounds_toArray, List.set_cons_zero, List.set_cons_succ])
                  clear hSn
                  refine wpAnyH_done (by kernel_rfl) ?_ _
                  generalize wx.setCell ⟨gS, 3, none⟩ (.slice Ax (k + 1) cx) = wy at *
                  clear k2 f2
                  go_wp2_with fail
                  go_roundw
                  case rel => exact ⟨k + 1, Lo ++ [{ A := Aw9, c := cw9, l := (xl ++ yl) : Chan }], Ax, cx, by omega, by go_num, rSy, hoy, hOy.snoc (x := { A := Aw9, c := cw9, l := (xl ++ yl) : Chan }) (by simpa using hNy), hid (by rw [ints_snoc, hI.out, List.range_succ, List.map_append]; exact congrArg _ (congrArg (fun z => [z]) (HCAT.out.symm.trans hout.out))), hby, hsy⟩
                  case measure => simp [intOf]; omega
      · obtain rfl : k = L.length := by omega
        have dk : decide ((L.length : Int) < (L.length : Int)) = false := decide_eq_false (by omega)
        have rZ := HR2.out _ hbw
        have hbb := HBB.out _ hbw
        have q0 : wr.cell? ⟨gS, 0, none⟩ = some (.int .i64 ch) := by rw [cell_of_row _ _ _ _ _ _ rS]; rfl
        have q1 : wr.cell? ⟨gS, 1, none⟩ = some (.int .i64 bi) := by rw [cell_of_row _ _ _ _ _ _ rS]; rfl
        have q2 : wr.cell? ⟨gS, 2, none⟩ = some (.int .i64 ra) := by rw [cell_of_row _ _ _ _ _ _ rS]; rfl
        have q3 : wr.cell? ⟨gS, 3, none⟩ = some (.slice As L.length cs) := by rw [cell_of_row _ _ _ _ _ _ rS]; rfl
        have hlen := hid (show Lo.length = L.length by have := congrArg List.length hI.out; simpa [ints] using this)
        have hfin : SeesL (wr.setRow (w.heap.size + 1 + 1) #[.int .i64 ch, .int .i64 bi, .int .i64 ra, .slice As L.length cs]) As Lo := ⟨own_sees (own_setRow ho (by omega) _), fun x hx => ⟨own_sees (own_setRow (hO x hx) (by omega) _), own_len (hO x hx)⟩⟩
        clear rS ho hO hbw
        go_wp2_with first | (refine wpList_store_row rfl 26 (.tmp 4) (.tmp 44) rfl rfl (w.heap.size + 1 + 1) rfl #[.int .i64 ch, .int .i64 bi, .int .i64 ra, .slice As L.length cs] rfl 26 #[.int .i64 0, .int .i64 0, .int .i64 0, .slice none 0 0] rZ (by kernel_rfl) rfl (by simp [Value.oneCell']) ?_)
        exact bodyPost_ret (v := .tuple #[.agg #[.int .i64 ch, .int .i64 bi, .int .i64 ra, .slice As L.length cs], .int .i64 0]) (results_row_tmp (fn := Try.f26) (p := 4) (u := 5) (ty := 26) rfl _ _ (w.heap.size + 1 + 1) _ _ _ _ rfl (setRow_heap _ _ _ _ _ _ rZ) Try.underlying26 rfl (by kernel_rfl)) rfl (by
          unfold SndPost
          rw [if_pos rfl]
          exact ⟨As, cs, Lo, by rw [hlen.out], hfin, hI.out, below_setRow hbb (by omega) _⟩)
end Go.Proofs.Ytfinefhebffpcaa
