/- Sound cut: the reference's. -/
import Derived.Test.YtfinefhebffpcaaPcmCut
import Derived.Test.YtfinefhebffpcaaPcmRCheck
namespace Go.Proofs.Ytfinefhebffpcaa
set_option linter.unusedVariables false
open Go.RowKit
theorem snd_z (w : World) (ch bi ra : Int) (A : Option Addr) (n c : Nat) : ∃ w2, w2 = (w.alloc (.cells #[.int .i64 ch, .int .i64 bi, .int .i64 ra, .slice A n c] 26)).alloc (.cells #[.int .i64 0, .int .i64 0, .int .i64 0, .slice none 0 0] 26) ∧ SndAt w2 w.heap.size ch bi ra A n c ∧
    w2.heap[w.heap.size + 1]? = some (.cells #[.int .i64 0, .int .i64 0, .int .i64 0, .slice none 0 0] 26 (0, 0)) ∧ Below w.heap.size w w2 ∧ w.heap.size + 2 ≤ w2.heap.size := by
  have h0 := SndAt.new w ch bi ra A n c
  have hb0 := below_box w ch bi ra A n c
  have s0 : (w.alloc (.cells #[.int .i64 ch, .int .i64 bi, .int .i64 ra, .slice A n c] 26)).heap.size = w.heap.size + 1 := by simp
  generalize w.alloc (.cells #[.int .i64 ch, .int .i64 bi, .int .i64 ra, .slice A n c] 26) = w0 at *
  have hb3 : Below w0.heap.size w0 (w0.alloc (.cells #[.int .i64 0, .int .i64 0, .int .i64 0, .slice none 0 0] 26)) := (Below.refl _ _).alloc (Nat.le_refl _) _
  have h3 := heap_alloc_new w0 (.cells #[.int .i64 0, .int .i64 0, .int .i64 0, .slice none 0 0] 26)
  rw [s0] at h3
  exact ⟨_, rfl, h0.below hb3, h3, hb0.trans (hb3.mono hb0.size), by simp; omega⟩
set_option maxRecDepth 20000 in
set_option maxHeartbeats 16000000 in
theorem rcut_any (ch bi ra : Int) (A : Option Addr) (c : Nat) (L : List Chan) (f t : Int) (w : World) (hl : SeesL w A L) (h1 : L.length ≤ maxLen) (hcap : ∀ x ∈ L, x.l.length ≤ x.c) :
    Calls Try.prog 30 #[.agg #[.int .i64 ch, .int .i64 bi, .int .i64 ra, .slice A L.length c], .int .i64 f, .int .i64 t] w (SndPost w (cutV ch bi ra L f t) ch bi ra ((List.range L.length).map (cutL L f.toNat t.toNat))) := by
  obtain ⟨w2, hw2, ha, r2, hb, hs⟩ := snd_z w ch bi ra A L.length c
  obtain ⟨R, hR⟩ : ∃ R, R = cutV ch bi ra L f t := ⟨_, rfl⟩
  rw [← hR]
  unfold cutV at hR
  have hl0 := hl.below hb
  have KC := hid (fun W hW => rcheck_any ch bi ra A c L W hW h1)
  have CC := hid (fun W hW => rcount_any ch bi ra A c L W hW)
  obtain ⟨q, hq⟩ : ∃ q, q = checkV ch bi ra L := ⟨_, rfl⟩
  rw [← hq] at hR KC
  clear hl
  obtain ⟨s0, s1, s2, s3⟩ := ha
  by_cases e1 : q = 0
  case neg =>
    rw [if_pos e1] at hR
    obtain rfl : R = q := hR
    have d1 : (R != 0) = true := by simpa using e1
    have d1' : decide (R = 0) = false := decide_eq_false e1
    have HE := hid e1
    clear hq e1
    go_enter Try.func30, Try.ntmps30
    go_wp2_with fail
    rw [← hw2]
    clear hw2
    refine (KC.out _ hl0).mono ?_
    rintro e w3 ⟨rfl, hb3⟩
    replace r2 := (hb3.block _ (by omega)).trans r2
    replace hb := hb.trans (hb3.mono hb.size)
    replace hs := Nat.le_trans hs hb3.size
    clear hb3 KC CC hl0 s0 s1 s2 s3
    go_wp2_with first | (refine wpList_store_row rfl 26 (.tmp 6) (.tmp 15) rfl rfl (w.heap.size + 1) rfl #[.int .i64 0, .int .i64 0, .int .i64 0, .slice none 0 0] rfl 26 #[.int .i64 0, .int .i64 0, .int .i64 0, .slice none 0 0] r2 (by kernel_rfl) rfl (by simp [Value.oneCell']) ?_)
    exact bodyPost_ret (v := .tuple #[.agg #[.int .i64 0, .int .i64 0, .int .i64 0, .slice none 0 0], .int .i64 R]) (results_row_tmp (fn := Try.f30) (p := 6) (u := 7) (ty := 26) rfl _ _ (w.heap.size + 1) _ _ _ _ rfl (setRow_heap _ _ _ _ _ _ r2) Try.underlying26 rfl (by kernel_rfl)) rfl (by
      unfold SndPost
      rw [if_neg HE.out]
      exact ⟨rfl, below_setRow hb (by omega) _⟩)
  case pos =>
    subst e1
    rw [if_neg (by simp)] at hR
    obtain ⟨r1, n1, m1, a1⟩ := check_ok hq.symm
    have hL8 : L.length ≤ 8 := by unfold rightF at r1; have := of_decide_eq_true r1; omega
    have A1 := hid (fun x (hx : x ∈ L) => show x.l.length = countL L from (a1 x hx).1)
    have HCAP := hid hcap
    clear r1 a1 n1 hq h1 hcap
    obtain ⟨cl, hcl⟩ : ∃ cl, cl = countL L := ⟨_, rfl⟩
    rw [← hcl] at CC A1 m1 hR
    clear hcl
    have HR := hid hR
    clear hR
    by_cases k1 : f < 0
    case pos =>
      obtain rfl : R = 1 := by rw [HR.out, if_pos (Or.inl k1)]
      clear HR
      have d1 : decide (f < 0) = true := decide_eq_true k1
      go_enter Try.func30, Try.ntmps30
      go_wp2_with fail
      rw [← hw2]
      clear hw2
      refine (KC.out _ hl0).mono ?_
      rintro e w3 ⟨rfl, hb3⟩
      replace r2 := (hb3.block _ (by omega)).trans r2
      replace hb := hb.trans (hb3.mono hb.size)
      replace hs := Nat.le_trans hs hb3.size
      replace s0 := keep1 hb3 s0
      replace s1 := keep1 hb3 s1
      replace s2 := keep1 hb3 s2
      replace s3 := keep1 hb3 s3
      replace hl0 := hl0.below hb3
      clear hb3 KC
      clear s0 s1 s2 s3
      go_wp2_with first | (refine wpList_store_row rfl 26 (.tmp 6) (.tmp 30) rfl rfl (w.heap.size + 1) rfl #[.int .i64 0, .int .i64 0, .int .i64 0, .slice none 0 0] rfl 26 #[.int .i64 0, .int .i64 0, .int .i64 0, .slice none 0 0] r2 (by kernel_rfl) rfl (by simp [Value.oneCell']) ?_)
      exact bodyPost_ret (v := .tuple #[.agg #[.int .i64 0, .int .i64 0, .int .i64 0, .slice none 0 0], .int .i64 1]) (results_row_tmp (fn := Try.f30) (p := 6) (u := 7) (ty := 26) rfl _ _ (w.heap.size + 1) _ _ _ _ rfl (setRow_heap _ _ _ _ _ _ r2) Try.underlying26 rfl (by kernel_rfl)) rfl (by
        unfold SndPost
        rw [if_neg (by omega)]
        exact ⟨rfl, below_setRow hb (by omega) _⟩)
    have d1 : decide (f < 0) = false := decide_eq_false k1
    by_cases k2 : t < f
    case pos =>
      obtain rfl : R = 1 := by rw [HR.out, if_pos (Or.inr (Or.inl k2))]
      clear HR
      have d2 : decide (t < f) = true := decide_eq_true k2
      go_enter Try.func30, Try.ntmps30
      go_wp2_with fail
      rw [← hw2]
      clear hw2
      refine (KC.out _ hl0).mono ?_
      rintro e w3 ⟨rfl, hb3⟩
      replace r2 := (hb3.block _ (by omega)).trans r2
      replace hb := hb.trans (hb3.mono hb.size)
      replace hs := Nat.le_trans hs hb3.size
      replace s0 := keep1 hb3 s0
      replace s1 := keep1 hb3 s1
      replace s2 := keep1 hb3 s2
      replace s3 := keep1 hb3 s3
      replace hl0 := hl0.below hb3
      clear hb3 KC
      clear s0 s1 s2 s3
      go_wp2_with first | (refine wpList_store_row rfl 26 (.tmp 6) (.tmp 30) rfl rfl (w.heap.size + 1) rfl #[.int .i64 0, .int .i64 0, .int .i64 0, .slice none 0 0] rfl 26 #[.int .i64 0, .int .i64 0, .int .i64 0, .slice none 0 0] r2 (by kernel_rfl) rfl (by simp [Value.oneCell']) ?_)
      exact bodyPost_ret (v := .tuple #[.agg #[.int .i64 0, .int .i64 0, .int .i64 0, .slice none 0 0], .int .i64 1]) (results_row_tmp (fn := Try.f30) (p := 6) (u := 7) (ty := 26) rfl _ _ (w.heap.size + 1) _ _ _ _ rfl (setRow_heap _ _ _ _ _ _ r2) Try.underlying26 rfl (by kernel_rfl)) rfl (by
        unfold SndPost
        rw [if_neg (by omega)]
        exact ⟨rfl, below_setRow hb (by omega) _⟩)
    have d2 : decide (t < f) = false := decide_eq_false k2
    by_cases k3 : (cl : Int) < t
    case pos =>
      obtain rfl : R = 1 := by rw [HR.out, if_pos (Or.inr (Or.inr k3))]
      clear HR
      have d3 : decide ((cl : Int) < t) = true := decide_eq_true k3
      go_enter Try.func30, Try.ntmps30
      go_wp2_with fail
      rw [← hw2]
      clear hw2
      refine (KC.out _ hl0).mono ?_
      rintro e w3 ⟨rfl, hb3⟩
      replace r2 := (hb3.block _ (by omega)).trans r2
      replace hb := hb.trans (hb3.mono hb.size)
      replace hs := Nat.le_trans hs hb3.size
      replace s0 := keep1 hb3 s0
      replace s1 := keep1 hb3 s1
      replace s2 := keep1 hb3 s2
      replace s3 := keep1 hb3 s3
      replace hl0 := hl0.below hb3
      clear hb3 KC
      go_wp2_with fail
      refine (CC.out _ hl0).mono ?_
      rintro e w4 ⟨rfl, hb3⟩
      replace r2 := (hb3.block _ (by omega)).trans r2
      replace hb := hb.trans (hb3.mono hb.size)
      replace hs := Nat.le_trans hs hb3.size
      replace s0 := keep1 hb3 s0
      replace s1 := keep1 hb3 s1
      replace s2 := keep1 hb3 s2
      replace s3 := keep1 hb3 s3
      replace hl0 := hl0.below hb3
      clear hb3 CC
      clear s0 s1 s2 s3
      go_wp2_with first | (refine wpList_store_row rfl 26 (.tmp 6) (.tmp 30) rfl rfl (w.heap.size + 1) rfl #[.int .i64 0, .int .i64 0, .int .i64 0, .slice none 0 0] rfl 26 #[.int .i64 0, .int .i64 0, .int .i64 0, .slice none 0 0] r2 (by kernel_rfl) rfl (by simp [Value.oneCell']) ?_)
      exact bodyPost_ret (v := .tuple #[.agg #[.int .i64 0, .int .i64 0, .int .i64 0, .slice none 0 0], .int .i64 1]) (results_row_tmp (fn := Try.f30) (p := 6) (u := 7) (ty := 26) rfl _ _ (w.heap.size + 1) _ _ _ _ rfl (setRow_heap _ _ _ _ _ _ r2) Try.underlying26 rfl (by kernel_rfl)) rfl (by
        unfold SndPost
        rw [if_neg (by omega)]
        exact ⟨rfl, below_setRow hb (by omega) _⟩)
    have d3 : decide ((cl : Int) < t) = false := decide_eq_false k3
    obtain rfl : R = 0 := by rw [HR.out, if_neg (by omega)]
    clear HR
    have HK := hid (show 0 ≤ f ∧ f ≤ t ∧ t ≤ (cl : Int) by omega)
    have HM1 := hid m1
    clear k1 k2 k3 m1
    go_enter Try.func30, Try.ntmps30
    go_wp2_with fail
    rw [← hw2]
    clear hw2
    refine (KC.out _ hl0).mono ?_
    rintro e w3 ⟨rfl, hb3⟩
    replace r2 := (hb3.block _ (by omega)).trans r2
    replace hb := hb.trans (hb3.mono hb.size)
    replace hs := Nat.le_trans hs hb3.size
    replace s0 := keep1 hb3 s0
    replace s1 := keep1 hb3 s1
    replace s2 := keep1 hb3 s2
    replace s3 := keep1 hb3 s3
    replace hl0 := hl0.below hb3
    clear hb3 KC
    go_wp2_with fail
    refine (CC.out _ hl0).mono ?_
    rintro e w4 ⟨rfl, hb3⟩
    replace r2 := (hb3.block _ (by omega)).trans r2
    replace hb := hb.trans (hb3.mono hb.size)
    replace hs := Nat.le_trans hs hb3.size
    replace s0 := keep1 hb3 s0
    replace s1 := keep1 hb3 s1
    replace s2 := keep1 hb3 s2
    replace s3 := keep1 hb3 s3
    replace hl0 := hl0.below hb3
    clear hb3 CC
    go_wp2_with fail
    have hbw : Below w4.heap.size w4 (w4.alloc (.cells #[.int .i64 ch, .int .i64 bi, .int .i64 ra, .slice none 0 0] 26)) := (Below.refl _ _).alloc (Nat.le_refl _) _
    have rS := heap_alloc_new w4 (.cells #[.int .i64 ch, .int .i64 bi, .int .i64 ra, .slice none 0 0] 26)
    have hsg1 : w4.heap.size + 1 ≤ (w4.alloc (.cells #[.int .i64 ch, .int .i64 bi, .int .i64 ra, .slice none 0 0] 26)).heap.size := by simp
    clear d1 d2 d3
    obtain ⟨k1, k2, k3⟩ := HK.out
    obtain ⟨F, rfl⟩ : ∃ n : Nat, f = (n : Int) := ⟨f.toNat, by omega⟩
    obtain ⟨T, rfl⟩ : ∃ n : Nat, t = (n : Int) := ⟨t.toNat, by omega⟩
    simp only [Int.toNat_natCast]
    have hFT : F ≤ T := by omega
    have HT := hid (show T ≤ cl by omega)
    clear k1 k2 k3 HK
    have HS4 := hid (fun W (hW : Below w4.heap.size w4 W) => show W.cell? ⟨w.heap.size, 3, none⟩ = some (.slice A L.length c) ∧ SeesL W A L from ⟨keep1 hW s3, hl0.below hW⟩)
    have HR2 := hid (fun W (hW : Below w4.heap.size w4 W) => show W.heap[w.heap.size + 1]? = some (.cells #[.int .i64 0, .int .i64 0, .int .i64 0, .slice none 0 0] 26 (0, 0)) from (hW.block _ (Array.getElem?_eq_some_iff.1 r2).1).trans r2)
    have HBB := hid (fun W (hW : Below w4.heap.size w4 W) => show Below w.heap.size w W from hb.trans (hW.mono hb.size))
    obtain ⟨gS, hgS⟩ : ∃ gS, gS = w4.heap.size := ⟨_, rfl⟩
    rw [← hgS] at hbw rS hsg1 HS4 HR2 HBB hs ⊢
    have hz : w.heap.size + 1 < gS := by rw [hgS]; exact (Array.getElem?_eq_some_iff.1 r2).1
    clear hgS s0 s1 s2 s3  hl0  r2 hb
    generalize w4.alloc (.cells #[.int .i64 ch, .int .i64 bi, .int .i64 ra, .slice none 0 0] 26) = w5 at *
    go_loopw [10] (fun iv wr => ∃ (k : Nat) (Lo : List Chan) (As : Option Addr) (cs : Nat), k ≤ L.length ∧ iv = .int .i64 (k : Int) ∧ wr.heap[gS]? = some (.cells #[.int .i64 ch, .int .i64 bi, .int .i64 ra, .slice As k cs] 26 (0, 0)) ∧ wr.ownsRow (gS + 1) 34 1 (.slice As k cs) k (Lo.map Chan.v) ∧ OwnL wr (gS + 1) Lo ∧ Hid (ints Lo = (List.range k).map (cutL L F T)) ∧ Below gS w4 wr ∧ gS + 1 ≤ wr.heap.size) (fun iv _ => L.length - (intOf iv).toNat)
    case atStart => exact ⟨0, [], none, 0, by omega, rfl, rS, own_nil _ _ _ _, fun x hx => by simp at hx, hid rfl, hbw, hsg1⟩
    case round =>
      clear rS hbw hsg1
      obtain ⟨k, Lo, As, cs, hk, rfl, rS, ho, hO, hI, hbw, hsg1⟩ := hrel
      have c3 := (HS4.out _ hbw).1
      by_cases hlt : k < L.length
      · have dk : decide ((k : Int) < (L.length : Int)) = true := decide_eq_true (by omega)
        have ck : (k : Int) < (L.length : Int) := by omega
        go_wp2_with fail
        clear c3
        have HCAT := hid (cutL_at L F T k hlt)
        obtain ⟨a, rfl, _⟩ := (HS4.out _ hbw).2.at hlt
        have hxT : T ≤ L[k].l.length := by rw [A1.out _ (List.getElem_mem hlt)]; exact HT.out
        have hxc := HCAP.out L[k] (List.getElem_mem hlt)
        have hxm : L[k].l.length ≤ 4294967295 := by rw [A1.out _ (List.getElem_mem hlt)]; exact HM1.out
        have HSF := hid (fun W (hW : Below gS w4 W) => show (W.cell? ⟨w.heap.size, 3, none⟩ = some (.slice (some a) L.length c) ∧ W.cell? (a.add k) = some (.slice L[k].A L[k].l.length L[k].c)) ∧ SeesI W (cutA L[k].A L[k].c F) (partL L[k].l F T) from by
          obtain ⟨q1, q3⟩ := HS4.out W hW
          obtain ⟨a1, ha1, hx⟩ := q3.at hlt
          injection ha1 with ha1
          subst ha1
          exact ⟨⟨q1, hx⟩, sees_cut (q3.2 _ (List.getElem_mem hlt)).1 _ F T hFT hxT hxc⟩)
        obtain ⟨out, hout⟩ : ∃ out, out = cutL L F T k := ⟨_, rfl⟩
        rw [← hout] at HCAT
        replace hout := hid hout
        generalize L[k] = x at *
        obtain ⟨xA, xc, xl⟩ := x
        simp only at *
        have hsl := hid (fun W => cut_slice xA xl.length xc F T hFT (by omega) W)
        have hpl := hid (partL_len xl F T hFT hxT)
        have hplm : (partL xl F T).length ≤ 8796093022208 := by rw [hpl.out]; omega
        clear hxT hxc hxm
        generalize partL xl F T = pl at *
        rw [← hpl.out] at hsl
        clear hpl
        generalize cutA xA xc F = yA at *
        generalize xc - F = yc at *
        · skip
          refine wp_region_held_drew (S := fun W => W.cell? ⟨w.heap.size, 3, none⟩ = some (.slice (some a) L.length c) ∧ W.cell? (a.add k) = some (.slice xA xl.length xc)) (by kernel_rfl) (HSF.out _ hbw).1 (fun hHeld => ?_)
          replace rS : wr.drew.heap[gS]? = some (.cells #[.int .i64 ch, .int .i64 bi, .int .i64 ra, .slice As k cs] 26 (0, 0)) := rS
          replace ho : wr.drew.ownsRow (gS + 1) 34 1 (.slice As k cs) k (Lo.map Chan.v) := ho
          replace hO : OwnL wr.drew (gS + 1) Lo := hO
          replace hbw : Below gS w4 wr.drew := hbw.drew
          replace hsg1 : gS + 1 ≤ wr.drew.heap.size := hsg1
          generalize wr.drew = wd at *
          have hsg : gS ≤ wd.heap.size := by omega
          have hk0 := Below.refl wd.heap.size wd
          refine wpAnyH_takeD (i := 0) (d := some 41) (v := ?v100) rfl rfl (by kernel_rfl) (by kernel_rfl) (by kernel_rfl) (fun _ _ _ h => h) (Or.inl ⟨by rfl, ?hy100⟩) hHeld ?rest100
          case hy100 =>
            intro wS hS
            go_simp
            all_goals with_reducible rfl
          (try simp only [Act.put, List.setIfInBounds_toArray, List.set_cons_zero, List.set_cons_succ])
          refine wpAnyH_takeD (i := 3) (d := some 44) (v := ?v101) rfl rfl (by kernel_rfl) (by kernel_rfl) (by kernel_rfl) (fun _ _ _ h => h) (Or.inl ⟨by rfl, ?hy101⟩) hHeld ?rest101
          case hy101 =>
            intro wS hS
            go_simp
            all_goals with_reducible rfl
          (try simp only [Act.put, List.setIfInBounds_toArray, List.set_cons_zero, List.set_cons_succ])
          refine wpAnyH_takeD (i := 5) (d := some 46) (v := ?v102) rfl rfl (by kernel_rfl) (by kernel_rfl) (by kernel_rfl) (fun _ _ _ h => h) (Or.inl ⟨by rfl, ?hy102⟩) hHeld ?rest102
          case hy102 =>
            intro wS hS
            go_simp
            all_goals with_reducible rfl
          (try simp only [Act.put, List.setIfInBounds_toArray, List.set_cons_zero, List.set_cons_succ])
          refine wpAnyH_takeD (i := 8) (d := some 49) (v := ?v103) rfl rfl (by kernel_rfl) (by kernel_rfl) (by kernel_rfl) (fun _ _ _ h => h) (Or.inl ⟨by rfl, ?hy103⟩) hHeld ?rest103
          case hy103 =>
            intro wS hS
            go_simp
            all_goals with_reducible rfl
          (try simp only [Act.put, List.setIfInBounds_toArray, List.set_cons_zero, List.set_cons_succ])
          refine wpAnyH_takeD (i := 9) (d := some 50) (v := ?v104) rfl rfl (by kernel_rfl) (by kernel_rfl) (by kernel_rfl) (fun _ _ _ h => h) (Or.inl ⟨by rfl, ?hy104⟩) hHeld ?rest104
          case hy104 =>
            intro wS hS
            go_simp
            all_goals with_reducible rfl
          (try simp only [Act.put, List.setIfInBounds_toArray, List.set_cons_zero, List.set_cons_succ])
          refine wpAnyH_takeD (i := 4) (d := some 45) (v := ?v105) rfl rfl (by kernel_rfl) (by kernel_rfl) (by kernel_rfl) (fun _ _ _ h => h) (Or.inl ⟨by rfl, ?hy105⟩) hHeld ?rest105
          case hy105 =>
            intro wS hS
            obtain ⟨e1, e2⟩ := hS
            go_simp
            all_goals with_reducible rfl
          (try simp only [Act.put, List.setIfInBounds_toArray, List.set_cons_zero, List.set_cons_succ])
          refine wpAnyH_takeD (i := 6) (d := some 47) (v := ?v106) rfl rfl (by kernel_rfl) (by kernel_rfl) (by kernel_rfl) (fun _ _ _ h => h) (Or.inl ⟨by rfl, ?hy106⟩) hHeld ?rest106
          case hy106 =>
            intro wS hS
            go_simp
            all_goals with_reducible rfl
          (try simp only [Act.put, List.setIfInBounds_toArray, List.set_cons_zero, List.set_cons_succ])
          refine wpAnyH_takeD (i := 7) (d := some 48) (v := ?v107) rfl rfl (by kernel_rfl) (by kernel_rfl) (by kernel_rfl) (fun _ _ _ h => h) (Or.inl ⟨by rfl, ?hy107⟩) hHeld ?rest107
          case hy107 =>
            intro wS hS
            obtain ⟨e1, e2⟩ := hS
            go_simp
            all_goals with_reducible rfl
          (try simp only [Act.put, List.setIfInBounds_toArray, List.set_cons_zero, List.set_cons_succ])
          refine wpAnyH_takeD (i := 10) (d := some 51) (v := .slice yA pl.length yc) rfl rfl (by kernel_rfl) (by kernel_rfl) (by kernel_rfl) (fun _ _ _ h => h) (Or.inl ⟨by rfl, ?hy108⟩) hHeld ?rest108
          case hy108 =>
            intro wS hS
            exact run_sliceop _ _ _ _ rfl _ _ _ _ rfl rfl rfl (hsl.out wS)
          (try simp only [Act.put, List.setIfInBounds_toArray, List.set_cons_zero, List.set_cons_succ])
          refine wpAnyH_ready (rs := [1, 2]) (by kernel_rfl) (by simp) (AllReadyH.cons rfl (fun K hK => ?_) (AllReadyH.cons rfl (fun K hK => ?_) AllReadyH.nil))
          · rw [if_pos (by rfl)]
            have k2 : wd.cell? ⟨gS, 3, none⟩ = some (.slice As k cs) := by rw [cell_of_row _ _ _ _ _ _ ((hk0.block _ (by omega)).trans rS)]; rfl
            go_simp
            refine hK.out _ _ (HSF.out _ (hbw.trans (hk0.mono hsg))).1 (fun hHeld => ?_)
            clear hK K
            (try simp only [Act.put, List.setIfInBounds_toArray, List.set_cons_zero, List.set_cons_succ])
            clear k2
            refine wpAnyH_ready (rs := [2]) (by kernel_rfl) (by simp) (AllReadyH.cons rfl (fun K hK => ?_) AllReadyH.nil)
            rw [if_pos (by rfl)]
            have hk1 : Below wd.heap.size wd ((wd).alloc (.cells #[] 3)) := (hk0).alloc (hk0).size _
            have hoN : ((wd).alloc (.cells #[] 3)).ownsRow wd.heap.size 3 1 (.slice (some ⟨wd.heap.size, 0, none⟩) 0 0) 0 [] := ⟨rfl, .inr ⟨wd.heap.size, 0, #[], rfl, Nat.le_refl _, heap_alloc_new _ _, Nat.le_refl _, by unfold maxLen; omega, rfl, rfl⟩⟩
            go_simp
            generalize (wd).alloc (.cells #[] 3) = w7 at *
            refine hK.out _ _ (HSF.out _ (hbw.trans (hk1.mono hsg))).1 (fun hHeld => ?_)
            clear hK K
            (try simp only [Act.put, List.setIfInBounds_toArray, List.set_cons_zero, List.set_cons_succ])
            refine wpAnyH_ready (rs := [11]) (by kernel_rfl) (by simp) (AllReadyH.cons rfl (fun K hK => ?_) AllReadyH.nil)
            rw [if_pos (by rfl)]
            have hsx := (HSF.out _ (hbw.trans (hk1.mono hsg))).2
            refine wp_app (.tmp 43) (.tmp 51) _ rfl elI rfl hoN yA pl.length yc rfl (pl.map intV) hsx (by simp) (ints_one pl) pl.length (by omega) (pl.map intV) (by simp) (by unfold maxLen; omega) (by omega) hk1.size ?_
            clear hsx
            intro Aw8 cw8 w8 hoNw8 hgrN hatN hbN
            have hk2 := hk1.trans hbN
            replace hoN := hoNw8
            clear hoNw8 hgrN hatN hbN
            refine hK.out _ _ (HSF.out _ (hbw.trans (hk2.mono hsg))).1 (fun hHeld => ?_)
            clear hK K
            (try simp only [Act.put, List.setIfInBounds_toArray])
            refine wpAnyH_ready (rs := [12]) (by kernel_rfl) (by simp) (AllReadyH.cons rfl (fun K hK => ?_) AllReadyH.nil)
            rw [if_pos (by rfl)]
            have hbB : Below w8.heap.size w8 (w8.alloc (.cells #[.slice Aw8 pl.length cw8] 34)) := (Below.refl _ _).alloc (Nat.le_refl _) _
            have hseen : Sees (w8.alloc (.cells #[.slice Aw8 pl.length cw8] 34)) (some ⟨w8.heap.size, 0, none⟩) [.slice Aw8 pl.length cw8] := Sees.of_alloc _ _ _ rfl
            replace hoN := own_keep' hoN hbB
            have hk3 := hk2.trans (hbB.mono hk2.size)
            clear hbB
            go_simp
            obtain ⟨GB, hGB⟩ : ∃ GB, GB = w8.heap.size := ⟨_, rfl⟩
            rw [← hGB] at hseen ⊢
            clear hGB
            generalize w8.alloc (.cells #[.slice Aw8 pl.length cw8] 34) = wb at *
            refine hK.out _ _ (HSF.out _ (hbw.trans (hk3.mono hsg))).1 (fun hHeld => ?_)
            clear hK K
            (try simp only [Act.put, List.setIfInBounds_toArray, List.set_cons_zero, List.set_cons_succ])
            refine wpAnyH_ready (rs := [13]) (by kernel_rfl) (by simp) (AllReadyH.cons rfl (fun K hK => ?_) AllReadyH.nil)
            rw [if_pos (by rfl)]
            replace rS := (hk3.block _ (by omega)).trans rS
            replace ho := own_keep' ho hk3
            replace hO := hO.keep hk3
            replace hbw := hbw.trans (hk3.mono hsg)
            replace hoN := Joins.ownsRow_le hoN hsg1
            replace hsg1 := Nat.le_trans hsg1 hk3.size
            refine wp_app (.tmp 42) (.tmp 53) _ rfl elL rfl ho (some ⟨GB, 0, none⟩) 1 1 rfl [.slice Aw8 pl.length cw8] hseen (by simp) (by intro u hu; simp at hu; subst hu; rfl) (k + 1) rfl ((Lo ++ [{ A := Aw8, c := cw8, l := pl : Chan }]).map Chan.v) (by simp [Chan.v]) (by unfold maxLen; omega) (by omega) hsg1 ?_
            intro Ax cx wx hownx hgrx hatx hbx
            replace rS := (hbx.block _ (by omega)).trans rS
            replace hO := hO.grown ho hgrx
            replace hoN := OwnL.one ho hgrx hoN
            replace hbw := hbw.trans (hbx.mono (by omega))
            replace hsg1 := Nat.le_trans hsg1 hgrx.size
            clear hgrx hatx ho hbx hseen hk3
            refine hK.out _ _ (HSF.out _ hbw).1 (fun hHeld => ?_)
            clear hK K
            (try simp only [Act.put, List.setIfInBounds_toArray])
            refine wpAnyH_takeD (i := 14) (d := some 55) (v := ?v109) rfl rfl (by kernel_rfl) (by kernel_rfl) (by kernel_rfl) (fun _ _ _ h => h) (Or.inl ⟨by rfl, ?hy109⟩) hHeld ?rest109
            case hy109 =>
              intro wS hS
              go_simp
              all_goals with_reducible rfl
            (try simp only [Act.put])
            refine wpAnyH_ready (rs := [15]) (by kernel_rfl) (by simp) (AllReadyH.cons rfl (fun K hK => ?_) AllReadyH.nil)
            rw [if_pos (by rfl)]
            have k2 : wx.cell? ⟨gS, 3, none⟩ = some (.slice As k cs) := by rw [cell_of_row _ _ _ _ _ _ rS]; rfl
            have f2 : wx.frozen? ⟨gS, 3, none⟩ = false := frozen_of_row _ _ _ _ _ rS
            have rSy : (wx.setCell ⟨gS, 3, none⟩ (.slice Ax (k + 1) cx)).heap[gS]? = some (.cells #[.int .i64 ch, .int .i64 bi, .int .i64 ra, .slice Ax (k + 1) cx] 26 (0, 0)) := heap_setCell_same _ gS 3 _ _ (.slice Ax (k + 1) cx) rS
            have hby := hbw.setCell (p := ⟨gS, 3, none⟩) (Nat.le_refl gS) (.slice Ax (k + 1) cx)
            have hoy := ownsRow_setCell_below hownx (a := ⟨gS, 3, none⟩) (Nat.lt_succ_self gS) (.slice Ax (k + 1) cx)
            have hOy := hO.set (a := ⟨gS, 3, none⟩) (Nat.lt_succ_self gS) (.slice Ax (k + 1) cx)
            have hNy := ownsRow_setCell_below hoN (a := ⟨gS, 3, none⟩) (Nat.lt_succ_self gS) (.slice Ax (k + 1) cx)
            have hsy : gS + 1 ≤ (wx.setCell ⟨gS, 3, none⟩ (.slice Ax (k + 1) cx)).heap.size := Nat.le_trans hsg1 (by simp [World.setCell])
            have hSn := (HSF.out _ hby).1
            clear rS hbw hownx hO hoN hsg1
            go_simp
            refine hK.out _ _ hSn (fun hHeld => ?_)
            clear hK K
            (try simp only [Act.put, List.setIfInBounds_toArray, List.set_cons_zero, List.set_cons_succ])
            clear hSn
            refine wpAnyH_done (by kernel_rfl) ?_ _
            generalize wx.setCell ⟨gS, 3, none⟩ (.slice Ax (k + 1) cx) = wy at *
            clear k2 f2
            go_wp2_with fail
            go_roundw
            case rel => exact ⟨k + 1, Lo ++ [{ A := Aw8, c := cw8, l := pl : Chan }], Ax, cx, by omega, by go_num, rSy, hoy, hOy.snoc (x := { A := Aw8, c := cw8, l := pl : Chan }) hNy, hid (by rw [ints_snoc, hI.out, List.range_succ, List.map_append]; exact congrArg _ (congrArg (fun z => [z]) (HCAT.out.symm.trans hout.out))), hby, hsy⟩
            case measure => simp [intOf]; omega
          · rw [if_pos (by rfl)]
            have hk1 : Below wd.heap.size wd ((wd).alloc (.cells #[] 3)) := (hk0).alloc (hk0).size _
            have hoN : ((wd).alloc (.cells #[] 3)).ownsRow wd.heap.size 3 1 (.slice (some ⟨wd.heap.size, 0, none⟩) 0 0) 0 [] := ⟨rfl, .inr ⟨wd.heap.size, 0, #[], rfl, Nat.le_refl _, heap_alloc_new _ _, Nat.le_refl _, by unfold maxLen; omega, rfl, rfl⟩⟩
            go_simp
            generalize (wd).alloc (.cells #[] 3) = w7 at *
            refine hK.out _ _ (HSF.out _ (hbw.trans (hk1.mono hsg))).1 (fun hHeld => ?_)
            clear hK K
            (try simp only [Act.put, List.setIfInBounds_toArray, List.set_cons_zero, List.set_cons_succ])
            refine wpAnyH_ready (rs := [1, 11]) (by kernel_rfl) (by simp) (AllReadyH.cons rfl (fun K hK => ?_) (AllReadyH.cons rfl (fun K hK => ?_) AllReadyH.nil))
            · rw [if_pos (by rfl)]
              have k2 : w7.cell? ⟨gS, 3, none⟩ = some (.slice As k cs) := by rw [cell_of_row _ _ _ _ _ _ ((hk1.block _ (by omega)).trans rS)]; rfl
              go_simp
              refine hK.out _ _ (HSF.out _ (hbw.trans (hk1.mono hsg))).1 (fun hHeld => ?_)
              clear hK K
              (try simp only [Act.put, List.setIfInBounds_toArray, List.set_cons_zero, List.set_cons_succ])
              clear k2
              refine wpAnyH_ready (rs := [11]) (by kernel_rfl) (by simp) (AllReadyH.cons rfl (fun K hK => ?_) AllReadyH.nil)
              rw [if_pos (by rfl)]
              have hsx := (HSF.out _ (hbw.trans (hk1.mono hsg))).2
              refine wp_app (.tmp 43) (.tmp 51) _ rfl elI rfl hoN yA pl.length yc rfl (pl.map intV) hsx (by simp) (ints_one pl) pl.length (by omega) (pl.map intV) (by simp) (by unfold maxLen; omega) (by omega) hk1.size ?_
              clear hsx
              intro Aw8 cw8 w8 hoNw8 hgrN hatN hbN
              have hk2 := hk1.trans hbN
              replace hoN := hoNw8
              clear hoNw8 hgrN hatN hbN
              refine hK.out _ _ (HSF.out _ (hbw.trans (hk2.mono hsg))).1 (fun hHeld => ?_)
              clear hK K
              (try simp only [Act.put, List.setIfInBounds_toArray])
              refine wpAnyH_ready (rs := [12]) (by kernel_rfl) (by simp) (AllReadyH.cons rfl (fun K hK => ?_) AllReadyH.nil)
              rw [if_pos (by rfl)]
              have hbB : Below w8.heap.size w8 (w8.alloc (.cells #[.slice Aw8 pl.length cw8] 34)) := (Below.refl _ _).alloc (Nat.le_refl _) _
              have hseen : Sees (w8.alloc (.cells #[.slice Aw8 pl.length cw8] 34)) (some ⟨w8.heap.size, 0, none⟩) [.slice Aw8 pl.length cw8] := Sees.of_alloc _ _ _ rfl
              replace hoN := own_keep' hoN hbB
              have hk3 := hk2.trans (hbB.mono hk2.size)
              clear hbB
              go_simp
              obtain ⟨GB, hGB⟩ : ∃ GB, GB = w8.heap.size := ⟨_, rfl⟩
              rw [← hGB] at hseen ⊢
              clear hGB
              generalize w8.alloc (.cells #[.slice Aw8 pl.length cw8] 34) = wb at *
              refine hK.out _ _ (HSF.out _ (hbw.trans (hk3.mono hsg))).1 (fun hHeld => ?_)
              clear hK K
              (try simp only [Act.put, List.setIfInBounds_toArray, List.set_cons_zero, List.set_cons_succ])
              refine wpAnyH_ready (rs := [13]) (by kernel_rfl) (by simp) (AllReadyH.cons rfl (fun K hK => ?_) AllReadyH.nil)
              rw [if_pos (by rfl)]
              replace rS := (hk3.block _ (by omega)).trans rS
              replace ho := own_keep' ho hk3
              replace hO := hO.keep hk3
              replace hbw := hbw.trans (hk3.mono hsg)
              replace hoN := Joins.ownsRow_le hoN hsg1
              replace hsg1 := Nat.le_trans hsg1 hk3.size
              refine wp_app (.tmp 42) (.tmp 53) _ rfl elL rfl ho (some ⟨GB, 0, none⟩) 1 1 rfl [.slice Aw8 pl.length cw8] hseen (by simp) (by intro u hu; simp at hu; subst hu; rfl) (k + 1) rfl ((Lo ++ [{ A := Aw8, c := cw8, l := pl : Chan }]).map Chan.v) (by simp [Chan.v]) (by unfold maxLen; omega) (by omega) hsg1 ?_
              intro Ax cx wx hownx hgrx hatx hbx
              replace rS := (hbx.block _ (by omega)).trans rS
              replace hO := hO.grown ho hgrx
              replace hoN := OwnL.one ho hgrx hoN
              replace hbw := hbw.trans (hbx.mono (by omega))
              replace hsg1 := Nat.le_trans hsg1 hgrx.size
              clear hgrx hatx ho hbx hseen hk3
              refine hK.out _ _ (HSF.out _ hbw).1 (fun hHeld => ?_)
              clear hK K
              (try simp only [Act.put, List.setIfInBounds_toArray])
              refine wpAnyH_takeD (i := 14) (d := some 55) (v := ?v110) rfl rfl (by kernel_rfl) (by kernel_rfl) (by kernel_rfl) (fun _ _ _ h => h) (Or.inl ⟨by rfl, ?hy110⟩) hHeld ?rest110
              case hy110 =>
                intro wS hS
                go_simp
                all_goals with_reducible rfl
              (try simp only [Act.put])
              refine wpAnyH_ready (rs := [15]) (by kernel_rfl) (by simp) (AllReadyH.cons rfl (fun K hK => ?_) AllReadyH.nil)
              rw [if_pos (by rfl)]
              have k2 : wx.cell? ⟨gS, 3, none⟩ = some (.slice As k cs) := by rw [cell_of_row _ _ _ _ _ _ rS]; rfl
              have f2 : wx.frozen? ⟨gS, 3, none⟩ = false := frozen_of_row _ _ _ _ _ rS
              have rSy : (wx.setCell ⟨gS, 3, none⟩ (.slice Ax (k + 1) cx)).heap[gS]? = some (.cells #[.int .i64 ch, .int .i64 bi, .int .i64 ra, .slice Ax (k + 1) cx] 26 (0, 0)) := heap_setCell_same _ gS 3 _ _ (.slice Ax (k + 1) cx) rS
              have hby := hbw.setCell (p := ⟨gS, 3, none⟩) (Nat.le_refl gS) (.slice Ax (k + 1) cx)
              have hoy := ownsRow_setCell_below hownx (a := ⟨gS, 3, none⟩) (Nat.lt_succ_self gS) (.slice Ax (k + 1) cx)
              have hOy := hO.set (a := ⟨gS, 3, none⟩) (Nat.lt_succ_self gS) (.slice Ax (k + 1) cx)
              have hNy := ownsRow_setCell_below hoN (a := ⟨gS, 3, none⟩) (Nat.lt_succ_self gS) (.slice Ax (k + 1) cx)
              have hsy : gS + 1 ≤ (wx.setCell ⟨gS, 3, none⟩ (.slice Ax (k + 1) cx)).heap.size := Nat.le_trans hsg1 (by simp [World.setCell])
              have hSn := (HSF.out _ hby).1
              clear rS hbw hownx hO hoN hsg1
              go_simp
              refine hK.out _ _ hSn (fun hHeld => ?_)
              clear hK K
              (try simp only [Act.put, List.setIfInBounds_toArray, List.set_cons_zero, List.set_cons_succ])
              clear hSn
              refine wpAnyH_done (by kernel_rfl) ?_ _
              generalize wx.setCell ⟨gS, 3, none⟩ (.slice Ax (k + 1) cx) = wy at *
              clear k2 f2
              go_wp2_with fail
              go_roundw
              case rel => exact ⟨k + 1, Lo ++ [{ A := Aw8, c := cw8, l := pl : Chan }], Ax, cx, by omega, by go_num, rSy, hoy, hOy.snoc (x := { A := Aw8, c := cw8, l := pl : Chan }) hNy, hid (by rw [ints_snoc, hI.out, List.range_succ, List.map_append]; exact congrArg _ (congrArg (fun z => [z]) (HCAT.out.symm.trans hout.out))), hby, hsy⟩
              case measure => simp [intOf]; omega
            · rw [if_pos (by rfl)]
              have hsx := (HSF.out _ (hbw.trans (hk1.mono hsg))).2
              refine wp_app (.tmp 43) (.tmp 51) _ rfl elI rfl hoN yA pl.length yc rfl (pl.map intV) hsx (by simp) (ints_one pl) pl.length (by omega) (pl.map intV) (by simp) (by unfold maxLen; omega) (by omega) hk1.size ?_
              clear hsx
              intro Aw8 cw8 w8 hoNw8 hgrN hatN hbN
              have hk2 := hk1.trans hbN
              replace hoN := hoNw8
              clear hoNw8 hgrN hatN hbN
              refine hK.out _ _ (HSF.out _ (hbw.trans (hk2.mono hsg))).1 (fun hHeld => ?_)
              clear hK K
              (try simp only [Act.put, List.setIfInBounds_toArray])
              refine wpAnyH_ready (rs := [1, 12]) (by kernel_rfl) (by simp) (AllReadyH.cons rfl (fun K hK => ?_) (AllReadyH.cons rfl (fun K hK => ?_) AllReadyH.nil))
              · rw [if_pos (by rfl)]
                have k2 : w8.cell? ⟨gS, 3, none⟩ = some (.slice As k cs) := by rw [cell_of_row _ _ _ _ _ _ ((hk2.block _ (by omega)).trans rS)]; rfl
                go_simp
                refine hK.out _ _ (HSF.out _ (hbw.trans (hk2.mono hsg))).1 (fun hHeld => ?_)
                clear hK K
                (try simp only [Act.put, List.setIfInBounds_toArray, List.set_cons_zero, List.set_cons_succ])
                clear k2
                refine wpAnyH_ready (rs := [12]) (by kernel_rfl) (by simp) (AllReadyH.cons rfl (fun K hK => ?_) AllReadyH.nil)
                rw [if_pos (by rfl)]
                have hbB : Below w8.heap.size w8 (w8.alloc (.cells #[.slice Aw8 pl.length cw8] 34)) := (Below.refl _ _).alloc (Nat.le_refl _) _
                have hseen : Sees (w8.alloc (.cells #[.slice Aw8 pl.length cw8] 34)) (some ⟨w8.heap.size, 0, none⟩) [.slice Aw8 pl.length cw8] := Sees.of_alloc _ _ _ rfl
                replace hoN := own_keep' hoN hbB
                have hk3 := hk2.trans (hbB.mono hk2.size)
                clear hbB
                go_simp
                obtain ⟨GB, hGB⟩ : ∃ GB, GB = w8.heap.size := ⟨_, rfl⟩
                rw [← hGB] at hseen ⊢
                clear hGB
                generalize w8.alloc (.cells #[.slice Aw8 pl.length cw8] 34) = wb at *
                refine hK.out _ _ (HSF.out _ (hbw.trans (hk3.mono hsg))).1 (fun hHeld => ?_)
                clear hK K
                (try simp only [Act.put, List.setIfInBounds_toArray, List.set_cons_zero, List.set_cons_succ])
                refine wpAnyH_ready (rs := [13]) (by kernel_rfl) (by simp) (AllReadyH.cons rfl (fun K hK => ?_) AllReadyH.nil)
                rw [if_pos (by rfl)]
                replace rS := (hk3.block _ (by omega)).trans rS
                replace ho := own_keep' ho hk3
                replace hO := hO.keep hk3
                replace hbw := hbw.trans (hk3.mono hsg)
                replace hoN := Joins.ownsRow_le hoN hsg1
                replace hsg1 := Nat.le_trans hsg1 hk3.size
                refine wp_app (.tmp 42) (.tmp 53) _ rfl elL rfl ho (some ⟨GB, 0, none⟩) 1 1 rfl [.slice Aw8 pl.length cw8] hseen (by simp) (by intro u hu; simp at hu; subst hu; rfl) (k + 1) rfl ((Lo ++ [{ A := Aw8, c := cw8, l := pl : Chan }]).map Chan.v) (by simp [Chan.v]) (by unfold maxLen; omega) (by omega) hsg1 ?_
                intro Ax cx wx hownx hgrx hatx hbx
                replace rS := (hbx.block _ (by omega)).trans rS
                replace hO := hO.grown ho hgrx
                replace hoN := OwnL.one ho hgrx hoN
                replace hbw := hbw.trans (hbx.mono (by omega))
                replace hsg1 := Nat.le_trans hsg1 hgrx.size
                clear hgrx hatx ho hbx hseen hk3
                refine hK.out _ _ (HSF.out _ hbw).1 (fun hHeld => ?_)
                clear hK K
                (try simp only [Act.put, List.setIfInBounds_toArray])
                refine wpAnyH_takeD (i := 14) (d := some 55) (v := ?v111) rfl rfl (by kernel_rfl) (by kernel_rfl) (by kernel_rfl) (fun _ _ _ h => h) (Or.inl ⟨by rfl, ?hy111⟩) hHeld ?rest111
                case hy111 =>
                  intro wS hS
                  go_simp
                  all_goals with_reducible rfl
                (try simp only [Act.put])
                refine wpAnyH_ready (rs := [15]) (by kernel_rfl) (by simp) (AllReadyH.cons rfl (fun K hK => ?_) AllReadyH.nil)
                rw [if_pos (by rfl)]
                have k2 : wx.cell? ⟨gS, 3, none⟩ = some (.slice As k cs) := by rw [cell_of_row _ _ _ _ _ _ rS]; rfl
                have f2 : wx.frozen? ⟨gS, 3, none⟩ = false := frozen_of_row _ _ _ _ _ rS
                have rSy : (wx.setCell ⟨gS, 3, none⟩ (.slice Ax (k + 1) cx)).heap[gS]? = some (.cells #[.int .i64 ch, .int .i64 bi, .int .i64 ra, .slice Ax (k + 1) cx] 26 (0, 0)) := heap_setCell_same _ gS 3 _ _ (.slice Ax (k + 1) cx) rS
                have hby := hbw.setCell (p := ⟨gS, 3, none⟩) (Nat.le_refl gS) (.slice Ax (k + 1) cx)
                have hoy := ownsRow_setCell_below hownx (a := ⟨gS, 3, none⟩) (Nat.lt_succ_self gS) (.slice Ax (k + 1) cx)
                have hOy := hO.set (a := ⟨gS, 3, none⟩) (Nat.lt_succ_self gS) (.slice Ax (k + 1) cx)
                have hNy := ownsRow_setCell_below hoN (a := ⟨gS, 3, none⟩) (Nat.lt_succ_self gS) (.slice Ax (k + 1) cx)
                have hsy : gS + 1 ≤ (wx.setCell ⟨gS, 3, none⟩ (.slice Ax (k + 1) cx)).heap.size := Nat.le_trans hsg1 (by simp [World.setCell])
                have hSn := (HSF.out _ hby).1
                clear rS hbw hownx hO hoN hsg1
                go_simp
                refine hK.out _ _ hSn (fun hHeld => ?_)
                clear hK K
                (try simp only [Act.put, List.setIfInBounds_toArray, List.set_cons_zero, List.set_cons_succ])
                clear hSn
                refine wpAnyH_done (by kernel_rfl) ?_ _
                generalize wx.setCell ⟨gS, 3, none⟩ (.slice Ax (k + 1) cx) = wy at *
                clear k2 f2
                go_wp2_with fail
                go_roundw
                case rel => exact ⟨k + 1, Lo ++ [{ A := Aw8, c := cw8, l := pl : Chan }], Ax, cx, by omega, by go_num, rSy, hoy, hOy.snoc (x := { A := Aw8, c := cw8, l := pl : Chan }) hNy, hid (by rw [ints_snoc, hI.out, List.range_succ, List.map_append]; exact congrArg _ (congrArg (fun z => [z]) (HCAT.out.symm.trans hout.out))), hby, hsy⟩
                case measure => simp [intOf]; omega
              · rw [if_pos (by rfl)]
                have hbB : Below w8.heap.size w8 (w8.alloc (.cells #[.slice Aw8 pl.length cw8] 34)) := (Below.refl _ _).alloc (Nat.le_refl _) _
                have hseen : Sees (w8.alloc (.cells #[.slice Aw8 pl.length cw8] 34)) (some ⟨w8.heap.size, 0, none⟩) [.slice Aw8 pl.length cw8] := Sees.of_alloc _ _ _ rfl
                replace hoN := own_keep' hoN hbB
                have hk3 := hk2.trans (hbB.mono hk2.size)
                clear hbB
                go_simp
                obtain ⟨GB, hGB⟩ : ∃ GB, GB = w8.heap.size := ⟨_, rfl⟩
                rw [← hGB] at hseen ⊢
                clear hGB
                generalize w8.alloc (.cells #[.slice Aw8 pl.length cw8] 34) = wb at *
                refine hK.out _ _ (HSF.out _ (hbw.trans (hk3.mono hsg))).1 (fun hHeld => ?_)
                clear hK K
                (try simp only [Act.put, List.setIfInBounds_toArray, List.set_cons_zero, List.set_cons_succ])
                refine wpAnyH_ready (rs := [1]) (by kernel_rfl) (by simp) (AllReadyH.cons rfl (fun K hK => ?_) AllReadyH.nil)
                rw [if_pos (by rfl)]
                have k2 : wb.cell? ⟨gS, 3, none⟩ = some (.slice As k cs) := by rw [cell_of_row _ _ _ _ _ _ ((hk3.block _ (by omega)).trans rS)]; rfl
                go_simp
                refine hK.out _ _ (HSF.out _ (hbw.trans (hk3.mono hsg))).1 (fun hHeld => ?_)
                clear hK K
                (try simp only [Act.put, List.setIfInBounds_toArray, List.set_cons_zero, List.set_cons_succ])
                clear k2
                refine wpAnyH_ready (rs := [13]) (by kernel_rfl) (by simp) (AllReadyH.cons rfl (fun K hK => ?_) AllReadyH.nil)
                rw [if_pos (by rfl)]
                replace rS := (hk3.block _ (by omega)).trans rS
                replace ho := own_keep' ho hk3
                replace hO := hO.keep hk3
                replace hbw := hbw.trans (hk3.mono hsg)
                replace hoN := Joins.ownsRow_le hoN hsg1
                replace hsg1 := Nat.le_trans hsg1 hk3.size
                refine wp_app (.tmp 42) (.tmp 53) _ rfl elL rfl ho (some ⟨GB, 0, none⟩) 1 1 rfl [.slice Aw8 pl.length cw8] hseen (by simp) (by intro u hu; simp at hu; subst hu; rfl) (k + 1) rfl ((Lo ++ [{ A := Aw8, c := cw8, l := pl : Chan }]).map Chan.v) (by simp [Chan.v]) (by unfold maxLen; omega) (by omega) hsg1 ?_
                intro Ax cx wx hownx hgrx hatx hbx
                replace rS := (hbx.block _ (by omega)).trans rS
                replace hO := hO.grown ho hgrx
                replace hoN := OwnL.one ho hgrx hoN
                replace hbw := hbw.trans (hbx.mono (by omega))
                replace hsg1 := Nat.le_trans hsg1 hgrx.size
                clear hgrx hatx ho hbx hseen hk3
                refine hK.out _ _ (HSF.out _ hbw).1 (fun hHeld => ?_)
                clear hK K
                (try simp only [Act.put, List.setIfInBounds_toArray])
                refine wpAnyH_takeD (i := 14) (d := some 55) (v := ?v112) rfl rfl (by kernel_rfl) (by kernel_rfl) (by kernel_rfl) (fun _ _ _ h => h) (Or.inl ⟨by rfl, ?hy112⟩) hHeld ?rest112
                case hy112 =>
                  intro wS hS
                  go_simp
                  all_goals with_reducible rfl
                (try simp only [Act.put])
                refine wpAnyH_ready (rs := [15]) (by kernel_rfl) (by simp) (AllReadyH.cons rfl (fun K hK => ?_) AllReadyH.nil)
                rw [if_pos (by rfl)]
                have k2 : wx.cell? ⟨gS, 3, none⟩ = some (.slice As k cs) := by rw [cell_of_row _ _ _ _ _ _ rS]; rfl
                have f2 : wx.frozen? ⟨gS, 3, none⟩ = false := frozen_of_row _ _ _ _ _ rS
                have rSy : (wx.setCell ⟨gS, 3, none⟩ (.slice Ax (k + 1) cx)).heap[gS]? = some (.cells #[.int .i64 ch, .int .i64 bi, .int .i64 ra, .slice Ax (k + 1) cx] 26 (0, 0)) := heap_setCell_same _ gS 3 _ _ (.slice Ax (k + 1) cx) rS
                have hby := hbw.setCell (p := ⟨gS, 3, none⟩) (Nat.le_refl gS) (.slice Ax (k + 1) cx)
                have hoy := ownsRow_setCell_below hownx (a := ⟨gS, 3, none⟩) (Nat.lt_succ_self gS) (.slice Ax (k + 1) cx)
                have hOy := hO.set (a := ⟨gS, 3, none⟩) (Nat.lt_succ_self gS) (.slice Ax (k + 1) cx)
                have hNy := ownsRow_setCell_below hoN (a := ⟨gS, 3, none⟩) (Nat.lt_succ_self gS) (.slice Ax (k + 1) cx)
                have hsy : gS + 1 ≤ (wx.setCell ⟨gS, 3, none⟩ (.slice Ax (k + 1) cx)).heap.size := Nat.le_trans hsg1 (by simp [World.setCell])
                have hSn := (HSF.out _ hby).1
                clear rS hbw hownx hO hoN hsg1
                go_simp
                refine hK.out _ _ hSn (fun hHeld => ?_)
                clear hK K
                (try simp only [Act.put, List.setIfInBounds_toArray, List.set_cons_zero, List.set_cons_succ])
                clear hSn
                refine wpAnyH_done (by kernel_rfl) ?_ _
                generalize wx.setCell ⟨gS, 3, none⟩ (.slice Ax (k + 1) cx) = wy at *
                clear k2 f2
                go_wp2_with fail
                go_roundw
                case rel => exact ⟨k + 1, Lo ++ [{ A := Aw8, c := cw8, l := pl : Chan }], Ax, cx, by omega, by go_num, rSy, hoy, hOy.snoc (x := { A := Aw8, c := cw8, l := pl : Chan }) hNy, hid (by rw [ints_snoc, hI.out, List.range_succ, List.map_append]; exact congrArg _ (congrArg (fun z => [z]) (HCAT.out.symm.trans hout.out))), hby, hsy⟩
                case measure => simp [intOf]; omega
      · obtain rfl : k = L.length := by omega
        have dk : decide ((L.length : Int) < (L.length : Int)) = false := decide_eq_false (by omega)
        have rZ := HR2.out _ hbw
        have hbb := HBB.out _ hbw
        have q0 : wr.cell? ⟨gS, 0, none⟩ = some (.int .i64 ch) := by rw [cell_of_row _ _ _ _ _ _ rS]; rfl
        have q1 : wr.cell? ⟨gS, 1, none⟩ = some (.int .i64 bi) := by rw [cell_of_row _ _ _ _ _ _ rS]; rfl
        have q2 : wr.cell? ⟨gS, 2, none⟩ = some (.int .i64 ra) := by rw [cell_of_row _ _ _ _ _ _ rS]; rfl
        have q3 : wr.cell? ⟨gS, 3, none⟩ = some (.slice As L.length cs) := by rw [cell_of_row _ _ _ _ _ _ rS]; rfl
        have hlen := hid (show Lo.length = L.length by have := congrArg List.length hI.out; simpa [ints] using this)
        have hfin : SeesL (wr.setRow (w.heap.size + 1) #[.int .i64 ch, .int .i64 bi, .int .i64 ra, .slice As L.length cs]) As Lo := ⟨own_sees (own_setRow ho (by omega) _), fun x hx => ⟨own_sees (own_setRow (hO x hx) (by omega) _), own_len (hO x hx)⟩⟩
        clear rS ho hO hbw
        go_wp2_with first | (refine wpList_store_row rfl 26 (.tmp 6) (.tmp 56) rfl rfl (w.heap.size + 1) rfl #[.int .i64 ch, .int .i64 bi, .int .i64 ra, .slice As L.length cs] rfl 26 #[.int .i64 0, .int .i64 0, .int .i64 0, .slice none 0 0] rZ (by kernel_rfl) rfl (by simp [Value.oneCell']) ?_)
        exact bodyPost_ret (v := .tuple #[.agg #[.int .i64 ch, .int .i64 bi, .int .i64 ra, .slice As L.length cs], .int .i64 0]) (results_row_tmp (fn := Try.f30) (p := 6) (u := 7) (ty := 26) rfl _ _ (w.heap.size + 1) _ _ _ _ rfl (setRow_heap _ _ _ _ _ _ rZ) Try.underlying26 rfl (by kernel_rfl)) rfl (by
          unfold SndPost
          rw [if_pos rfl]
          exact ⟨As, cs, Lo, by rw [hlen.out], hfin, hI.out, below_setRow hbb (by omega) _⟩)
end Go.Proofs.Ytfinefhebffpcaa
