/- Sound joined, cut, and not heard: the program's. -/
import Derived.Test.YtfinefhebffpcaaPcmCat
import Derived.Test.YtfinefhebffpcaaPcmPart
import Derived.Test.YtfinefhebffpcaaPcmApart
import Derived.Test.YtfinefhebffpcaaPcmRSil
namespace Go.Proofs.Ytfinefhebffpcaa
set_option linter.unusedVariables false
open Go.RowKit
theorem enterJ (args : Array Value) (W : World) : (callFunc 44 args).run Try.prog W = .ok (.enter 44 args) W := by go_simp
theorem enterC (args : Array Value) (W : World) : (callFunc 47 args).run Try.prog W = .ok (.enter 47 args) W := by go_simp
theorem enterS (args : Array Value) (W : World) : (callFunc 46 args).run Try.prog W = .ok (.enter 46 args) W := by go_simp
/-- one channel behind another one -/
def catL (L M : List Chan) (k : Nat) : List Int := (ints L).getD k [] ++ (ints M).getD k []
theorem catL_at (L M : List Chan) (k : Nat) (h1 : k < L.length) (h2 : k < M.length) : catL L M k = L[k].l ++ M[k].l := by
  simp [catL, ints, List.getD, h1, h2]
set_option maxRecDepth 20000 in
set_option maxHeartbeats 4000000 in
theorem join1_any (g2 g3 : Nat) (A B : Option Addr) (c d : Nat) (L M : List Chan) (k : Nat) (w : World) (h2 : w.cell? ⟨g2, 3, none⟩ = some (.slice A L.length c)) (h3 : w.cell? ⟨g3, 3, none⟩ = some (.slice B M.length d)) (hl : SeesL w A L) (hm : SeesL w B M) (hk : k < L.length) (hkm : k < M.length)
    (hL : ∀ x ∈ L, x.l.length ≤ 4294967295) (hM : ∀ x ∈ M, x.l.length ≤ 4294967295) :
    Calls Try.prog 44 (#[.int .i64 (k : Int)] ++ #[.pointer (some ⟨g2, 0, none⟩), .pointer (some ⟨g3, 0, none⟩)]) w fun e w' => ∃ x : Chan, e = .returned x.v ∧ x.l = catL L M k ∧ w'.ownsRow w.heap.size 3 1 x.v x.l.length (x.l.map intV) ∧ Below w.heap.size w w' := by
  change Calls Try.prog 44 #[.int .i64 (k : Int), .pointer (some ⟨g2, 0, none⟩), .pointer (some ⟨g3, 0, none⟩)] w _
  have HCAT := hid (catL_at L M k hk hkm)
  obtain ⟨a, rfl, hx⟩ := hl.at hk
  obtain ⟨b, rfl, hy⟩ := hm.at hkm
  have hxs := (hl.2 L[k] (List.getElem_mem hk)).1
  have hys := (hm.2 M[k] (List.getElem_mem hkm)).1
  have hxn := hL L[k] (List.getElem_mem hk)
  have hyn := hM M[k] (List.getElem_mem hkm)
  generalize catL L M k = out at *
  generalize L[k] = x at *
  generalize M[k] = y at *
  obtain ⟨xA, xc, xl⟩ := x
  obtain ⟨yA, yc, yl⟩ := y
  simp only [Chan.v] at *
  have hlen : xl.length + yl.length ≤ 8796093022208 := by omega
  have ck : (k : Int) < (L.length : Int) := by omega
  have ckm : (k : Int) < (M.length : Int) := by omega
  clear hl hm hL hM hk hkm hxn hyn
  generalize L.length = n at *
  generalize M.length = m at *
  have hf : ∀ (A9 : Option Addr) (c9 : Nat) (w8 : World), w8.ownsRow w.heap.size 3 1 (.slice A9 (xl ++ yl).length c9) (xl ++ yl).length ((xl ++ yl).map intV) → Below w.heap.size w w8 → ∃ x : Chan, (Ending.returned (.slice A9 (xl.length + yl.length) c9)) = .returned (.slice x.A x.l.length x.c) ∧ x.l = out ∧ w8.ownsRow w.heap.size 3 1 (.slice x.A x.l.length x.c) x.l.length (x.l.map intV) ∧ Below w.heap.size w w8 :=
    fun A9 c9 w8 ho hb => ⟨⟨A9, c9, xl ++ yl⟩, by simp, HCAT.out.symm, ho, hb⟩
  have HF := hid hf
  clear hf HCAT
  go_enter Try.func44, Try.ntmps44
  go_wp2_with fail
  · skip
    refine wp_region_held_drew (S := fun w' => w'.cell? ⟨g2, 3, none⟩ = some (.slice (some a) n c) ∧ w'.cell? ⟨g3, 3, none⟩ = some (.slice (some b) m d) ∧ w'.cell? (a.add k) = some (.slice xA xl.length xc) ∧ w'.cell? (b.add k) = some (.slice yA yl.length yc)) (by kernel_rfl) ⟨h2, h3, hx, hy⟩ (fun hHeld => ?_)
    replace hxs : SeesI w.drew xA xl := hxs
    replace hys : SeesI w.drew yA yl := hys
    replace h2 : w.drew.cell? ⟨g2, 3, none⟩ = some (.slice (some a) n c) := h2
    replace h3 : w.drew.cell? ⟨g3, 3, none⟩ = some (.slice (some b) m d) := h3
    replace hx : w.drew.cell? (a.add k) = some (.slice xA xl.length xc) := hx
    replace hy : w.drew.cell? (b.add k) = some (.slice yA yl.length yc) := hy
    have hbW : Below w.heap.size w w.drew := (Below.refl _ w).drew
    generalize w.drew = wd at *
    refine wpAnyH_takeD (i := 0) (d := some 5) (v := ?v100) rfl rfl (by kernel_rfl) (by kernel_rfl) (by kernel_rfl) (fun _ _ _ h => h) (Or.inl ⟨by rfl, ?hy100⟩) hHeld ?rest100
    case hy100 =>
      intro wS hS
      go_simp
      all_goals with_reducible rfl
    (try simp only [Act.put, List.setIfInBounds_toArray, List.set_cons_zero, List.set_cons_succ])
    refine wpAnyH_takeD (i := 2) (d := some 7) (v := ?v101) rfl rfl (by kernel_rfl) (by kernel_rfl) (by kernel_rfl) (fun _ _ _ h => h) (Or.inl ⟨by rfl, ?hy101⟩) hHeld ?rest101
    case hy101 =>
      intro wS hS
      go_simp
      all_goals with_reducible rfl
    (try simp only [Act.put, List.setIfInBounds_toArray, List.set_cons_zero, List.set_cons_succ])
    refine wpAnyH_takeD (i := 5) (d := some 10) (v := ?v102) rfl rfl (by kernel_rfl) (by kernel_rfl) (by kernel_rfl) (fun _ _ _ h => h) (Or.inl ⟨by rfl, ?hy102⟩) hHeld ?rest102
    case hy102 =>
      intro wS hS
      go_simp
      all_goals with_reducible rfl
    (try simp only [Act.put, List.setIfInBounds_toArray, List.set_cons_zero, List.set_cons_succ])
    refine wpAnyH_takeD (i := 7) (d := some 12) (v := ?v103) rfl rfl (by kernel_rfl) (by kernel_rfl) (by kernel_rfl) (fun _ _ _ h => h) (Or.inl ⟨by rfl, ?hy103⟩) hHeld ?rest103
    case hy103 =>
      intro wS hS
      go_simp
      all_goals with_reducible rfl
    (try simp only [Act.put, List.setIfInBounds_toArray, List.set_cons_zero, List.set_cons_succ])
    refine wpAnyH_takeD (i := 1) (d := some 6) (v := ?v104) rfl rfl (by kernel_rfl) (by kernel_rfl) (by kernel_rfl) (fun _ _ _ h => h) (Or.inl ⟨by rfl, ?hy104⟩) hHeld ?rest104
    case hy104 =>
      intro wS hS
      obtain ⟨e1, e2, e3, e4⟩ := hS
      go_simp
      all_goals with_reducible rfl
    (try simp only [Act.put, List.setIfInBounds_toArray, List.set_cons_zero, List.set_cons_succ])
    refine wpAnyH_takeD (i := 6) (d := some 11) (v := ?v105) rfl rfl (by kernel_rfl) (by kernel_rfl) (by kernel_rfl) (fun _ _ _ h => h) (Or.inl ⟨by rfl, ?hy105⟩) hHeld ?rest105
    case hy105 =>
      intro wS hS
      obtain ⟨e1, e2, e3, e4⟩ := hS
      go_simp
      all_goals with_reducible rfl
    (try simp only [Act.put, List.setIfInBounds_toArray, List.set_cons_zero, List.set_cons_succ])
    refine wpAnyH_takeD (i := 3) (d := some 8) (v := ?v106) rfl rfl (by kernel_rfl) (by kernel_rfl) (by kernel_rfl) (fun _ _ _ h => h) (Or.inl ⟨by rfl, ?hy106⟩) hHeld ?rest106
    case hy106 =>
      intro wS hS
      go_simp
      all_goals with_reducible rfl
    (try simp only [Act.put, List.setIfInBounds_toArray, List.set_cons_zero, List.set_cons_succ])
    refine wpAnyH_takeD (i := 8) (d := some 13) (v := ?v107) rfl rfl (by kernel_rfl) (by kernel_rfl) (by kernel_rfl) (fun _ _ _ h => h) (Or.inl ⟨by rfl, ?hy107⟩) hHeld ?rest107
    case hy107 =>
      intro wS hS
      go_simp
      all_goals with_reducible rfl
    (try simp only [Act.put, List.setIfInBounds_toArray, List.set_cons_zero, List.set_cons_succ])
    refine wpAnyH_takeD (i := 4) (d := some 9) (v := ?v108) rfl rfl (by kernel_rfl) (by kernel_rfl) (by kernel_rfl) (fun _ _ _ h => h) (Or.inl ⟨by rfl, ?hy108⟩) hHeld ?rest108
    case hy108 =>
      intro wS hS
      obtain ⟨e1, e2, e3, e4⟩ := hS
      go_simp
      all_goals with_reducible rfl
    (try simp only [Act.put, List.setIfInBounds_toArray, List.set_cons_zero, List.set_cons_succ])
    refine wpAnyH_takeD (i := 9) (d := some 14) (v := ?v109) rfl rfl (by kernel_rfl) (by kernel_rfl) (by kernel_rfl) (fun _ _ _ h => h) (Or.inl ⟨by rfl, ?hy109⟩) hHeld ?rest109
    case hy109 =>
      intro wS hS
      obtain ⟨e1, e2, e3, e4⟩ := hS
      go_simp
      all_goals with_reducible rfl
    (try simp only [Act.put, List.setIfInBounds_toArray, List.set_cons_zero, List.set_cons_succ])
    refine wpAnyH_ready (rs := [10]) (by kernel_rfl) (by simp) (AllReadyH.cons rfl (fun K hK => ?_) AllReadyH.nil)
    rw [if_pos (by rfl)]
    have hb8 : Below wd.heap.size wd (wd.alloc (.cells #[.slice xA xl.length xc, .slice yA yl.length yc] 34)) := (Below.refl _ _).alloc (Nat.le_refl _) _
    have hrow := heap_alloc_new wd (.cells #[.slice xA xl.length xc, .slice yA yl.length yc] 34)
    go_simp
    obtain ⟨G, hG⟩ : ∃ G, G = wd.heap.size := ⟨_, rfl⟩
    rw [← hG] at hrow ⊢
    replace hxs := hxs.below hb8
    replace hys := hys.below hb8
    replace h2 := keep1 hb8 h2
    replace h3 := keep1 hb8 h3
    replace hx := keep1 hb8 hx
    replace hy := keep1 hb8 hy
    replace hbW := hbW.trans (hb8.mono hbW.size)
    clear hb8 hG
    generalize wd.alloc (.cells #[.slice xA xl.length xc, .slice yA yl.length yc] 34) = w7 at *
    refine hK.out _ _ ⟨h2, h3, hx, hy⟩ (fun hHeld => ?_)
    clear hK K
    (try simp only [Act.put, List.setIfInBounds_toArray, List.set_cons_zero, List.set_cons_succ])
    refine wpAnyH_ready (rs := [11]) (by kernel_rfl) (by simp) (AllReadyH.cons rfl (fun K hK => ?_) AllReadyH.nil)
    rw [if_pos (by rfl)]
    go_simp
    refine (concatI_two G xA yA xc yc xl yl w7 hrow hxs hys hlen).mono ?_
    rintro e w8 ⟨v, rfl, A9, c9, rfl, ho, hb9⟩
    replace h2 := keep1 hb9 h2
    replace h3 := keep1 hb9 h3
    replace hx := keep1 hb9 hx
    replace hy := keep1 hb9 hy
    replace ho := Joins.ownsRow_le ho hbW.size
    replace hbW := hbW.trans (hb9.mono hbW.size)
    clear hb9
    go_wp2_with fail
    refine hK.out _ _ ⟨h2, h3, hx, hy⟩ (fun hHeld => ?_)
    clear hK K
    (try simp only [Act.put, List.setIfInBounds_toArray, List.set_cons_zero, List.set_cons_succ])
    refine wpAnyH_takeD (i := 12) (d := some 4) (v := ?v110) rfl rfl (by kernel_rfl) (by kernel_rfl) (by kernel_rfl) (fun _ _ _ h => h) (Or.inl ⟨by rfl, ?hy110⟩) hHeld ?rest110
    case hy110 =>
      intro wS hS
      go_simp
      all_goals with_reducible rfl
    (try simp only [Act.put, List.setIfInBounds_toArray, List.set_cons_zero, List.set_cons_succ])
    refine wpAnyH_done (by kernel_rfl) ?_ _
    go_wp2_with fail
    go_ret
    exact HF.out _ _ _ ho hbW
theorem snd_three (w : World) (ch bi ra : Int) (A : Option Addr) (n c : Nat) (ch' bi' ra' : Int) (B : Option Addr) (m d : Nat) : ∃ w2, w2 = ((w.alloc (.cells #[.int .i64 ch, .int .i64 bi, .int .i64 ra, .slice A n c] 26)).alloc (.cells #[.int .i64 ch', .int .i64 bi', .int .i64 ra', .slice B m d] 26)).alloc (.cells #[.int .i64 0, .int .i64 0, .int .i64 0, .slice none 0 0] 26) ∧ SndAt w2 w.heap.size ch bi ra A n c ∧ SndAt w2 (w.heap.size + 1) ch' bi' ra' B m d ∧
    w2.heap[w.heap.size + 1 + 1]? = some (.cells #[.int .i64 0, .int .i64 0, .int .i64 0, .slice none 0 0] 26 (0, 0)) ∧ Below w.heap.size w w2 ∧ w.heap.size + 3 ≤ w2.heap.size := by
  obtain ⟨ha, hc⟩ := snd_two w ch bi ra A n c ch' bi' ra' B m d
  have hb := below_box2 w (.cells #[.int .i64 ch, .int .i64 bi, .int .i64 ra, .slice A n c] 26) (.cells #[.int .i64 ch', .int .i64 bi', .int .i64 ra', .slice B m d] 26)
  have hs : ((w.alloc (.cells #[.int .i64 ch, .int .i64 bi, .int .i64 ra, .slice A n c] 26)).alloc (.cells #[.int .i64 ch', .int .i64 bi', .int .i64 ra', .slice B m d] 26)).heap.size = w.heap.size + 1 + 1 := by simp
  generalize (w.alloc (.cells #[.int .i64 ch, .int .i64 bi, .int .i64 ra, .slice A n c] 26)).alloc (.cells #[.int .i64 ch', .int .i64 bi', .int .i64 ra', .slice B m d] 26) = w1 at *
  have hb1 : Below w1.heap.size w1 (w1.alloc (.cells #[.int .i64 0, .int .i64 0, .int .i64 0, .slice none 0 0] 26)) := (Below.refl _ _).alloc (Nat.le_refl _) _
  have hn := heap_alloc_new w1 (.cells #[.int .i64 0, .int .i64 0, .int .i64 0, .slice none 0 0] 26)
  rw [hs] at hn
  exact ⟨_, rfl, ha.below hb1, hc.below hb1, hn, hb.trans (hb1.mono hb.size), by simp; omega⟩
set_option maxRecDepth 20000 in
set_option maxHeartbeats 8000000 in
theorem join_any (ch bi ra : Int) (A : Option Addr) (c : Nat) (L : List Chan) (ch' bi' ra' : Int) (B : Option Addr) (d : Nat) (M : List Chan) (w : World) (hl : SeesL w A L) (hm : SeesL w B M) (h1 : L.length ≤ maxLen) (h2 : M.length ≤ maxLen) (hsum : countL L + countL M ≤ 4294967295) :
    Calls Try.prog 25 #[.agg #[.int .i64 ch, .int .i64 bi, .int .i64 ra, .slice A L.length c], .agg #[.int .i64 ch', .int .i64 bi', .int .i64 ra', .slice B M.length d]] w (SndPost w (bothV ch bi ra L ch' bi' ra' M) ch bi ra ((List.range L.length).map (catL L M))) := by
  obtain ⟨w2, hw2, ha, hc, r2, hb, hs⟩ := snd_three w ch bi ra A L.length c ch' bi' ra' B M.length d
  obtain ⟨R, hR⟩ : ∃ R, R = bothV ch bi ra L ch' bi' ra' M := ⟨_, rfl⟩
  rw [← hR]
  have hl0 := hl.below hb
  have hm0 := hm.below hb
  have KB := hid (fun W hW hW2 => pboth_any ch bi ra A c L ch' bi' ra' B d M W hW hW2 h1 h2)
  rw [← hR] at KB
  have C1 := hid (fun W hW => count_any ch bi ra A c L W hW)
  have C2 := hid (fun W hW => count_any ch' bi' ra' B d M W hW)
  clear hl hm
  obtain ⟨s0, s1, s2, s3⟩ := ha
  obtain ⟨t0, t1, t2, t3⟩ := hc
  by_cases e1 : R = 0
  · obtain ⟨k1, k2, k3⟩ := both_ok (hR.symm.trans e1)
    subst e1
    obtain ⟨r1, n1, m1, a1⟩ := check_ok k1
    obtain ⟨rr, n2, m2, a2⟩ := check_ok k2
    have hL8 : L.length ≤ 8 := by unfold rightF at r1; have := of_decide_eq_true r1; omega
    have hLM : L.length = M.length := by
      unfold sameF at k3
      simp at k3
      omega
    have A1 := hid (fun x (hx : x ∈ L) => show x.l.length ≤ 4294967295 by rw [(a1 x hx).1]; exact m1)
    have A2 := hid (fun x (hx : x ∈ M) => show x.l.length ≤ 4294967295 by rw [(a2 x hx).1]; exact m2)
    have HLM := hid hLM
    have HN1 := hid n1
    clear k1 k2 k3 r1 rr a1 a2 n1 n2 hLM hR h1 h2
    obtain ⟨cl, hcl⟩ : ∃ cl, cl = countL L := ⟨_, rfl⟩
    obtain ⟨cm, hcm⟩ : ∃ cm, cm = countL M := ⟨_, rfl⟩
    rw [← hcl] at C1 m1 hsum
    rw [← hcm] at C2 m2 hsum
    clear hcl hcm
    have z1 : IntKind.i64.wrap (4294967295 - (cl : Int)) = 4294967295 - (cl : Int) := by rw [IntKind.wrap_i64]; omega
    have dc : decide (4294967295 - (cl : Int) < (cm : Int)) = false := decide_eq_false (by omega)
    have dc' : decide ((cm : Int) ≤ 4294967295 - (cl : Int)) = true := decide_eq_true (by omega)
    clear hsum
    go_enter Try.func25, Try.ntmps25
    go_wp2_with fail
    rw [← hw2]
    clear hw2
    refine (KB.out _ hl0 hm0).mono ?_
    rintro e w3 ⟨rfl, hb3⟩
    replace r2 := (hb3.block _ (by omega)).trans r2
    replace hb := hb.trans (hb3.mono hb.size)
    replace hs := Nat.le_trans hs hb3.size
    replace s0 := keep1 hb3 s0
    replace s1 := keep1 hb3 s1
    replace s2 := keep1 hb3 s2
    replace s3 := keep1 hb3 s3
    replace t0 := keep1 hb3 t0
    replace t1 := keep1 hb3 t1
    replace t2 := keep1 hb3 t2
    replace t3 := keep1 hb3 t3
    replace hl0 := hl0.below hb3
    replace hm0 := hm0.below hb3
    clear hb3 KB
    go_wp2_with fail
    go_region_held3 (fun w' => w'.cell? ⟨w.heap.size, 0, none⟩ = some (.int .i64 ch) ∧ w'.cell? ⟨w.heap.size, 1, none⟩ = some (.int .i64 bi) ∧ w'.cell? ⟨w.heap.size, 2, none⟩ = some (.int .i64 ra) ∧ w'.cell? ⟨w.heap.size, 3, none⟩ = some (.slice A L.length c) ∧ w'.cell? ⟨w.heap.size + 1, 0, none⟩ = some (.int .i64 ch') ∧ w'.cell? ⟨w.heap.size + 1, 1, none⟩ = some (.int .i64 bi') ∧ w'.cell? ⟨w.heap.size + 1, 2, none⟩ = some (.int .i64 ra') ∧ w'.cell? ⟨w.heap.size + 1, 3, none⟩ = some (.slice B M.length d)) (first | exact ⟨s0, s1, s2, s3, t0, t1, t2, t3⟩ | go_keep)
      (first | (go_at_call 14; refine (C2.out _ ?_).mono ?_; exact hm0; rintro e wa ⟨rfl, hba⟩; replace s0 := keep1 hba s0; replace s1 := keep1 hba s1; replace s2 := keep1 hba s2; replace s3 := keep1 hba s3; replace t0 := keep1 hba t0; replace t1 := keep1 hba t1; replace t2 := keep1 hba t2; replace t3 := keep1 hba t3; replace r2 := (hba.block _ (Nat.lt_of_lt_of_le (by omega) hs)).trans r2; replace hs := Nat.le_trans hs hba.size; replace hl0 := hl0.below ⟨hba.os, hba.tape, hba.output, hba.size, hba.block⟩; replace hm0 := hm0.below ⟨hba.os, hba.tape, hba.output, hba.size, hba.block⟩; replace hb := Below.trans hb (Below.mono (w := _) ⟨hba.os, hba.tape, hba.output, hba.size, hba.block⟩ hb.size); clear hba C2) | (go_at_call 14; refine (C1.out _ ?_).mono ?_; exact hl0; rintro e wa ⟨rfl, hba⟩; replace s0 := keep1 hba s0; replace s1 := keep1 hba s1; replace s2 := keep1 hba s2; replace s3 := keep1 hba s3; replace t0 := keep1 hba t0; replace t1 := keep1 hba t1; replace t2 := keep1 hba t2; replace t3 := keep1 hba t3; replace r2 := (hba.block _ (Nat.lt_of_lt_of_le (by omega) hs)).trans r2; replace hs := Nat.le_trans hs hba.size; replace hl0 := hl0.below ⟨hba.os, hba.tape, hba.output, hba.size, hba.block⟩; replace hm0 := hm0.below ⟨hba.os, hba.tape, hba.output, hba.size, hba.block⟩; replace hb := Below.trans hb (Below.mono (w := _) ⟨hba.os, hba.tape, hba.output, hba.size, hba.block⟩ hb.size); clear hba C1))
    all_goals (generalize wa = w4 at *)
    all_goals (clear t0 t1 t2; have n1 := HN1.out; subst n1)
    all_goals (
      have HMD := hid (made_any 44 #[.pointer (some ⟨w.heap.size, 0, none⟩), .pointer (some ⟨w.heap.size + 1, 0, none⟩)] (catL L M) L.length bi ra w4 hL8 enterJ (fun W k hk hW => join1_any w.heap.size (w.heap.size + 1) A B c d L M k W (keep1 hW s3) (keep1 hW t3) (hl0.below hW) (hm0.below hW) hk (by rw [← HLM.out]; exact hk) A1.out A2.out))
      go_wp2_with fail
      refine HMD.out.mono ?_
      rintro e w5 ⟨A5, c5, L5, rfl, hL5, hI5, hA5, hX5, hb5⟩
      replace r2 := (hb5.block _ (by omega)).trans r2
      replace hb := hb.trans (hb5.mono hb.size)
      have hfin := SeesL.rowFar hL5 (w.heap.size + 1 + 1) #[.int .i64 (L.length : Int), .int .i64 bi, .int .i64 ra, .slice A5 L5.length c5] (fun a ha => by have := hA5 a ha; omega) (fun x hx a ha => by have := hX5 x hx a ha; omega)
      have HI5 := hid hI5
      clear hb5 s0 s1 s2 s3 t3 hl0 hm0 HMD hL5 hI5
      go_wp2_with first | (refine wpList_store_row rfl 26 (.tmp 4) (.tmp 24) rfl rfl (w.heap.size + 1 + 1) rfl #[.int .i64 (L.length : Int), .int .i64 bi, .int .i64 ra, .slice A5 L5.length c5] rfl 26 #[.int .i64 0, .int .i64 0, .int .i64 0, .slice none 0 0] r2 (by kernel_rfl) rfl (by simp [Value.oneCell']) ?_)
      exact bodyPost_ret (v := .tuple #[.agg #[.int .i64 (L.length : Int), .int .i64 bi, .int .i64 ra, .slice A5 L5.length c5], .int .i64 0]) (results_row_tmp (fn := Try.f25) (p := 4) (u := 5) (ty := 26) rfl _ _ (w.heap.size + 1 + 1) _ _ _ _ rfl (setRow_heap _ _ _ _ _ _ r2) Try.underlying26 rfl (by kernel_rfl)) rfl (by
        unfold SndPost
        rw [if_pos rfl]
        exact ⟨A5, c5, L5, rfl, hfin, HI5.out, below_setRow hb (by omega) _⟩))
  · have d1 : (R != 0) = true := by simpa using e1
    have d1' : decide (R = 0) = false := decide_eq_false e1
    have HE := hid e1
    clear hR e1
    go_enter Try.func25, Try.ntmps25
    go_wp2_with fail
    rw [← hw2]
    clear hw2
    refine (KB.out _ hl0 hm0).mono ?_
    rintro e w3 ⟨rfl, hb3⟩
    replace r2 := (hb3.block _ (by omega)).trans r2
    replace hb := hb.trans (hb3.mono hb.size)
    replace hs := Nat.le_trans hs hb3.size
    clear hb3 KB hl0 hm0 s0 s1 s2 s3 t0 t1 t2 t3
    go_wp2_with first | (refine wpList_store_row rfl 26 (.tmp 4) (.tmp 12) rfl rfl (w.heap.size + 1 + 1) rfl #[.int .i64 0, .int .i64 0, .int .i64 0, .slice none 0 0] rfl 26 #[.int .i64 0, .int .i64 0, .int .i64 0, .slice none 0 0] r2 (by kernel_rfl) rfl (by simp [Value.oneCell']) ?_)
    exact bodyPost_ret (v := .tuple #[.agg #[.int .i64 0, .int .i64 0, .int .i64 0, .slice none 0 0], .int .i64 R]) (results_row_tmp (fn := Try.f25) (p := 4) (u := 5) (ty := 26) rfl _ _ (w.heap.size + 1 + 1) _ _ _ _ rfl (setRow_heap _ _ _ _ _ _ r2) Try.underlying26 rfl (by kernel_rfl)) rfl (by
      unfold SndPost
      rw [if_neg HE.out]
      exact ⟨rfl, below_setRow hb (by omega) _⟩)
end Go.Proofs.Ytfinefhebffpcaa
