/- A taker's answers are those of the document's. -/
import Derived.Test.YtbcddeiicneajaaRefTaker3
import Derived.Test.YtbcddeiicneajaaRegRow
namespace Go.Proofs.Ytbcddeiicneajaa
set_option linter.unusedVariables false
open Go.RowKit
theorem but_cell {g b off : Nat} {w w' : World} {v : Value} (hb : But (Only g) w w') (h : w.cell? ⟨b, off, none⟩ = some v) (hne : b ≠ g) : w'.cell? ⟨b, off, none⟩ = some v := by
  have hlt := block_lt_of_cell h
  exact (World.cell?_of_block (w := w) (hb.block b hlt hne)).trans h
theorem but_bel {g B : Nat} {w0 w w' : World} (hb : Below B w0 w) (h : But (Only g) w w') (hg : B ≤ g) (hB : B ≤ w0.heap.size) : Below B w0 w' :=
  But.below hb h (fun n hn => by have : n = g := hn; omega) (Nat.le_trans hB hb.size)
theorem ans_signed {err : Int} {p : Nat} {l : List UInt8} {n : Int} : (if (takeU (err, p) l n).1.1 = 0 then signI n.toNat (valLE (takeU (err, p) l n).2) else 0) = sgnL (takeU (err, p) l n).2 := by
  by_cases h : (takeU (err, p) l n).1.1 = 0
  · rw [if_pos h]
    obtain ⟨h0, h1, h2, hr, hle⟩ := takeU_good h
    have hlen : (takeU (err, p) l n).2.length = n.toNat := by
      rw [hr]
      show ((l.drop p).take n.toNat).length = n.toNat
      rw [List.length_take, List.length_drop]
      exact Nat.min_eq_left hle
    rw [sgn_eq _ (by omega) (by omega), hlen]
  · rw [if_neg h]
    have := takeU_bad h
    rw [this]
    simp [sgnL, valLE]
def AnsPost (w : World) (g g2 B : Nat) (l : List UInt8) (e : Ending) (w' : World) : Prop := e = .returned (.bool true) ∧ ∃ (err' : Int) (p' : Nat), Tk w' g err' p' l ∧ Rk w' g2 err' p' l ∧ Below B w w'
set_option maxRecDepth 20000 in
set_option maxHeartbeats 8000000 in
theorem answers_any (g g2 B : Nat) (err : Int) (p : Nat) (l : List UInt8) (k n : Int) (s : ByteArray) (w : World) (hT : Tk w g err p l) (hR : Rk w g2 err p l) (hne : g ≠ g2) (hlen : l.length ≤ 140737488355328) (hn : n ≤ 9223372036854775807) (hsz : s.size ≤ 140737488355328) (hB1 : B ≤ g) (hB2 : B ≤ g2) :
    Calls Try.prog 22 #[.pointer (some ⟨g, 0, none⟩), .pointer (some ⟨g2, 0, none⟩), .agg #[.int .i64 k, .int .i64 n, .string s]] w (AnsPost w g g2 B l) := by
  have hne2 : g2 ≠ g := fun h => hne h.symm
  have hg : g < w.heap.size := by obtain ⟨_, _, hg, _⟩ := hT; exact (Array.getElem?_eq_some_iff.1 hg).1
  have hg2 : g2 < w.heap.size := by obtain ⟨_, _, hg, _⟩ := hR; exact (Array.getElem?_eq_some_iff.1 hg).1
  have hb0 : Below w.heap.size w (w.alloc (.cells #[.int .i64 k, .int .i64 n, .string s] 54)) := (Below.refl _ w).alloc (Nat.le_refl _) _
  have hrow := heap_alloc_new w (.cells #[.int .i64 k, .int .i64 n, .string s] 54)
  have c0 : (w.alloc (.cells #[.int .i64 k, .int .i64 n, .string s] 54)).cell? ⟨w.heap.size, 0, none⟩ = some (.int .i64 k) := by rw [cell_of_row _ _ _ _ _ _ hrow]; rfl
  have cN : (w.alloc (.cells #[.int .i64 k, .int .i64 n, .string s] 54)).cell? ⟨w.heap.size, 1, none⟩ = some (.int .i64 n) := by rw [cell_of_row _ _ _ _ _ _ hrow]; rfl
  have cS : (w.alloc (.cells #[.int .i64 k, .int .i64 n, .string s] 54)).cell? ⟨w.heap.size, 2, none⟩ = some (.string s) := by rw [cell_of_row _ _ _ _ _ _ hrow]; rfl
  replace hT := hT.below hb0
  replace hR := hR.below hb0
  have hb : Below B w (w.alloc (.cells #[.int .i64 k, .int .i64 n, .string s] 54)) := (Below.refl B w).alloc (by omega) _
  have hBw : B ≤ w.heap.size := by omega
  have hG1 : w.heap.size ≠ g := by omega
  have hG2 : w.heap.size ≠ g2 := by omega
  clear hrow hb0
  by_cases h0 : k = 0
  case pos =>
    subst h0
    have HU := hid (fun W (hW : Tk W g err p l) => takerU_any g err p n l W hW hlen)
    have HN := hid (fun W (hW : Rk W g2 err p l) => rnext_any g2 err p n true l W hW hlen hn)
    rw [nextR_true] at HN
    have h8 := takeU_len (err, p) l n
    generalize takeU (err, p) l n = R at *
    obtain ⟨⟨E, q⟩, x⟩ := R
    simp only at h8
    have HV := hid (fun (A1 : Option Addr) (c1 : Nat) (W : World) (hs1 : SeesB W A1 x) => rvalue_any A1 c1 x W hs1 h8)
    go_enter Try.func22, Try.ntmps22
    go_wp2_with fail
    generalize w.alloc (.cells #[.int .i64 0, .int .i64 n, .string s] 54) = w0 at *
    clear c0
    clear cS
    have c1 := cN
    clear cN
    · skip
      refine wp_region_held_drew (S := fun W => W.cell? ⟨w.heap.size, 1, none⟩ = some (.int .i64 n)) (by kernel_rfl) c1 (fun hHeld => ?_)
      replace hT : Tk w0.drew g err p l := hT
      replace hR : Rk w0.drew g2 err p l := hR
      replace hb : Below B w w0.drew := hb.drew
      replace c1 : w0.drew.cell? ⟨w.heap.size, 1, none⟩ = some (.int .i64 n) := c1
      generalize w0.drew = wd at *
      refine wpAnyH_takeD (i := 0) (d := some 11) (v := ?v100) rfl rfl (by kernel_rfl) (by kernel_rfl) (by kernel_rfl) (fun _ _ _ h => h) (Or.inl ⟨by rfl, ?hy100⟩) hHeld ?rest100
      case hy100 =>
        intro wS hS
        go_simp
        all_goals with_reducible rfl
      (try simp only [Act.put, List.setIfInBounds_toArray, List.set_cons_zero, List.set_cons_succ])
      refine wpAnyH_takeD (i := 1) (d := some 12) (v := ?v101) rfl rfl (by kernel_rfl) (by kernel_rfl) (by kernel_rfl) (fun _ _ _ h => h) (Or.inl ⟨by rfl, ?hy101⟩) hHeld ?rest101
      case hy101 =>
        intro wS hS
        go_simp
        all_goals with_reducible rfl
      (try simp only [Act.put, List.setIfInBounds_toArray, List.set_cons_zero, List.set_cons_succ])
      refine wpAnyH_takeD (i := 4) (d := some 15) (v := ?v102) rfl rfl (by kernel_rfl) (by kernel_rfl) (by kernel_rfl) (fun _ _ _ h => h) (Or.inl ⟨by rfl, ?hy102⟩) hHeld ?rest102
      case hy102 =>
        intro wS hS
        go_simp
        all_goals with_reducible rfl
      (try simp only [Act.put, List.setIfInBounds_toArray, List.set_cons_zero, List.set_cons_succ])
      refine wpAnyH_takeD (i := 5) (d := some 16) (v := ?v103) rfl rfl (by kernel_rfl) (by kernel_rfl) (by kernel_rfl) (fun _ _ _ h => h) (Or.inl ⟨by rfl, ?hy103⟩) hHeld ?rest103
      case hy103 =>
        intro wS hS
        go_simp
        all_goals with_reducible rfl
      (try simp only [Act.put, List.setIfInBounds_toArray, List.set_cons_zero, List.set_cons_succ])
      refine wpAnyH_takeD (i := 2) (d := some 13) (v := ?v104) rfl rfl (by kernel_rfl) (by kernel_rfl) (by kernel_rfl) (fun _ _ _ h => h) (Or.inl ⟨by rfl, ?hy104⟩) hHeld ?rest104
      case hy104 =>
        intro wS hS
        go_simp
        all_goals with_reducible rfl
      (try simp only [Act.put, List.setIfInBounds_toArray, List.set_cons_zero, List.set_cons_succ])
      refine wpAnyH_takeD (i := 6) (d := some 17) (v := ?v105) rfl rfl (by kernel_rfl) (by kernel_rfl) (by kernel_rfl) (fun _ _ _ h => h) (Or.inl ⟨by rfl, ?hy105⟩) hHeld ?rest105
      case hy105 =>
        intro wS hS
        go_simp
        all_goals with_reducible rfl
      (try simp only [Act.put, List.setIfInBounds_toArray, List.set_cons_zero, List.set_cons_succ])
      refine wpAnyH_ready (rs := [3]) (by kernel_rfl) (by simp) (AllReadyH.cons rfl (fun K hK => ?_) AllReadyH.nil)
      rw [if_pos (by rfl)]
      go_simp
      refine (HU.out _ hT).mono ?_
      rintro e wa ⟨rfl, hTa, hBa⟩
      replace hR := hR.butTk hT hBa hne2
      replace c1 := but_cell hBa c1 hG1
      replace hb := but_bel hb hBa hB1 hBw
      clear hT
      have hT := hTa
      clear hTa
      clear hBa
      go_wp2_with fail
      refine hK.out _ _ c1 (fun hHeld => ?_)
      clear hK K
      (try simp only [Act.put, List.setIfInBounds_toArray, List.set_cons_zero, List.set_cons_succ])
      refine wpAnyH_ready (rs := [7]) (by kernel_rfl) (by simp) (AllReadyH.cons rfl (fun K hK => ?_) AllReadyH.nil)
      rw [if_pos (by rfl)]
      go_simp
      refine (HN.out _ hR).mono ?_
      rintro e wc ⟨A1, cc, rfl, hs1, hRa, hBc⟩
      replace hT := hT.butRk hR hBc hne
      replace c1 := but_cell hBc c1 hG2
      replace hb := but_bel hb hBc hB2 hBw
      clear hR
      have hR := hRa
      clear hRa
      clear hBc
      go_wp2_with fail
      refine hK.out _ _ c1 (fun hHeld => ?_)
      clear hK K
      (try simp only [Act.put, List.setIfInBounds_toArray, List.set_cons_zero, List.set_cons_succ])
      refine wpAnyH_ready (rs := [8]) (by kernel_rfl) (by simp) (AllReadyH.cons rfl (fun K hK => ?_) AllReadyH.nil)
      rw [if_pos (by rfl)]
      go_simp
      refine (HV.out A1 cc wc hs1).mono ?_
      rintro e we ⟨rfl, rfl⟩
      go_wp2_with fail
      refine hK.out _ _ c1 (fun hHeld => ?_)
      clear hK K
      (try simp only [Act.put, List.setIfInBounds_toArray, List.set_cons_zero, List.set_cons_succ])
      refine wpAnyH_takeD (i := 9) (d := some 20) (v := ?v106) rfl rfl (by kernel_rfl) (by kernel_rfl) (by kernel_rfl) (fun _ _ _ h => h) (Or.inl ⟨by rfl, ?hy106⟩) hHeld ?rest106
      case hy106 =>
        intro wS hS
        go_simp
        all_goals with_reducible rfl
      (try simp only [Act.put, List.setIfInBounds_toArray, List.set_cons_zero, List.set_cons_succ])
      refine wpAnyH_takeD (i := 10) (d := some 6) (v := ?v107) rfl rfl (by kernel_rfl) (by kernel_rfl) (by kernel_rfl) (fun _ _ _ h => h) (Or.inl ⟨by rfl, ?hy107⟩) hHeld ?rest107
      case hy107 =>
        intro wS hS
        go_simp
        all_goals with_reducible rfl
      (try simp only [Act.put, List.setIfInBounds_toArray, List.set_cons_zero, List.set_cons_succ])
      refine wpAnyH_done (by kernel_rfl) ?_ _
      go_wp2_with fail
      go_ret
      exact ⟨rfl, E, q, hT, hR, hb⟩
  have d0 : decide (k = 0) = false := decide_eq_false h0
  have e0 : (k == 0) = false := by simpa using h0
  by_cases h1 : k = 1
  case pos =>
    subst h1
    have HU := hid (fun W (hW : Tk W g err p l) => show Calls Try.prog 17 #[.pointer (some ⟨g, 0, none⟩), .int .i64 n] W (fun e w' => e = .returned (.int .i64 (sgnL (takeU (err, p) l n).2)) ∧ Tk w' g (takeU (err, p) l n).1.1 (takeU (err, p) l n).1.2 l ∧ But (Only g) W w') from by
      have h := takerI_any g err p n l W hW hlen
      unfold IPost at h
      rw [ans_signed] at h
      exact h)
    have HN := hid (fun W (hW : Rk W g2 err p l) => rnext_any g2 err p n true l W hW hlen hn)
    rw [nextR_true] at HN
    have h8 := takeU_len (err, p) l n
    generalize takeU (err, p) l n = R at *
    obtain ⟨⟨E, q⟩, x⟩ := R
    simp only at h8
    have HV := hid (fun (A1 : Option Addr) (c1 : Nat) (W : World) (hs1 : SeesB W A1 x) => signed_any A1 c1 x W hs1 h8)
    generalize sgnL x = sg at *
    go_enter Try.func22, Try.ntmps22
    go_wp2_with fail
    generalize w.alloc (.cells #[.int .i64 1, .int .i64 n, .string s] 54) = w0 at *
    clear c0
    clear cS
    have c1 := cN
    clear cN
    · skip
      refine wp_region_held_drew (S := fun W => W.cell? ⟨w.heap.size, 1, none⟩ = some (.int .i64 n)) (by kernel_rfl) c1 (fun hHeld => ?_)
      replace hT : Tk w0.drew g err p l := hT
      replace hR : Rk w0.drew g2 err p l := hR
      replace hb : Below B w w0.drew := hb.drew
      replace c1 : w0.drew.cell? ⟨w.heap.size, 1, none⟩ = some (.int .i64 n) := c1
      generalize w0.drew = wd at *
      refine wpAnyH_takeD (i := 0) (d := some 23) (v := ?v108) rfl rfl (by kernel_rfl) (by kernel_rfl) (by kernel_rfl) (fun _ _ _ h => h) (Or.inl ⟨by rfl, ?hy108⟩) hHeld ?rest108
      case hy108 =>
        intro wS hS
        go_simp
        all_goals with_reducible rfl
      (try simp only [Act.put, List.setIfInBounds_toArray, List.set_cons_zero, List.set_cons_succ])
      refine wpAnyH_takeD (i := 1) (d := some 24) (v := ?v109) rfl rfl (by kernel_rfl) (by kernel_rfl) (by kernel_rfl) (fun _ _ _ h => h) (Or.inl ⟨by rfl, ?hy109⟩) hHeld ?rest109
      case hy109 =>
        intro wS hS
        go_simp
        all_goals with_reducible rfl
      (try simp only [Act.put, List.setIfInBounds_toArray, List.set_cons_zero, List.set_cons_succ])
      refine wpAnyH_takeD (i := 4) (d := some 27) (v := ?v110) rfl rfl (by kernel_rfl) (by kernel_rfl) (by kernel_rfl) (fun _ _ _ h => h) (Or.inl ⟨by rfl, ?hy110⟩) hHeld ?rest110
      case hy110 =>
        intro wS hS
        go_simp
        all_goals with_reducible rfl
      (try simp only [Act.put, List.setIfInBounds_toArray, List.set_cons_zero, List.set_cons_succ])
      refine wpAnyH_takeD (i := 5) (d := some 28) (v := ?v111) rfl rfl (by kernel_rfl) (by kernel_rfl) (by kernel_rfl) (fun _ _ _ h => h) (Or.inl ⟨by rfl, ?hy111⟩) hHeld ?rest111
      case hy111 =>
        intro wS hS
        go_simp
        all_goals with_reducible rfl
      (try simp only [Act.put, List.setIfInBounds_toArray, List.set_cons_zero, List.set_cons_succ])
      refine wpAnyH_takeD (i := 2) (d := some 25) (v := ?v112) rfl rfl (by kernel_rfl) (by kernel_rfl) (by kernel_rfl) (fun _ _ _ h => h) (Or.inl ⟨by rfl, ?hy112⟩) hHeld ?rest112
      case hy112 =>
        intro wS hS
        go_simp
        all_goals with_reducible rfl
      (try simp only [Act.put, List.setIfInBounds_toArray, List.set_cons_zero, List.set_cons_succ])
      refine wpAnyH_takeD (i := 6) (d := some 29) (v := ?v113) rfl rfl (by kernel_rfl) (by kernel_rfl) (by kernel_rfl) (fun _ _ _ h => h) (Or.inl ⟨by rfl, ?hy113⟩) hHeld ?rest113
      case hy113 =>
        intro wS hS
        go_simp
        all_goals with_reducible rfl
      (try simp only [Act.put, List.setIfInBounds_toArray, List.set_cons_zero, List.set_cons_succ])
      refine wpAnyH_ready (rs := [3]) (by kernel_rfl) (by simp) (AllReadyH.cons rfl (fun K hK => ?_) AllReadyH.nil)
      rw [if_pos (by rfl)]
      go_simp
      refine (HU.out _ hT).mono ?_
      rintro e wa ⟨rfl, hTa, hBa⟩
      replace hR := hR.butTk hT hBa hne2
      replace c1 := but_cell hBa c1 hG1
      replace hb := but_bel hb hBa hB1 hBw
      clear hT
      have hT := hTa
      clear hTa
      clear hBa
      go_wp2_with fail
      refine hK.out _ _ c1 (fun hHeld => ?_)
      clear hK K
      (try simp only [Act.put, List.setIfInBounds_toArray, List.set_cons_zero, List.set_cons_succ])
      refine wpAnyH_ready (rs := [7]) (by kernel_rfl) (by simp) (AllReadyH.cons rfl (fun K hK => ?_) AllReadyH.nil)
      rw [if_pos (by rfl)]
      go_simp
      refine (HN.out _ hR).mono ?_
      rintro e wc ⟨A1, cc, rfl, hs1, hRa, hBc⟩
      replace hT := hT.butRk hR hBc hne
      replace c1 := but_cell hBc c1 hG2
      replace hb := but_bel hb hBc hB2 hBw
      clear hR
      have hR := hRa
      clear hRa
      clear hBc
      go_wp2_with fail
      refine hK.out _ _ c1 (fun hHeld => ?_)
      clear hK K
      (try simp only [Act.put, List.setIfInBounds_toArray, List.set_cons_zero, List.set_cons_succ])
      refine wpAnyH_ready (rs := [8]) (by kernel_rfl) (by simp) (AllReadyH.cons rfl (fun K hK => ?_) AllReadyH.nil)
      rw [if_pos (by rfl)]
      go_simp
      refine (HV.out A1 cc wc hs1).mono ?_
      rintro e we ⟨rfl, rfl⟩
      go_wp2_with fail
      refine hK.out _ _ c1 (fun hHeld => ?_)
      clear hK K
      (try simp only [Act.put, List.setIfInBounds_toArray, List.set_cons_zero, List.set_cons_succ])
      refine wpAnyH_takeD (i := 9) (d := some 32) (v := ?v114) rfl rfl (by kernel_rfl) (by kernel_rfl) (by kernel_rfl) (fun _ _ _ h => h) (Or.inl ⟨by rfl, ?hy114⟩) hHeld ?rest114
      case hy114 =>
        intro wS hS
        go_simp
        all_goals with_reducible rfl
      (try simp only [Act.put, List.setIfInBounds_toArray, List.set_cons_zero, List.set_cons_succ])
      refine wpAnyH_takeD (i := 10) (d := some 6) (v := ?v115) rfl rfl (by kernel_rfl) (by kernel_rfl) (by kernel_rfl) (fun _ _ _ h => h) (Or.inl ⟨by rfl, ?hy115⟩) hHeld ?rest115
      case hy115 =>
        intro wS hS
        go_simp
        all_goals with_reducible rfl
      (try simp only [Act.put, List.setIfInBounds_toArray, List.set_cons_zero, List.set_cons_succ])
      refine wpAnyH_done (by kernel_rfl) ?_ _
      go_wp2_with fail
      go_ret
      exact ⟨rfl, E, q, hT, hR, hb⟩
  have d1 : decide (k = 1) = false := decide_eq_false h1
  have e1 : (k == 1) = false := by simpa using h1
  by_cases h2 : k = 2
  case pos =>
    subst h2
    have HU := hid (fun W (hW : Tk W g err p l) => traw_any g err p n l W hW hlen hn)
    have HN := hid (fun W (hW : Rk W g2 err p l) => rnext_any g2 err p n false l W hW hlen hn)
    rw [nextR_false] at HN
    generalize takeRaw (err, p) l n = R at *
    obtain ⟨⟨E, q⟩, x⟩ := R
    go_enter Try.func22, Try.ntmps22
    go_wp2_with fail
    generalize w.alloc (.cells #[.int .i64 2, .int .i64 n, .string s] 54) = w0 at *
    clear c0
    clear cS
    have c1 := cN
    clear cN
    · skip
      refine wp_region_held_drew (S := fun W => W.cell? ⟨w.heap.size, 1, none⟩ = some (.int .i64 n)) (by kernel_rfl) c1 (fun hHeld => ?_)
      replace hT : Tk w0.drew g err p l := hT
      replace hR : Rk w0.drew g2 err p l := hR
      replace hb : Below B w w0.drew := hb.drew
      replace c1 : w0.drew.cell? ⟨w.heap.size, 1, none⟩ = some (.int .i64 n) := c1
      generalize w0.drew = wd at *
      refine wpAnyH_takeD (i := 0) (d := some 35) (v := ?v116) rfl rfl (by kernel_rfl) (by kernel_rfl) (by kernel_rfl) (fun _ _ _ h => h) (Or.inl ⟨by rfl, ?hy116⟩) hHeld ?rest116
      case hy116 =>
        intro wS hS
        go_simp
        all_goals with_reducible rfl
      (try simp only [Act.put, List.setIfInBounds_toArray, List.set_cons_zero, List.set_cons_succ])
      refine wpAnyH_takeD (i := 1) (d := some 36) (v := ?v117) rfl rfl (by kernel_rfl) (by kernel_rfl) (by kernel_rfl) (fun _ _ _ h => h) (Or.inl ⟨by rfl, ?hy117⟩) hHeld ?rest117
      case hy117 =>
        intro wS hS
        go_simp
        all_goals with_reducible rfl
      (try simp only [Act.put, List.setIfInBounds_toArray, List.set_cons_zero, List.set_cons_succ])
      refine wpAnyH_takeD (i := 5) (d := some 40) (v := ?v118) rfl rfl (by kernel_rfl) (by kernel_rfl) (by kernel_rfl) (fun _ _ _ h => h) (Or.inl ⟨by rfl, ?hy118⟩) hHeld ?rest118
      case hy118 =>
        intro wS hS
        go_simp
        all_goals with_reducible rfl
      (try simp only [Act.put, List.setIfInBounds_toArray, List.set_cons_zero, List.set_cons_succ])
      refine wpAnyH_takeD (i := 6) (d := some 41) (v := ?v119) rfl rfl (by kernel_rfl) (by kernel_rfl) (by kernel_rfl) (fun _ _ _ h => h) (Or.inl ⟨by rfl, ?hy119⟩) hHeld ?rest119
      case hy119 =>
        intro wS hS
        go_simp
        all_goals with_reducible rfl
      (try simp only [Act.put, List.setIfInBounds_toArray, List.set_cons_zero, List.set_cons_succ])
      refine wpAnyH_takeD (i := 2) (d := some 37) (v := ?v120) rfl rfl (by kernel_rfl) (by kernel_rfl) (by kernel_rfl) (fun _ _ _ h => h) (Or.inl ⟨by rfl, ?hy120⟩) hHeld ?rest120
      case hy120 =>
        intro wS hS
        go_simp
        all_goals with_reducible rfl
      (try simp only [Act.put, List.setIfInBounds_toArray, List.set_cons_zero, List.set_cons_succ])
      refine wpAnyH_takeD (i := 7) (d := some 42) (v := ?v121) rfl rfl (by kernel_rfl) (by kernel_rfl) (by kernel_rfl) (fun _ _ _ h => h) (Or.inl ⟨by rfl, ?hy121⟩) hHeld ?rest121
      case hy121 =>
        intro wS hS
        go_simp
        all_goals with_reducible rfl
      (try simp only [Act.put, List.setIfInBounds_toArray, List.set_cons_zero, List.set_cons_succ])
      refine wpAnyH_ready (rs := [3]) (by kernel_rfl) (by simp) (AllReadyH.cons rfl (fun K hK => ?_) AllReadyH.nil)
      rw [if_pos (by rfl)]
      go_simp
      refine (HU.out _ hT).mono ?_
      rintro e wa ⟨A0, c0, rfl, hs0, _, _, _, hTa, hBa⟩
      replace hR := hR.butTk hT hBa hne2
      replace c1 := but_cell hBa c1 hG1
      replace hb := but_bel hb hBa hB1 hBw
      clear hT
      have hT := hTa
      clear hTa
      clear hBa
      go_wp2_with fail
      refine hK.out _ _ c1 (fun hHeld => ?_)
      clear hK K
      (try simp only [Act.put, List.setIfInBounds_toArray, List.set_cons_zero, List.set_cons_succ])
      refine wpAnyH_ready (rs := [4, 8]) (by kernel_rfl) (by simp) (AllReadyH.cons rfl (fun K hK => ?_) (AllReadyH.cons rfl (fun K hK => ?_) AllReadyH.nil))
      · rw [if_pos (by rfl)]
        have hcv := conv_bs A0 c0 x wa hs0
        go_simp
        refine hK.out _ _ c1 (fun hHeld => ?_)
        clear hK K
        (try simp only [Act.put, List.setIfInBounds_toArray, List.set_cons_zero, List.set_cons_succ])
        clear hcv
        refine wpAnyH_ready (rs := [8]) (by kernel_rfl) (by simp) (AllReadyH.cons rfl (fun K hK => ?_) AllReadyH.nil)
        rw [if_pos (by rfl)]
        have hs0g := hid (fun (W : World) (hBx : But (Only g2) wa W) => show SeesB W A0 x by
          obtain ⟨A9, c9, hg9, _⟩ := hR
          exact SeesB.butTyped hs0 hBx hg9 (rk_row _ _ _ _ _))
        go_simp
        refine (HN.out _ hR).mono ?_
        rintro e wc ⟨A1, cc, rfl, hs1, hRa, hBc⟩
        replace hT := hT.butRk hR hBc hne
        replace c1 := but_cell hBc c1 hG2
        replace hb := but_bel hb hBc hB2 hBw
        clear hR
        have hR := hRa
        clear hRa
        replace hs0 := hs0g.out _ hBc
        clear hBc hs0g
        go_wp2_with fail
        refine hK.out _ _ c1 (fun hHeld => ?_)
        clear hK K
        (try simp only [Act.put, List.setIfInBounds_toArray, List.set_cons_zero, List.set_cons_succ])
        refine wpAnyH_ready (rs := [9]) (by kernel_rfl) (by simp) (AllReadyH.cons rfl (fun K hK => ?_) AllReadyH.nil)
        rw [if_pos (by rfl)]
        have hcv := conv_bs A1 cc x wc hs1
        go_simp
        refine hK.out _ _ c1 (fun hHeld => ?_)
        clear hK K
        (try simp only [Act.put, List.setIfInBounds_toArray, List.set_cons_zero, List.set_cons_succ])
        clear hcv
        refine wpAnyH_takeD (i := 10) (d := some 45) (v := ?v122) rfl rfl (by kernel_rfl) (by kernel_rfl) (by kernel_rfl) (fun _ _ _ h => h) (Or.inl ⟨by rfl, ?hy122⟩) hHeld ?rest122
        case hy122 =>
          intro wS hS
          go_simp
          all_goals with_reducible rfl
        (try simp only [Act.put, List.setIfInBounds_toArray, List.set_cons_zero, List.set_cons_succ])
        refine wpAnyH_takeD (i := 11) (d := some 6) (v := ?v123) rfl rfl (by kernel_rfl) (by kernel_rfl) (by kernel_rfl) (fun _ _ _ h => h) (Or.inl ⟨by rfl, ?hy123⟩) hHeld ?rest123
        case hy123 =>
          intro wS hS
          go_simp
          all_goals with_reducible rfl
        (try simp only [Act.put, List.setIfInBounds_toArray, List.set_cons_zero, List.set_cons_succ])
        refine wpAnyH_done (by kernel_rfl) ?_ _
        go_wp2_with fail
        go_ret
        exact ⟨rfl, E, q, hT, hR, hb⟩
      · rw [if_pos (by rfl)]
        have hs0g := hid (fun (W : World) (hBx : But (Only g2) wa W) => show SeesB W A0 x by
          obtain ⟨A9, c9, hg9, _⟩ := hR
          exact SeesB.butTyped hs0 hBx hg9 (rk_row _ _ _ _ _))
        go_simp
        refine (HN.out _ hR).mono ?_
        rintro e wc ⟨A1, cc, rfl, hs1, hRa, hBc⟩
        replace hT := hT.butRk hR hBc hne
        replace c1 := but_cell hBc c1 hG2
        replace hb := but_bel hb hBc hB2 hBw
        clear hR
        have hR := hRa
        clear hRa
        replace hs0 := hs0g.out _ hBc
        clear hBc hs0g
        go_wp2_with fail
        refine hK.out _ _ c1 (fun hHeld => ?_)
        clear hK K
        (try simp only [Act.put, List.setIfInBounds_toArray, List.set_cons_zero, List.set_cons_succ])
        refine wpAnyH_ready (rs := [4, 9]) (by kernel_rfl) (by simp) (AllReadyH.cons rfl (fun K hK => ?_) (AllReadyH.cons rfl (fun K hK => ?_) AllReadyH.nil))
        · rw [if_pos (by rfl)]
          have hcv := conv_bs A0 c0 x wc hs0
          go_simp
          refine hK.out _ _ c1 (fun hHeld => ?_)
          clear hK K
          (try simp only [Act.put, List.setIfInBounds_toArray, List.set_cons_zero, List.set_cons_succ])
          clear hcv
          refine wpAnyH_ready (rs := [9]) (by kernel_rfl) (by simp) (AllReadyH.cons rfl (fun K hK => ?_) AllReadyH.nil)
          rw [if_pos (by rfl)]
          have hcv := conv_bs A1 cc x wc hs1
          go_simp
          refine hK.out _ _ c1 (fun hHeld => ?_)
          clear hK K
          (try simp only [Act.put, List.setIfInBounds_toArray, List.set_cons_zero, List.set_cons_succ])
          clear hcv
          refine wpAnyH_takeD (i := 10) (d := some 45) (v := ?v124) rfl rfl (by kernel_rfl) (by kernel_rfl) (by kernel_rfl) (fun _ _ _ h => h) (Or.inl ⟨by rfl, ?hy124⟩) hHeld ?rest124
          case hy124 =>
            intro wS hS
            go_simp
            all_goals with_reducible rfl
          (try simp only [Act.put, List.setIfInBounds_toArray, List.set_cons_zero, List.set_cons_succ])
          refine wpAnyH_takeD (i := 11) (d := some 6) (v := ?v125) rfl rfl (by kernel_rfl) (by kernel_rfl) (by kernel_rfl) (fun _ _ _ h => h) (Or.inl ⟨by rfl, ?hy125⟩) hHeld ?rest125
          case hy125 =>
            intro wS hS
            go_simp
            all_goals with_reducible rfl
          (try simp only [Act.put, List.setIfInBounds_toArray, List.set_cons_zero, List.set_cons_succ])
          refine wpAnyH_done (by kernel_rfl) ?_ _
          go_wp2_with fail
          go_ret
          exact ⟨rfl, E, q, hT, hR, hb⟩
        · rw [if_pos (by rfl)]
          have hcv := conv_bs A1 cc x wc hs1
          go_simp
          refine hK.out _ _ c1 (fun hHeld => ?_)
          clear hK K
          (try simp only [Act.put, List.setIfInBounds_toArray, List.set_cons_zero, List.set_cons_succ])
          clear hcv
          refine wpAnyH_ready (rs := [4]) (by kernel_rfl) (by simp) (AllReadyH.cons rfl (fun K hK => ?_) AllReadyH.nil)
          rw [if_pos (by rfl)]
          have hcv := conv_bs A0 c0 x wc hs0
          go_simp
          refine hK.out _ _ c1 (fun hHeld => ?_)
          clear hK K
          (try simp only [Act.put, List.setIfInBounds_toArray, List.set_cons_zero, List.set_cons_succ])
          clear hcv
          refine wpAnyH_takeD (i := 10) (d := some 45) (v := ?v126) rfl rfl (by kernel_rfl) (by kernel_rfl) (by kernel_rfl) (fun _ _ _ h => h) (Or.inl ⟨by rfl, ?hy126⟩) hHeld ?rest126
          case hy126 =>
            intro wS hS
            go_simp
            all_goals with_reducible rfl
          (try simp only [Act.put, List.setIfInBounds_toArray, List.set_cons_zero, List.set_cons_succ])
          refine wpAnyH_takeD (i := 11) (d := some 6) (v := ?v127) rfl rfl (by kernel_rfl) (by kernel_rfl) (by kernel_rfl) (fun _ _ _ h => h) (Or.inl ⟨by rfl, ?hy127⟩) hHeld ?rest127
          case hy127 =>
            intro wS hS
            go_simp
            all_goals with_reducible rfl
          (try simp only [Act.put, List.setIfInBounds_toArray, List.set_cons_zero, List.set_cons_succ])
          refine wpAnyH_done (by kernel_rfl) ?_ _
          go_wp2_with fail
          go_ret
          exact ⟨rfl, E, q, hT, hR, hb⟩
  have d2 : decide (k = 2) = false := decide_eq_false h2
  have e2 : (k == 2) = false := by simpa using h2
  by_cases h3 : k = 3
  case pos =>
    subst h3
    have HU := hid (fun W (hW : Tk W g err p l) => ttext_any g err p n l W hW hlen)
    have HN := hid (fun W (hW : Rk W g2 err p l) => rtktext_any g2 err p n l W hW hlen hn)
    generalize textR (err, p) l n = R at *
    obtain ⟨⟨E, q⟩, x⟩ := R
    go_enter Try.func22, Try.ntmps22
    go_wp2_with fail
    generalize w.alloc (.cells #[.int .i64 3, .int .i64 n, .string s] 54) = w0 at *
    clear c0
    clear cS
    have c1 := cN
    clear cN
    · skip
      refine wp_region_held_drew (S := fun W => W.cell? ⟨w.heap.size, 1, none⟩ = some (.int .i64 n)) (by kernel_rfl) c1 (fun hHeld => ?_)
      replace hT : Tk w0.drew g err p l := hT
      replace hR : Rk w0.drew g2 err p l := hR
      replace hb : Below B w w0.drew := hb.drew
      replace c1 : w0.drew.cell? ⟨w.heap.size, 1, none⟩ = some (.int .i64 n) := c1
      generalize w0.drew = wd at *
      refine wpAnyH_takeD (i := 0) (d := some 48) (v := ?v128) rfl rfl (by kernel_rfl) (by kernel_rfl) (by kernel_rfl) (fun _ _ _ h => h) (Or.inl ⟨by rfl, ?hy128⟩) hHeld ?rest128
      case hy128 =>
        intro wS hS
        go_simp
        all_goals with_reducible rfl
      (try simp only [Act.put, List.setIfInBounds_toArray, List.set_cons_zero, List.set_cons_succ])
      refine wpAnyH_takeD (i := 1) (d := some 49) (v := ?v129) rfl rfl (by kernel_rfl) (by kernel_rfl) (by kernel_rfl) (fun _ _ _ h => h) (Or.inl ⟨by rfl, ?hy129⟩) hHeld ?rest129
      case hy129 =>
        intro wS hS
        go_simp
        all_goals with_reducible rfl
      (try simp only [Act.put, List.setIfInBounds_toArray, List.set_cons_zero, List.set_cons_succ])
      refine wpAnyH_takeD (i := 4) (d := some 52) (v := ?v130) rfl rfl (by kernel_rfl) (by kernel_rfl) (by kernel_rfl) (fun _ _ _ h => h) (Or.inl ⟨by rfl, ?hy130⟩) hHeld ?rest130
      case hy130 =>
        intro wS hS
        go_simp
        all_goals with_reducible rfl
      (try simp only [Act.put, List.setIfInBounds_toArray, List.set_cons_zero, List.set_cons_succ])
      refine wpAnyH_takeD (i := 5) (d := some 53) (v := ?v131) rfl rfl (by kernel_rfl) (by kernel_rfl) (by kernel_rfl) (fun _ _ _ h => h) (Or.inl ⟨by rfl, ?hy131⟩) hHeld ?rest131
      case hy131 =>
        intro wS hS
        go_simp
        all_goals with_reducible rfl
      (try simp only [Act.put, List.setIfInBounds_toArray, List.set_cons_zero, List.set_cons_succ])
      refine wpAnyH_takeD (i := 2) (d := some 50) (v := ?v132) rfl rfl (by kernel_rfl) (by kernel_rfl) (by kernel_rfl) (fun _ _ _ h => h) (Or.inl ⟨by rfl, ?hy132⟩) hHeld ?rest132
      case hy132 =>
        intro wS hS
        go_simp
        all_goals with_reducible rfl
      (try simp only [Act.put, List.setIfInBounds_toArray, List.set_cons_zero, List.set_cons_succ])
      refine wpAnyH_takeD (i := 6) (d := some 54) (v := ?v133) rfl rfl (by kernel_rfl) (by kernel_rfl) (by kernel_rfl) (fun _ _ _ h => h) (Or.inl ⟨by rfl, ?hy133⟩) hHeld ?rest133
      case hy133 =>
        intro wS hS
        go_simp
        all_goals with_reducible rfl
      (try simp only [Act.put, List.setIfInBounds_toArray, List.set_cons_zero, List.set_cons_succ])
      refine wpAnyH_ready (rs := [3]) (by kernel_rfl) (by simp) (AllReadyH.cons rfl (fun K hK => ?_) AllReadyH.nil)
      rw [if_pos (by rfl)]
      go_simp
      refine (HU.out _ hT).mono ?_
      rintro e wa ⟨rfl, hTa, hBa⟩
      replace hR := hR.butTk hT hBa hne2
      replace c1 := but_cell hBa c1 hG1
      replace hb := but_bel hb hBa hB1 hBw
      clear hT
      have hT := hTa
      clear hTa
      clear hBa
      go_wp2_with fail
      refine hK.out _ _ c1 (fun hHeld => ?_)
      clear hK K
      (try simp only [Act.put, List.setIfInBounds_toArray, List.set_cons_zero, List.set_cons_succ])
      refine wpAnyH_ready (rs := [7]) (by kernel_rfl) (by simp) (AllReadyH.cons rfl (fun K hK => ?_) AllReadyH.nil)
      rw [if_pos (by rfl)]
      go_simp
      refine (HN.out _ hR).mono ?_
      rintro e wc ⟨rfl, hRa, hBc⟩
      replace hT := hT.butRk hR hBc hne
      replace c1 := but_cell hBc c1 hG2
      replace hb := but_bel hb hBc hB2 hBw
      clear hR
      have hR := hRa
      clear hRa
      clear hBc
      go_wp2_with fail
      refine hK.out _ _ c1 (fun hHeld => ?_)
      clear hK K
      (try simp only [Act.put, List.setIfInBounds_toArray, List.set_cons_zero, List.set_cons_succ])
      refine wpAnyH_takeD (i := 8) (d := some 56) (v := ?v134) rfl rfl (by kernel_rfl) (by kernel_rfl) (by kernel_rfl) (fun _ _ _ h => h) (Or.inl ⟨by rfl, ?hy134⟩) hHeld ?rest134
      case hy134 =>
        intro wS hS
        go_simp
        all_goals with_reducible rfl
      (try simp only [Act.put, List.setIfInBounds_toArray, List.set_cons_zero, List.set_cons_succ])
      refine wpAnyH_takeD (i := 9) (d := some 6) (v := ?v135) rfl rfl (by kernel_rfl) (by kernel_rfl) (by kernel_rfl) (fun _ _ _ h => h) (Or.inl ⟨by rfl, ?hy135⟩) hHeld ?rest135
      case hy135 =>
        intro wS hS
        go_simp
        all_goals with_reducible rfl
      (try simp only [Act.put, List.setIfInBounds_toArray, List.set_cons_zero, List.set_cons_succ])
      refine wpAnyH_done (by kernel_rfl) ?_ _
      go_wp2_with fail
      go_ret
      exact ⟨rfl, E, q, hT, hR, hb⟩
  have d3 : decide (k = 3) = false := decide_eq_false h3
  have e3 : (k == 3) = false := by simpa using h3
  by_cases h4 : k = 4
  case pos =>
    subst h4
    have hxl : s.data.toList.length = s.size := by rw [Array.length_toList]; rfl
    have HCV := hid (fun W => conv_sb s W)
    obtain ⟨x, hx⟩ : ∃ x, x = s.data.toList := ⟨_, rfl⟩
    rw [← hx] at HCV hxl
    have HU := hid (fun (W : World) (A1 : Option Addr) (k1 : Nat) (hW : Tk W g err p l) (hs : SeesB W A1 x) (hA : ∀ a, A1 = some a → a.block ≠ g) => tisb_any g err p l A1 k1 x W hW hs hA hlen (by omega))
    have HN := hid (fun (W : World) (A1 : Option Addr) (k1 : Nat) (hW : Rk W g2 err p l) (hs : SeesB W A1 x) => ris_any g2 err p l A1 k1 x W hW hs hlen (by omega))
    generalize tisR (err, p) l x = R at *
    obtain ⟨⟨E, q⟩, bo⟩ := R
    have hz : s.size = x.length := hxl.symm
    rw [hz] at HCV
    clear hx hxl hz hsz
    go_enter Try.func22, Try.ntmps22
    go_wp2_with fail
    generalize w.alloc (.cells #[.int .i64 4, .int .i64 n, .string s] 54) = w0 at *
    clear c0
    clear cN
    have c1 := cS
    clear cS
    · skip
      refine wp_region_held_drew (S := fun W => W.cell? ⟨w.heap.size, 2, none⟩ = some (.string s)) (by kernel_rfl) c1 (fun hHeld => ?_)
      replace hT : Tk w0.drew g err p l := hT
      replace hR : Rk w0.drew g2 err p l := hR
      replace hb : Below B w w0.drew := hb.drew
      replace c1 : w0.drew.cell? ⟨w.heap.size, 2, none⟩ = some (.string s) := c1
      generalize w0.drew = wd at *
      refine wpAnyH_takeD (i := 0) (d := some 59) (v := ?v136) rfl rfl (by kernel_rfl) (by kernel_rfl) (by kernel_rfl) (fun _ _ _ h => h) (Or.inl ⟨by rfl, ?hy136⟩) hHeld ?rest136
      case hy136 =>
        intro wS hS
        go_simp
        all_goals with_reducible rfl
      (try simp only [Act.put, List.setIfInBounds_toArray, List.set_cons_zero, List.set_cons_succ])
      refine wpAnyH_takeD (i := 1) (d := some 60) (v := ?v137) rfl rfl (by kernel_rfl) (by kernel_rfl) (by kernel_rfl) (fun _ _ _ h => h) (Or.inl ⟨by rfl, ?hy137⟩) hHeld ?rest137
      case hy137 =>
        intro wS hS
        go_simp
        all_goals with_reducible rfl
      (try simp only [Act.put, List.setIfInBounds_toArray, List.set_cons_zero, List.set_cons_succ])
      refine wpAnyH_takeD (i := 5) (d := some 64) (v := ?v138) rfl rfl (by kernel_rfl) (by kernel_rfl) (by kernel_rfl) (fun _ _ _ h => h) (Or.inl ⟨by rfl, ?hy138⟩) hHeld ?rest138
      case hy138 =>
        intro wS hS
        go_simp
        all_goals with_reducible rfl
      (try simp only [Act.put, List.setIfInBounds_toArray, List.set_cons_zero, List.set_cons_succ])
      refine wpAnyH_takeD (i := 6) (d := some 65) (v := ?v139) rfl rfl (by kernel_rfl) (by kernel_rfl) (by kernel_rfl) (fun _ _ _ h => h) (Or.inl ⟨by rfl, ?hy139⟩) hHeld ?rest139
      case hy139 =>
        intro wS hS
        go_simp
        all_goals with_reducible rfl
      (try simp only [Act.put, List.setIfInBounds_toArray, List.set_cons_zero, List.set_cons_succ])
      refine wpAnyH_takeD (i := 2) (d := some 61) (v := ?v140) rfl rfl (by kernel_rfl) (by kernel_rfl) (by kernel_rfl) (fun _ _ _ h => h) (Or.inl ⟨by rfl, ?hy140⟩) hHeld ?rest140
      case hy140 =>
        intro wS hS
        go_simp
        all_goals with_reducible rfl
      (try simp only [Act.put, List.setIfInBounds_toArray, List.set_cons_zero, List.set_cons_succ])
      refine wpAnyH_takeD (i := 7) (d := some 66) (v := ?v141) rfl rfl (by kernel_rfl) (by kernel_rfl) (by kernel_rfl) (fun _ _ _ h => h) (Or.inl ⟨by rfl, ?hy141⟩) hHeld ?rest141
      case hy141 =>
        intro wS hS
        go_simp
        all_goals with_reducible rfl
      (try simp only [Act.put, List.setIfInBounds_toArray, List.set_cons_zero, List.set_cons_succ])
      refine wpAnyH_ready (rs := [3, 8]) (by kernel_rfl) (by simp) (AllReadyH.cons rfl (fun K hK => ?_) (AllReadyH.cons rfl (fun K hK => ?_) AllReadyH.nil))
      · rw [if_pos (by rfl)]
        obtain ⟨ca, wa, hcv, hbn, hsa, _⟩ := HCV.out wd
        have h9ca : wd.heap.size < wd.heap.size + 1 := Nat.lt_succ_self _
        go_simp
        replace hT := hT.below hbn
        replace hR := hR.below hbn
        replace c1 := (hbn.cell (p := ⟨w.heap.size, 2, none⟩) (block_lt_of_cell c1)).trans c1
        have h8ca : B ≤ wd.heap.size := Nat.le_trans hBw hb.size
        have h7ca : w.heap.size ≤ wd.heap.size := hb.size
        replace hb := hb.trans (hbn.mono h8ca)
        clear hbn hcv h9ca
        obtain ⟨Gca, hGca⟩ : ∃ G, G = wd.heap.size := ⟨_, rfl⟩
        rw [← hGca] at hsa h8ca h7ca ⊢
        clear hGca
        refine hK.out _ _ c1 (fun hHeld => ?_)
        clear hK K
        (try simp only [Act.put, List.setIfInBounds_toArray, List.set_cons_zero, List.set_cons_succ])
        refine wpAnyH_ready (rs := [4, 8]) (by kernel_rfl) (by simp) (AllReadyH.cons rfl (fun K hK => ?_) (AllReadyH.cons rfl (fun K hK => ?_) AllReadyH.nil))
        · rw [if_pos (by rfl)]
          go_simp
          refine (HU.out _ _ ca hT hsa (fun a ha => by injection ha with ha; subst ha; show Gca ≠ g; omega)).mono ?_
          rintro e wc ⟨rfl, hTa, hBa⟩
          replace hR := hR.butTk hT hBa hne2
          replace c1 := but_cell hBa c1 hG1
          replace hb := but_bel hb hBa hB1 hBw
          clear hT
          have hT := hTa
          clear hTa
          clear hBa
          go_wp2_with fail
          refine hK.out _ _ c1 (fun hHeld => ?_)
          clear hK K
          (try simp only [Act.put, List.setIfInBounds_toArray, List.set_cons_zero, List.set_cons_succ])
          refine wpAnyH_ready (rs := [8]) (by kernel_rfl) (by simp) (AllReadyH.cons rfl (fun K hK => ?_) AllReadyH.nil)
          rw [if_pos (by rfl)]
          obtain ⟨cb, we, hcv, hbn, hsb, _⟩ := HCV.out wc
          have h9cb : wc.heap.size < wc.heap.size + 1 := Nat.lt_succ_self _
          go_simp
          replace hT := hT.below hbn
          replace hR := hR.below hbn
          replace c1 := (hbn.cell (p := ⟨w.heap.size, 2, none⟩) (block_lt_of_cell c1)).trans c1
          have h8cb : B ≤ wc.heap.size := Nat.le_trans hBw hb.size
          have h7cb : w.heap.size ≤ wc.heap.size := hb.size
          replace hb := hb.trans (hbn.mono h8cb)
          clear hbn hcv h9cb
          obtain ⟨Gcb, hGcb⟩ : ∃ G, G = wc.heap.size := ⟨_, rfl⟩
          rw [← hGcb] at hsb h8cb h7cb ⊢
          clear hGcb
          refine hK.out _ _ c1 (fun hHeld => ?_)
          clear hK K
          (try simp only [Act.put, List.setIfInBounds_toArray, List.set_cons_zero, List.set_cons_succ])
          refine wpAnyH_ready (rs := [9]) (by kernel_rfl) (by simp) (AllReadyH.cons rfl (fun K hK => ?_) AllReadyH.nil)
          rw [if_pos (by rfl)]
          go_simp
          refine (HN.out _ _ cb hR hsb).mono ?_
          rintro e wf ⟨rfl, hRa, hBc⟩
          replace hT := hT.butRk hR hBc hne
          replace c1 := but_cell hBc c1 hG2
          replace hb := but_bel hb hBc hB2 hBw
          clear hR
          have hR := hRa
          clear hRa
          clear hBc
          go_wp2_with fail
          refine hK.out _ _ c1 (fun hHeld => ?_)
          clear hK K
          (try simp only [Act.put, List.setIfInBounds_toArray, List.set_cons_zero, List.set_cons_succ])
          refine wpAnyH_takeD (i := 10) (d := some 69) (v := ?v142) rfl rfl (by kernel_rfl) (by kernel_rfl) (by kernel_rfl) (fun _ _ _ h => h) (Or.inl ⟨by rfl, ?hy142⟩) hHeld ?rest142
          case hy142 =>
            intro wS hS
            go_simp
            all_goals with_reducible rfl
          (try simp only [Act.put, List.setIfInBounds_toArray, List.set_cons_zero, List.set_cons_succ])
          refine wpAnyH_takeD (i := 11) (d := some 6) (v := ?v143) rfl rfl (by kernel_rfl) (by kernel_rfl) (by kernel_rfl) (fun _ _ _ h => h) (Or.inl ⟨by rfl, ?hy143⟩) hHeld ?rest143
          case hy143 =>
            intro wS hS
            go_simp
            all_goals with_reducible rfl
          (try simp only [Act.put, List.setIfInBounds_toArray, List.set_cons_zero, List.set_cons_succ])
          refine wpAnyH_done (by kernel_rfl) ?_ _
          go_wp2_with fail
          go_ret
          exact ⟨rfl, E, q, hT, hR, hb⟩
        · rw [if_pos (by rfl)]
          obtain ⟨cb, wc, hcv, hbn, hsb, _⟩ := HCV.out wa
          have h9cb : wa.heap.size < wa.heap.size + 1 := Nat.lt_succ_self _
          go_simp
          replace hT := hT.below hbn
          replace hR := hR.below hbn
          replace c1 := (hbn.cell (p := ⟨w.heap.size, 2, none⟩) (block_lt_of_cell c1)).trans c1
          have h8cb : B ≤ wa.heap.size := Nat.le_trans hBw hb.size
          have h7cb : w.heap.size ≤ wa.heap.size := hb.size
          replace hb := hb.trans (hbn.mono h8cb)
          replace hsa := hsa.below hbn
          clear hbn hcv h9cb
          obtain ⟨Gcb, hGcb⟩ : ∃ G, G = wa.heap.size := ⟨_, rfl⟩
          rw [← hGcb] at hsb h8cb h7cb ⊢
          clear hGcb
          refine hK.out _ _ c1 (fun hHeld => ?_)
          clear hK K
          (try simp only [Act.put, List.setIfInBounds_toArray, List.set_cons_zero, List.set_cons_succ])
          refine wpAnyH_ready (rs := [4]) (by kernel_rfl) (by simp) (AllReadyH.cons rfl (fun K hK => ?_) AllReadyH.nil)
          rw [if_pos (by rfl)]
          have hot := hid (fun (W : World) (hBx : But (Only g) wc W) => show SeesB W (some ⟨Gcb, 0, none⟩) x by
            obtain ⟨A9, k9, hg9, _⟩ := hT
            exact SeesB.butTyped hsb hBx hg9 (tk_row _ _ _ _ _))
          go_simp
          refine (HU.out _ _ ca hT hsa (fun a ha => by injection ha with ha; subst ha; show Gca ≠ g; omega)).mono ?_
          rintro e we ⟨rfl, hTa, hBa⟩
          replace hR := hR.butTk hT hBa hne2
          replace c1 := but_cell hBa c1 hG1
          replace hb := but_bel hb hBa hB1 hBw
          clear hT
          have hT := hTa
          clear hTa
          replace hsb := hot.out _ hBa
          clear hot
          clear hBa
          go_wp2_with fail
          refine hK.out _ _ c1 (fun hHeld => ?_)
          clear hK K
          (try simp only [Act.put, List.setIfInBounds_toArray, List.set_cons_zero, List.set_cons_succ])
          refine wpAnyH_ready (rs := [9]) (by kernel_rfl) (by simp) (AllReadyH.cons rfl (fun K hK => ?_) AllReadyH.nil)
          rw [if_pos (by rfl)]
          go_simp
          refine (HN.out _ _ cb hR hsb).mono ?_
          rintro e wf ⟨rfl, hRa, hBc⟩
          replace hT := hT.butRk hR hBc hne
          replace c1 := but_cell hBc c1 hG2
          replace hb := but_bel hb hBc hB2 hBw
          clear hR
          have hR := hRa
          clear hRa
          clear hBc
          go_wp2_with fail
          refine hK.out _ _ c1 (fun hHeld => ?_)
          clear hK K
          (try simp only [Act.put, List.setIfInBounds_toArray, List.set_cons_zero, List.set_cons_succ])
          refine wpAnyH_takeD (i := 10) (d := some 69) (v := ?v144) rfl rfl (by kernel_rfl) (by kernel_rfl) (by kernel_rfl) (fun _ _ _ h => h) (Or.inl ⟨by rfl, ?hy144⟩) hHeld ?rest144
          case hy144 =>
            intro wS hS
            go_simp
            all_goals with_reducible rfl
          (try simp only [Act.put, List.setIfInBounds_toArray, List.set_cons_zero, List.set_cons_succ])
          refine wpAnyH_takeD (i := 11) (d := some 6) (v := ?v145) rfl rfl (by kernel_rfl) (by kernel_rfl) (by kernel_rfl) (fun _ _ _ h => h) (Or.inl ⟨by rfl, ?hy145⟩) hHeld ?rest145
          case hy145 =>
            intro wS hS
            go_simp
            all_goals with_reducible rfl
          (try simp only [Act.put, List.setIfInBounds_toArray, List.set_cons_zero, List.set_cons_succ])
          refine wpAnyH_done (by kernel_rfl) ?_ _
          go_wp2_with fail
          go_ret
          exact ⟨rfl, E, q, hT, hR, hb⟩
      · rw [if_pos (by rfl)]
        obtain ⟨cb, wa, hcv, hbn, hsb, _⟩ := HCV.out wd
        have h9cb : wd.heap.size < wd.heap.size + 1 := Nat.lt_succ_self _
        go_simp
        replace hT := hT.below hbn
        replace hR := hR.below hbn
        replace c1 := (hbn.cell (p := ⟨w.heap.size, 2, none⟩) (block_lt_of_cell c1)).trans c1
        have h8cb : B ≤ wd.heap.size := Nat.le_trans hBw hb.size
        have h7cb : w.heap.size ≤ wd.heap.size := hb.size
        replace hb := hb.trans (hbn.mono h8cb)
        clear hbn hcv h9cb
        obtain ⟨Gcb, hGcb⟩ : ∃ G, G = wd.heap.size := ⟨_, rfl⟩
        rw [← hGcb] at hsb h8cb h7cb ⊢
        clear hGcb
        refine hK.out _ _ c1 (fun hHeld => ?_)
        clear hK K
        (try simp only [Act.put, List.setIfInBounds_toArray, List.set_cons_zero, List.set_cons_succ])
        refine wpAnyH_ready (rs := [3]) (by kernel_rfl) (by simp) (AllReadyH.cons rfl (fun K hK => ?_) AllReadyH.nil)
        rw [if_pos (by rfl)]
        obtain ⟨ca, wc, hcv, hbn, hsa, _⟩ := HCV.out wa
        have h9ca : wa.heap.size < wa.heap.size + 1 := Nat.lt_succ_self _
        go_simp
        replace hT := hT.below hbn
        replace hR := hR.below hbn
        replace c1 := (hbn.cell (p := ⟨w.heap.size, 2, none⟩) (block_lt_of_cell c1)).trans c1
        have h8ca : B ≤ wa.heap.size := Nat.le_trans hBw hb.size
        have h7ca : w.heap.size ≤ wa.heap.size := hb.size
        replace hb := hb.trans (hbn.mono h8ca)
        replace hsb := hsb.below hbn
        clear hbn hcv h9ca
        obtain ⟨Gca, hGca⟩ : ∃ G, G = wa.heap.size := ⟨_, rfl⟩
        rw [← hGca] at hsa h8ca h7ca ⊢
        clear hGca
        refine hK.out _ _ c1 (fun hHeld => ?_)
        clear hK K
        (try simp only [Act.put, List.setIfInBounds_toArray, List.set_cons_zero, List.set_cons_succ])
        refine wpAnyH_ready (rs := [4]) (by kernel_rfl) (by simp) (AllReadyH.cons rfl (fun K hK => ?_) AllReadyH.nil)
        rw [if_pos (by rfl)]
        have hot := hid (fun (W : World) (hBx : But (Only g) wc W) => show SeesB W (some ⟨Gcb, 0, none⟩) x by
          obtain ⟨A9, k9, hg9, _⟩ := hT
          exact SeesB.butTyped hsb hBx hg9 (tk_row _ _ _ _ _))
        go_simp
        refine (HU.out _ _ ca hT hsa (fun a ha => by injection ha with ha; subst ha; show Gca ≠ g; omega)).mono ?_
        rintro e we ⟨rfl, hTa, hBa⟩
        replace hR := hR.butTk hT hBa hne2
        replace c1 := but_cell hBa c1 hG1
        replace hb := but_bel hb hBa hB1 hBw
        clear hT
        have hT := hTa
        clear hTa
        replace hsb := hot.out _ hBa
        clear hot
        clear hBa
        go_wp2_with fail
        refine hK.out _ _ c1 (fun hHeld => ?_)
        clear hK K
        (try simp only [Act.put, List.setIfInBounds_toArray, List.set_cons_zero, List.set_cons_succ])
        refine wpAnyH_ready (rs := [9]) (by kernel_rfl) (by simp) (AllReadyH.cons rfl (fun K hK => ?_) AllReadyH.nil)
        rw [if_pos (by rfl)]
        go_simp
        refine (HN.out _ _ cb hR hsb).mono ?_
        rintro e wf ⟨rfl, hRa, hBc⟩
        replace hT := hT.butRk hR hBc hne
        replace c1 := but_cell hBc c1 hG2
        replace hb := but_bel hb hBc hB2 hBw
        clear hR
        have hR := hRa
        clear hRa
        clear hBc
        go_wp2_with fail
        refine hK.out _ _ c1 (fun hHeld => ?_)
        clear hK K
        (try simp only [Act.put, List.setIfInBounds_toArray, List.set_cons_zero, List.set_cons_succ])
        refine wpAnyH_takeD (i := 10) (d := some 69) (v := ?v146) rfl rfl (by kernel_rfl) (by kernel_rfl) (by kernel_rfl) (fun _ _ _ h => h) (Or.inl ⟨by rfl, ?hy146⟩) hHeld ?rest146
        case hy146 =>
          intro wS hS
          go_simp
          all_goals with_reducible rfl
        (try simp only [Act.put, List.setIfInBounds_toArray, List.set_cons_zero, List.set_cons_succ])
        refine wpAnyH_takeD (i := 11) (d := some 6) (v := ?v147) rfl rfl (by kernel_rfl) (by kernel_rfl) (by kernel_rfl) (fun _ _ _ h => h) (Or.inl ⟨by rfl, ?hy147⟩) hHeld ?rest147
        case hy147 =>
          intro wS hS
          go_simp
          all_goals with_reducible rfl
        (try simp only [Act.put, List.setIfInBounds_toArray, List.set_cons_zero, List.set_cons_succ])
        refine wpAnyH_done (by kernel_rfl) ?_ _
        go_wp2_with fail
        go_ret
        exact ⟨rfl, E, q, hT, hR, hb⟩
  have d4 : decide (k = 4) = false := decide_eq_false h4
  have e4 : (k == 4) = false := by simpa using h4
  clear h0 h1 h2 h3 h4
  go_enter Try.func22, Try.ntmps22
  go_wp2_with fail
  go_ret
  exact ⟨rfl, err, p, hT, hR, hb⟩
end Go.Proofs.Ytbcddeiicneajaa
