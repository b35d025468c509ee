/- Sound that is not heard: the reference's. -/
import Derived.Test.YtfinefhebffpcaaPcmPart
namespace Go.Proofs.Ytfinefhebffpcaa
set_option linter.unusedVariables false
open Go.RowKit
theorem mkI_n (n : Nat) (hn : n ≤ 8796093022208) (w : World) : (Instr.makeSlice 34 (.int .i64 (n : Int)) (.int .i64 (n : Int))).run Try.prog w =
    .ok (.slice (some ⟨w.heap.size, 0, none⟩) n n) (w.alloc (.cells (madeCells #[.int .i64 0] n) 3)) := by
  obtain ⟨i, h0, h1, h2, h3⟩ := info_parts mkI_info
  have hr := run_make (P := Try.prog) w 34 3 i (.int .i64 0) Try.underlying34 h0 h1 .i64 .i64 n n (by omega) (by omega) (by rw [h3]; omega) (by omega)
  simp only [Int.toNat_natCast, h2, Nat.mul_one] at hr
  exact hr
/-- rows of numbers at blocks that lie one behind the other -/
def Rows5 (w : World) (gs : List Nat) (f : Nat → List Int) : Prop := (∀ (i : Nat) (h : i < gs.length), w.heap[gs[i]]? = some (.cells ((f i).map intV).toArray 3 (0, 0))) ∧ gs.Pairwise (· < ·)
theorem Rows5.keep {w w' : World} {gs : List Nat} {f : Nat → List Int} (h : Rows5 w gs f) (hb : Below w.heap.size w w') : Rows5 w' gs f := ⟨fun i hi => (hb.block _ (Array.getElem?_eq_some_iff.1 (h.1 i hi)).1).trans (h.1 i hi), h.2⟩
theorem Rows5.lt {w : World} {gs : List Nat} {f : Nat → List Int} (h : Rows5 w gs f) : ∀ g ∈ gs, g < w.heap.size := by
  intro g hg
  obtain ⟨i, hi, rfl⟩ := List.getElem_of_mem hg
  exact (Array.getElem?_eq_some_iff.1 (h.1 i hi)).1
theorem Rows5.grown {w w' : World} {base n : Nat} {v : Value} {xs : List Value} {gs : List Nat} {f : Nat → List Int} (h : Rows5 w gs f) (ho : w.ownsRow base 34 1 v n xs) (hg : w.grownBy w' v.ownBlock) : Rows5 w' gs f :=
  ⟨fun i hi => (hg.block _ (Array.getElem?_eq_some_iff.1 (h.1 i hi)).1 (fun he => own_other ho (h.1 i hi) (by decide) he.symm)).trans (h.1 i hi), h.2⟩
theorem Rows5.set {w : World} {gs : List Nat} {f : Nat → List Int} (h : Rows5 w gs f) {a : Addr} (ha : ∀ g ∈ gs, g ≠ a.block) (u : Value) : Rows5 (w.setCell a u) gs f :=
  ⟨fun i hi => (heap_setCell_other w a _ u (ha _ (List.getElem_mem hi))).trans (h.1 i hi), h.2⟩
theorem Rows5.snoc {w : World} {gs : List Nat} {N g : Nat} (h : Rows5 w gs fun _ => List.replicate N 0) (hn : w.heap[g]? = some (.cells (madeCells #[.int .i64 0] N) 3 (0, 0))) (hlt : ∀ x ∈ gs, x < g) : Rows5 w (gs ++ [g]) fun _ => List.replicate N 0 := by
  refine ⟨fun i hi => ?_, ?_⟩
  · by_cases hl : i < gs.length
    · rw [List.getElem_append_left hl]; exact h.1 i hl
    · have : i = gs.length := by simp at hi; omega
      subst this
      simp only [List.getElem_concat_length]
      rw [hn]
      congr 2
      apply Array.ext'
      rw [toList_madeCells_one]
      simp [intV]
  · rw [List.pairwise_append]
    exact ⟨h.2, by simp, fun a ha b hb => by simp at hb; subst hb; exact hlt a ha⟩
def SilPost (w : World) (ch : Nat) (bi ra : Int) (N : Nat) (e : Ending) (w' : World) : Prop :=
  ∃ (A : Option Addr) (c : Nat) (gs : List Nat), e = .returned (.agg #[.int .i64 (ch : Int), .int .i64 bi, .int .i64 ra, .slice A ch c]) ∧ gs.length = ch ∧ w'.ownsRow (w.heap.size + 3) 34 1 (.slice A ch c) ch (gs.map fun g => Value.slice (some ⟨g, 0, none⟩) N N) ∧ Rows5 w' gs (fun _ => List.replicate N 0) ∧ (∀ g ∈ gs, w.heap.size + 3 ≤ g) ∧ Below w.heap.size w w'
set_option maxRecDepth 20000 in
set_option maxHeartbeats 8000000 in
theorem rsil_any (ch N : Nat) (bi ra : Int) (w : World) (hch : ch ≤ 8) (hN : N ≤ 8796093022208) :
    Calls Try.prog 28 #[.agg #[.int .i64 (ch : Int), .int .i64 bi, .int .i64 ra], .int .i64 (N : Int)] w (SilPost w ch bi ra N) := by
  go_enter Try.func28, Try.ntmps28
  go_wp2_with fail
  obtain ⟨w3, hw3, r0, r1, r2, hb3, hs3⟩ : ∃ w3, w3 = ((w.alloc (.cells #[.int .i64 (ch : Int), .int .i64 bi, .int .i64 ra] 23)).alloc (.cells #[.int .i64 0, .int .i64 0, .int .i64 0, .slice none 0 0] 26)).alloc (.cells #[.int .i64 (ch : Int), .int .i64 bi, .int .i64 ra, .slice none 0 0] 26) ∧ w3.heap[w.heap.size]? = some (.cells #[.int .i64 (ch : Int), .int .i64 bi, .int .i64 ra] 23 (0, 0)) ∧
      w3.heap[w.heap.size + 1]? = some (.cells #[.int .i64 0, .int .i64 0, .int .i64 0, .slice none 0 0] 26 (0, 0)) ∧ w3.heap[w.heap.size + 1 + 1]? = some (.cells #[.int .i64 (ch : Int), .int .i64 bi, .int .i64 ra, .slice none 0 0] 26 (0, 0)) ∧ Below w.heap.size w w3 ∧ w.heap.size + 3 ≤ w3.heap.size := by
    have s1 : (w.alloc (.cells #[.int .i64 (ch : Int), .int .i64 bi, .int .i64 ra] 23)).heap.size = w.heap.size + 1 := by simp
    have s2 : ((w.alloc (.cells #[.int .i64 (ch : Int), .int .i64 bi, .int .i64 ra] 23)).alloc (.cells #[.int .i64 0, .int .i64 0, .int .i64 0, .slice none 0 0] 26)).heap.size = w.heap.size + 1 + 1 := by simp
    have n1 := heap_alloc_new (w.alloc (.cells #[.int .i64 (ch : Int), .int .i64 bi, .int .i64 ra] 23)) (.cells #[.int .i64 0, .int .i64 0, .int .i64 0, .slice none 0 0] 26)
    have n2 := heap_alloc_new ((w.alloc (.cells #[.int .i64 (ch : Int), .int .i64 bi, .int .i64 ra] 23)).alloc (.cells #[.int .i64 0, .int .i64 0, .int .i64 0, .slice none 0 0] 26)) (.cells #[.int .i64 (ch : Int), .int .i64 bi, .int .i64 ra, .slice none 0 0] 26)
    rw [s1] at n1
    rw [s2] at n2
    exact ⟨_, rfl, (Below.heap_alloc _ _ _ (by omega)).trans ((Below.heap_alloc _ _ _ (by omega)).trans (heap_alloc_new w _)), (Below.heap_alloc _ _ _ (by omega)).trans n1, n2, (((Below.refl _ w).alloc (Nat.le_refl _) _).alloc (by simp) _).alloc (by simp; omega) _, by simp⟩
  rw [← hw3]
  clear hw3
  go_loopw [6] (fun i wr => ∃ (k : Nat) (gs : List Nat) (A : Option Addr) (c : Nat), k ≤ ch ∧ i = .int .i64 (k : Int) ∧ wr.heap[w.heap.size + 1 + 1]? = some (.cells #[.int .i64 (ch : Int), .int .i64 bi, .int .i64 ra, .slice A k c] 26 (0, 0)) ∧ wr.ownsRow (w.heap.size + 3) 34 1 (.slice A k c) k (gs.map fun g => Value.slice (some ⟨g, 0, none⟩) N N) ∧ Rows5 wr gs (fun _ => List.replicate N 0) ∧ (∀ g ∈ gs, w.heap.size + 3 ≤ g) ∧
      wr.heap[w.heap.size + 1]? = some (.cells #[.int .i64 0, .int .i64 0, .int .i64 0, .slice none 0 0] 26 (0, 0)) ∧ wr.heap[w.heap.size]? = some (.cells #[.int .i64 (ch : Int), .int .i64 bi, .int .i64 ra] 23 (0, 0)) ∧ Below w.heap.size w wr ∧ w.heap.size + 3 ≤ wr.heap.size) (fun i _ => ch - (intOf i).toNat)
  case atStart => exact ⟨0, [], none, 0, by omega, rfl, r2, own_nil _ _ _ _, ⟨fun i hi => by simp at hi, by simp⟩, by simp, r1, r0, hb3, hs3⟩
  case round =>
    clear r0 r1 r2 hb3 hs3
    obtain ⟨k, gs, A, c, hk, rfl, r2, ho, hG, hGB, r1, r0, hb, hs⟩ := hrel
    have c0 : wr.cell? ⟨w.heap.size, 0, none⟩ = some (.int .i64 (ch : Int)) := by rw [cell_of_row _ _ _ _ _ _ r0]; rfl
    by_cases hlt : k < ch
    · have dk : decide ((k : Int) < (ch : Int)) = true := decide_eq_true (by omega)
      go_wp2_with fail
      clear c0
      replace r2 : wr.drew.heap[w.heap.size + 1 + 1]? = some (.cells #[.int .i64 (ch : Int), .int .i64 bi, .int .i64 ra, .slice A k c] 26 (0, 0)) := r2
      replace r1 : wr.drew.heap[w.heap.size + 1]? = some (.cells #[.int .i64 0, .int .i64 0, .int .i64 0, .slice none 0 0] 26 (0, 0)) := r1
      replace r0 : wr.drew.heap[w.heap.size]? = some (.cells #[.int .i64 (ch : Int), .int .i64 bi, .int .i64 ra] 23 (0, 0)) := r0
      replace ho : wr.drew.ownsRow (w.heap.size + 3) 34 1 (.slice A k c) k (gs.map fun g => Value.slice (some ⟨g, 0, none⟩) N N) := ho
      replace hG : Rows5 wr.drew gs (fun _ => List.replicate N 0) := hG
      replace hb : Below w.heap.size w wr.drew := hb.drew
      replace hs : w.heap.size + 3 ≤ wr.drew.heap.size := hs
      · skip
        refine wp_region_held_drew (S := fun _ => True) (by kernel_rfl) trivial (fun hHeld => ?_)
        generalize wr.drew = wd at *
        refine wpAnyH_takeD (i := 0) (d := some 15) (v := ?v100) rfl rfl (by kernel_rfl) (by kernel_rfl) (by kernel_rfl) (fun _ _ _ h => h) (Or.inl ⟨by rfl, ?hy100⟩) hHeld ?rest100
        case hy100 =>
          intro wS hS
          go_simp
          all_goals with_reducible rfl
        (try simp only [Act.put, List.setIfInBounds_toArray, List.set_cons_zero, List.set_cons_succ])
        refine wpAnyH_takeD (i := 2) (d := some 17) (v := ?v101) rfl rfl (by kernel_rfl) (by kernel_rfl) (by kernel_rfl) (fun _ _ _ h => h) (Or.inl ⟨by rfl, ?hy101⟩) hHeld ?rest101
        case hy101 =>
          intro wS hS
          go_simp
          all_goals with_reducible rfl
        (try simp only [Act.put, List.setIfInBounds_toArray, List.set_cons_zero, List.set_cons_succ])
        refine wpAnyH_ready (rs := [1, 3]) (by kernel_rfl) (by simp) (AllReadyH.cons rfl (fun K hK => ?_) (AllReadyH.cons rfl (fun K hK => ?_) AllReadyH.nil))
        · rw [if_pos (by rfl)]
          have k2 : (wd).cell? ⟨w.heap.size + 1 + 1, 3, none⟩ = some (.slice A k c) := by rw [cell_of_row _ _ _ _ _ _ r2]; rfl
          go_simp
          refine hK.out _ _ trivial (fun hHeld => ?_)
          clear hK K
          (try simp only [Act.put, List.setIfInBounds_toArray, List.set_cons_zero, List.set_cons_succ])
          clear k2
          refine wpAnyH_ready (rs := [3]) (by kernel_rfl) (by simp) (AllReadyH.cons rfl (fun K hK => ?_) AllReadyH.nil)
          rw [if_pos (by rfl)]
          have hmk := mkI_n N hN (wd)
          have hb7 : Below (wd).heap.size (wd) ((wd).alloc (.cells (madeCells #[.int .i64 0] N) 3)) := (Below.refl _ _).alloc (Nat.le_refl _) _
          have hnew := heap_alloc_new (wd) (.cells (madeCells #[.int .i64 0] N) 3)
          have hGlt := hG.lt
          go_simp
          obtain ⟨G7, hG7⟩ : ∃ G7, G7 = (wd).heap.size := ⟨_, rfl⟩
          rw [← hG7] at hnew hGlt ⊢
          have hs7 : w.heap.size + 3 ≤ G7 := by rw [hG7]; exact hs
          replace r2 := (hb7.block _ (by omega)).trans r2
          replace r1 := (hb7.block _ (by omega)).trans r1
          replace r0 := (hb7.block _ (by omega)).trans r0
          replace ho := own_keep' ho hb7
          replace hG := hG.keep hb7
          replace hb := hb.trans (hb7.mono hb.size)
          replace hs := Nat.le_trans hs hb7.size
          clear hb7 hmk hG7
          generalize (wd).alloc (.cells (madeCells #[.int .i64 0] N) 3) = w7 at *
          refine hK.out _ _ trivial (fun hHeld => ?_)
          clear hK K
          (try simp only [Act.put, List.setIfInBounds_toArray, List.set_cons_zero, List.set_cons_succ])
          refine wpAnyH_ready (rs := [4]) (by kernel_rfl) (by simp) (AllReadyH.cons rfl (fun K hK => ?_) AllReadyH.nil)
          rw [if_pos (by rfl)]
          have hb8 : Below w7.heap.size w7 (w7.alloc (.cells #[.slice (some ⟨G7, 0, none⟩) N N] 34)) := (Below.refl _ _).alloc (Nat.le_refl _) _
          have hl7 := (Array.getElem?_eq_some_iff.1 hnew).1
          replace hnew := (hb8.block _ hl7).trans hnew
          clear hl7
          go_simp
          replace r2 := (hb8.block _ (by omega)).trans r2
          replace r1 := (hb8.block _ (by omega)).trans r1
          replace r0 := (hb8.block _ (by omega)).trans r0
          replace ho := own_keep' ho hb8
          replace hG := hG.keep hb8
          replace hb := hb.trans (hb8.mono hb.size)
          replace hs := Nat.le_trans hs hb8.size
          clear hb8
          refine hK.out _ _ trivial (fun hHeld => ?_)
          clear hK K
          (try simp only [Act.put, List.setIfInBounds_toArray, List.set_cons_zero, List.set_cons_succ])
          refine wpAnyH_ready (rs := [5]) (by kernel_rfl) (by simp) (AllReadyH.cons rfl (fun K hK => ?_) AllReadyH.nil)
          rw [if_pos (by rfl)]
          refine wp_app (.tmp 16) (.tmp 19) _ rfl elL rfl ho (some ⟨w7.heap.size, 0, none⟩) 1 1 rfl [.slice (some ⟨G7, 0, none⟩) N N] (Sees.of_alloc _ _ _ rfl) (by simp) (by intro u hu; simp at hu; subst hu; rfl) (k + 1) rfl ((gs ++ [G7]).map fun g => Value.slice (some ⟨g, 0, none⟩) N N) (by simp) (by unfold maxLen; omega) (by omega) hs ?_
          intro Ax cx wx hownx hgrx hatx hbx
          replace r2 := (hbx.block _ (by omega)).trans r2
          replace r1 := (hbx.block _ (by omega)).trans r1
          replace r0 := (hbx.block _ (by omega)).trans r0
          replace hG := (hG.snoc hnew hGlt).grown ho hgrx
          replace hb := hb.trans (hbx.mono (by omega))
          replace hs := Nat.le_trans hs hgrx.size
          clear hgrx hatx ho hbx hnew
          refine hK.out _ _ trivial (fun hHeld => ?_)
          clear hK K
          (try simp only [Act.put, List.setIfInBounds_toArray])
          refine wpAnyH_takeD (i := 6) (d := some 21) (v := ?v102) rfl rfl (by kernel_rfl) (by kernel_rfl) (by kernel_rfl) (fun _ _ _ h => h) (Or.inl ⟨by rfl, ?hy102⟩) hHeld ?rest102
          case hy102 =>
            intro wS hS
            go_simp
            all_goals with_reducible rfl
          (try simp only [Act.put])
          refine wpAnyH_ready (rs := [7]) (by kernel_rfl) (by simp) (AllReadyH.cons rfl (fun K hK => ?_) AllReadyH.nil)
          rw [if_pos (by rfl)]
          replace hGB : ∀ g ∈ gs ++ [G7], w.heap.size + 3 ≤ g := fun g hg => by rcases List.mem_append.1 hg with h | h; exact hGB g h; simp at h; omega
          have k2 : wx.cell? ⟨w.heap.size + 1 + 1, 3, none⟩ = some (.slice A k c) := by rw [cell_of_row _ _ _ _ _ _ r2]; rfl
          have f2 : wx.frozen? ⟨w.heap.size + 1 + 1, 3, none⟩ = false := frozen_of_row _ _ _ _ _ r2
          have ry : (wx.setCell ⟨w.heap.size + 1 + 1, 3, none⟩ (.slice Ax (k + 1) cx)).heap[w.heap.size + 1 + 1]? = some (.cells #[.int .i64 (ch : Int), .int .i64 bi, .int .i64 ra, .slice Ax (k + 1) cx] 26 (0, 0)) := heap_setCell_same _ (w.heap.size + 1 + 1) 3 _ _ (.slice Ax (k + 1) cx) r2
          have r1y := (heap_setCell_other wx ⟨w.heap.size + 1 + 1, 3, none⟩ (w.heap.size + 1) (.slice Ax (k + 1) cx) (by simp)).trans r1
          have r0y := (heap_setCell_other wx ⟨w.heap.size + 1 + 1, 3, none⟩ w.heap.size (.slice Ax (k + 1) cx) (by simp; omega)).trans r0
          have hby := hb.setCell (p := ⟨w.heap.size + 1 + 1, 3, none⟩) (by show w.heap.size ≤ w.heap.size + 1 + 1; omega) (.slice Ax (k + 1) cx)
          have hoy := ownsRow_setCell_below hownx (a := ⟨w.heap.size + 1 + 1, 3, none⟩) (by show w.heap.size + 1 + 1 < w.heap.size + 3; omega) (.slice Ax (k + 1) cx)
          have hGy := hG.set (a := ⟨w.heap.size + 1 + 1, 3, none⟩) (fun g hg => by have := hGB g hg; show g ≠ w.heap.size + 1 + 1; omega) (.slice Ax (k + 1) cx)
          have hsy : w.heap.size + 3 ≤ (wx.setCell ⟨w.heap.size + 1 + 1, 3, none⟩ (.slice Ax (k + 1) cx)).heap.size := Nat.le_trans hs (by simp [World.setCell])
          clear r2 r1 r0 hb hownx hG hs
          go_simp
          refine hK.out _ _ trivial (fun hHeld => ?_)
          clear hK K
          (try simp only [Act.put, List.setIfInBounds_toArray, List.set_cons_zero, List.set_cons_succ])
          refine wpAnyH_done (by kernel_rfl) ?_ _
          go_wp2_with fail
          go_roundw
          case rel => exact ⟨k + 1, gs ++ [G7], Ax, cx, by omega, by go_num, ry, hoy, hGy, hGB, r1y, r0y, hby, hsy⟩
          case measure => simp [intOf]; omega
        · rw [if_pos (by rfl)]
          have hmk := mkI_n N hN (wd)
          have hb7 : Below (wd).heap.size (wd) ((wd).alloc (.cells (madeCells #[.int .i64 0] N) 3)) := (Below.refl _ _).alloc (Nat.le_refl _) _
          have hnew := heap_alloc_new (wd) (.cells (madeCells #[.int .i64 0] N) 3)
          have hGlt := hG.lt
          go_simp
          obtain ⟨G7, hG7⟩ : ∃ G7, G7 = (wd).heap.size := ⟨_, rfl⟩
          rw [← hG7] at hnew hGlt ⊢
          have hs7 : w.heap.size + 3 ≤ G7 := by rw [hG7]; exact hs
          replace r2 := (hb7.block _ (by omega)).trans r2
          replace r1 := (hb7.block _ (by omega)).trans r1
          replace r0 := (hb7.block _ (by omega)).trans r0
          replace ho := own_keep' ho hb7
          replace hG := hG.keep hb7
          replace hb := hb.trans (hb7.mono hb.size)
          replace hs := Nat.le_trans hs hb7.size
          clear hb7 hmk hG7
          generalize (wd).alloc (.cells (madeCells #[.int .i64 0] N) 3) = w7 at *
          refine hK.out _ _ trivial (fun hHeld => ?_)
          clear hK K
          (try simp only [Act.put, List.setIfInBounds_toArray, List.set_cons_zero, List.set_cons_succ])
          refine wpAnyH_ready (rs := [1, 4]) (by kernel_rfl) (by simp) (AllReadyH.cons rfl (fun K hK => ?_) (AllReadyH.cons rfl (fun K hK => ?_) AllReadyH.nil))
          · rw [if_pos (by rfl)]
            have k2 : (w7).cell? ⟨w.heap.size + 1 + 1, 3, none⟩ = some (.slice A k c) := by rw [cell_of_row _ _ _ _ _ _ r2]; rfl
            go_simp
            refine hK.out _ _ trivial (fun hHeld => ?_)
            clear hK K
            (try simp only [Act.put, List.setIfInBounds_toArray, List.set_cons_zero, List.set_cons_succ])
            clear k2
            refine wpAnyH_ready (rs := [4]) (by kernel_rfl) (by simp) (AllReadyH.cons rfl (fun K hK => ?_) AllReadyH.nil)
            rw [if_pos (by rfl)]
            have hb8 : Below w7.heap.size w7 (w7.alloc (.cells #[.slice (some ⟨G7, 0, none⟩) N N] 34)) := (Below.refl _ _).alloc (Nat.le_refl _) _
            have hl7 := (Array.getElem?_eq_some_iff.1 hnew).1
            replace hnew := (hb8.block _ hl7).trans hnew
            clear hl7
            go_simp
            replace r2 := (hb8.block _ (by omega)).trans r2
            replace r1 := (hb8.block _ (by omega)).trans r1
            replace r0 := (hb8.block _ (by omega)).trans r0
            replace ho := own_keep' ho hb8
            replace hG := hG.keep hb8
            replace hb := hb.trans (hb8.mono hb.size)
            replace hs := Nat.le_trans hs hb8.size
            clear hb8
            refine hK.out _ _ trivial (fun hHeld => ?_)
            clear hK K
            (try simp only [Act.put, List.setIfInBounds_toArray, List.set_cons_zero, List.set_cons_succ])
            refine wpAnyH_ready (rs := [5]) (by kernel_rfl) (by simp) (AllReadyH.cons rfl (fun K hK => ?_) AllReadyH.nil)
            rw [if_pos (by rfl)]
            refine wp_app (.tmp 16) (.tmp 19) _ rfl elL rfl ho (some ⟨w7.heap.size, 0, none⟩) 1 1 rfl [.slice (some ⟨G7, 0, none⟩) N N] (Sees.of_alloc _ _ _ rfl) (by simp) (by intro u hu; simp at hu; subst hu; rfl) (k + 1) rfl ((gs ++ [G7]).map fun g => Value.slice (some ⟨g, 0, none⟩) N N) (by simp) (by unfold maxLen; omega) (by omega) hs ?_
            intro Ax cx wx hownx hgrx hatx hbx
            replace r2 := (hbx.block _ (by omega)).trans r2
            replace r1 := (hbx.block _ (by omega)).trans r1
            replace r0 := (hbx.block _ (by omega)).trans r0
            replace hG := (hG.snoc hnew hGlt).grown ho hgrx
            replace hb := hb.trans (hbx.mono (by omega))
            replace hs := Nat.le_trans hs hgrx.size
            clear hgrx hatx ho hbx hnew
            refine hK.out _ _ trivial (fun hHeld => ?_)
            clear hK K
            (try simp only [Act.put, List.setIfInBounds_toArray])
            refine wpAnyH_takeD (i := 6) (d := some 21) (v := ?v103) rfl rfl (by kernel_rfl) (by kernel_rfl) (by kernel_rfl) (fun _ _ _ h => h) (Or.inl ⟨by rfl, ?hy103⟩) hHeld ?rest103
            case hy103 =>
              intro wS hS
              go_simp
              all_goals with_reducible rfl
            (try simp only [Act.put])
            refine wpAnyH_ready (rs := [7]) (by kernel_rfl) (by simp) (AllReadyH.cons rfl (fun K hK => ?_) AllReadyH.nil)
            rw [if_pos (by rfl)]
            replace hGB : ∀ g ∈ gs ++ [G7], w.heap.size + 3 ≤ g := fun g hg => by rcases List.mem_append.1 hg with h | h; exact hGB g h; simp at h; omega
            have k2 : wx.cell? ⟨w.heap.size + 1 + 1, 3, none⟩ = some (.slice A k c) := by rw [cell_of_row _ _ _ _ _ _ r2]; rfl
            have f2 : wx.frozen? ⟨w.heap.size + 1 + 1, 3, none⟩ = false := frozen_of_row _ _ _ _ _ r2
            have ry : (wx.setCell ⟨w.heap.size + 1 + 1, 3, none⟩ (.slice Ax (k + 1) cx)).heap[w.heap.size + 1 + 1]? = some (.cells #[.int .i64 (ch : Int), .int .i64 bi, .int .i64 ra, .slice Ax (k + 1) cx] 26 (0, 0)) := heap_setCell_same _ (w.heap.size + 1 + 1) 3 _ _ (.slice Ax (k + 1) cx) r2
            have r1y := (heap_setCell_other wx ⟨w.heap.size + 1 + 1, 3, none⟩ (w.heap.size + 1) (.slice Ax (k + 1) cx) (by simp)).trans r1
            have r0y := (heap_setCell_other wx ⟨w.heap.size + 1 + 1, 3, none⟩ w.heap.size (.slice Ax (k + 1) cx) (by simp; omega)).trans r0
            have hby := hb.setCell (p := ⟨w.heap.size + 1 + 1, 3, none⟩) (by show w.heap.size ≤ w.heap.size + 1 + 1; omega) (.slice Ax (k + 1) cx)
            have hoy := ownsRow_setCell_below hownx (a := ⟨w.heap.size + 1 + 1, 3, none⟩) (by show w.heap.size + 1 + 1 < w.heap.size + 3; omega) (.slice Ax (k + 1) cx)
            have hGy := hG.set (a := ⟨w.heap.size + 1 + 1, 3, none⟩) (fun g hg => by have := hGB g hg; show g ≠ w.heap.size + 1 + 1; omega) (.slice Ax (k + 1) cx)
            have hsy : w.heap.size + 3 ≤ (wx.setCell ⟨w.heap.size + 1 + 1, 3, none⟩ (.slice Ax (k + 1) cx)).heap.size := Nat.le_trans hs (by simp [World.setCell])
            clear r2 r1 r0 hb hownx hG hs
            go_simp
            refine hK.out _ _ trivial (fun hHeld => ?_)
            clear hK K
            (try simp only [Act.put, List.setIfInBounds_toArray, List.set_cons_zero, List.set_cons_succ])
            refine wpAnyH_done (by kernel_rfl) ?_ _
            go_wp2_with fail
            go_roundw
            case rel => exact ⟨k + 1, gs ++ [G7], Ax, cx, by omega, by go_num, ry, hoy, hGy, hGB, r1y, r0y, hby, hsy⟩
            case measure => simp [intOf]; omega
          · rw [if_pos (by rfl)]
            have hb8 : Below w7.heap.size w7 (w7.alloc (.cells #[.slice (some ⟨G7, 0, none⟩) N N] 34)) := (Below.refl _ _).alloc (Nat.le_refl _) _
            have hl7 := (Array.getElem?_eq_some_iff.1 hnew).1
            replace hnew := (hb8.block _ hl7).trans hnew
            clear hl7
            go_simp
            replace r2 := (hb8.block _ (by omega)).trans r2
            replace r1 := (hb8.block _ (by omega)).trans r1
            replace r0 := (hb8.block _ (by omega)).trans r0
            replace ho := own_keep' ho hb8
            replace hG := hG.keep hb8
            replace hb := hb.trans (hb8.mono hb.size)
            replace hs := Nat.le_trans hs hb8.size
            clear hb8
            refine hK.out _ _ trivial (fun hHeld => ?_)
            clear hK K
            (try simp only [Act.put, List.setIfInBounds_toArray, List.set_cons_zero, List.set_cons_succ])
            refine wpAnyH_ready (rs := [1]) (by kernel_rfl) (by simp) (AllReadyH.cons rfl (fun K hK => ?_) AllReadyH.nil)
            rw [if_pos (by rfl)]
            have k2 : (w7.alloc (.cells #[.slice (some ⟨G7, 0, none⟩) N N] 34)).cell? ⟨w.heap.size + 1 + 1, 3, none⟩ = some (.slice A k c) := by rw [cell_of_row _ _ _ _ _ _ r2]; rfl
            go_simp
            refine hK.out _ _ trivial (fun hHeld => ?_)
            clear hK K
            (try simp only [Act.put, List.setIfInBounds_toArray, List.set_cons_zero, List.set_cons_succ])
            clear k2
            refine wpAnyH_ready (rs := [5]) (by kernel_rfl) (by simp) (AllReadyH.cons rfl (fun K hK => ?_) AllReadyH.nil)
            rw [if_pos (by rfl)]
            refine wp_app (.tmp 16) (.tmp 19) _ rfl elL rfl ho (some ⟨w7.heap.size, 0, none⟩) 1 1 rfl [.slice (some ⟨G7, 0, none⟩) N N] (Sees.of_alloc _ _ _ rfl) (by simp) (by intro u hu; simp at hu; subst hu; rfl) (k + 1) rfl ((gs ++ [G7]).map fun g => Value.slice (some ⟨g, 0, none⟩) N N) (by simp) (by unfold maxLen; omega) (by omega) hs ?_
            intro Ax cx wx hownx hgrx hatx hbx
            replace r2 := (hbx.block _ (by omega)).trans r2
            replace r1 := (hbx.block _ (by omega)).trans r1
            replace r0 := (hbx.block _ (by omega)).trans r0
            replace hG := (hG.snoc hnew hGlt).grown ho hgrx
            replace hb := hb.trans (hbx.mono (by omega))
            replace hs := Nat.le_trans hs hgrx.size
            clear hgrx hatx ho hbx hnew
            refine hK.out _ _ trivial (fun hHeld => ?_)
            clear hK K
            (try simp only [Act.put, List.setIfInBounds_toArray])
            refine wpAnyH_takeD (i := 6) (d := some 21) (v := ?v104) rfl rfl (by kernel_rfl) (by kernel_rfl) (by kernel_rfl) (fun _ _ _ h => h) (Or.inl ⟨by rfl, ?hy104⟩) hHeld ?rest104
            case hy104 =>
              intro wS hS
              go_simp
              all_goals with_reducible rfl
            (try simp only [Act.put])
            refine wpAnyH_ready (rs := [7]) (by kernel_rfl) (by simp) (AllReadyH.cons rfl (fun K hK => ?_) AllReadyH.nil)
            rw [if_pos (by rfl)]
            replace hGB : ∀ g ∈ gs ++ [G7], w.heap.size + 3 ≤ g := fun g hg => by rcases List.mem_append.1 hg with h | h; exact hGB g h; simp at h; omega
            have k2 : wx.cell? ⟨w.heap.size + 1 + 1, 3, none⟩ = some (.slice A k c) := by rw [cell_of_row _ _ _ _ _ _ r2]; rfl
            have f2 : wx.frozen? ⟨w.heap.size + 1 + 1, 3, none⟩ = false := frozen_of_row _ _ _ _ _ r2
            have ry : (wx.setCell ⟨w.heap.size + 1 + 1, 3, none⟩ (.slice Ax (k + 1) cx)).heap[w.heap.size + 1 + 1]? = some (.cells #[.int .i64 (ch : Int), .int .i64 bi, .int .i64 ra, .slice Ax (k + 1) cx] 26 (0, 0)) := heap_setCell_same _ (w.heap.size + 1 + 1) 3 _ _ (.slice Ax (k + 1) cx) r2
            have r1y := (heap_setCell_other wx ⟨w.heap.size + 1 + 1, 3, none⟩ (w.heap.size + 1) (.slice Ax (k + 1) cx) (by simp)).trans r1
            have r0y := (heap_setCell_other wx ⟨w.heap.size + 1 + 1, 3, none⟩ w.heap.size (.slice Ax (k + 1) cx) (by simp; omega)).trans r0
            have hby := hb.setCell (p := ⟨w.heap.size + 1 + 1, 3, none⟩) (by show w.heap.size ≤ w.heap.size + 1 + 1; omega) (.slice Ax (k + 1) cx)
            have hoy := ownsRow_setCell_below hownx (a := ⟨w.heap.size + 1 + 1, 3, none⟩) (by show w.heap.size + 1 + 1 < w.heap.size + 3; omega) (.slice Ax (k + 1) cx)
            have hGy := hG.set (a := ⟨w.heap.size + 1 + 1, 3, none⟩) (fun g hg => by have := hGB g hg; show g ≠ w.heap.size + 1 + 1; omega) (.slice Ax (k + 1) cx)
            have hsy : w.heap.size + 3 ≤ (wx.setCell ⟨w.heap.size + 1 + 1, 3, none⟩ (.slice Ax (k + 1) cx)).heap.size := Nat.le_trans hs (by simp [World.setCell])
            clear r2 r1 r0 hb hownx hG hs
            go_simp
            refine hK.out _ _ trivial (fun hHeld => ?_)
            clear hK K
            (try simp only [Act.put, List.setIfInBounds_toArray, List.set_cons_zero, List.set_cons_succ])
            refine wpAnyH_done (by kernel_rfl) ?_ _
            go_wp2_with fail
            go_roundw
            case rel => exact ⟨k + 1, gs ++ [G7], Ax, cx, by omega, by go_num, ry, hoy, hGy, hGB, r1y, r0y, hby, hsy⟩
            case measure => simp [intOf]; omega
    · obtain rfl : k = ch := by omega
      have dk : decide ((k : Int) < (k : Int)) = false := decide_eq_false (by omega)
      have d0 : wr.cell? ⟨w.heap.size + 1 + 1, 0, none⟩ = some (.int .i64 (k : Int)) := by rw [cell_of_row _ _ _ _ _ _ r2]; rfl
      have d1 : wr.cell? ⟨w.heap.size + 1 + 1, 1, none⟩ = some (.int .i64 bi) := by rw [cell_of_row _ _ _ _ _ _ r2]; rfl
      have d2 : wr.cell? ⟨w.heap.size + 1 + 1, 2, none⟩ = some (.int .i64 ra) := by rw [cell_of_row _ _ _ _ _ _ r2]; rfl
      have d3 : wr.cell? ⟨w.heap.size + 1 + 1, 3, none⟩ = some (.slice A k c) := by rw [cell_of_row _ _ _ _ _ _ r2]; rfl
      have hLk := hid (show gs.length = k by have := ho.1; simp at this; omega)
      go_wp2_with first | (refine wpList_store_row rfl 26 (.tmp 4) (.tmp 22) rfl rfl (w.heap.size + 1) rfl #[.int .i64 (k : Int), .int .i64 bi, .int .i64 ra, .slice A k c] rfl 26 #[.int .i64 0, .int .i64 0, .int .i64 0, .slice none 0 0] r1 (by kernel_rfl) rfl (by simp [Value.oneCell']) ?_)
      have hb' := below_setRow (g := w.heap.size + 1) hb (by omega) #[.int .i64 (k : Int), .int .i64 bi, .int .i64 ra, .slice A k c]
      have ho' := own_setRow ho (q := w.heap.size + 1) (by omega) #[.int .i64 (k : Int), .int .i64 bi, .int .i64 ra, .slice A k c]
      have hG' : Rows5 (wr.setRow (w.heap.size + 1) #[.int .i64 (k : Int), .int .i64 bi, .int .i64 ra, .slice A k c]) gs (fun _ => List.replicate N 0) := ⟨fun i hi => (setRow_other wr _ _ _ (by have := hGB _ (List.getElem_mem hi); omega)).trans (hG.1 i hi), hG.2⟩
      refine bodyPost_ret (v := .agg #[.int .i64 (k : Int), .int .i64 bi, .int .i64 ra, .slice A k c]) (results_row1 (fn := Try.f28) (p := 4) (ty := 26) rfl _ _ (w.heap.size + 1) _ _ _ _ rfl (setRow_heap _ _ _ _ _ _ r1) Try.underlying26 rfl (by kernel_rfl)) rfl ?_
      exact ⟨A, c, gs, rfl, hLk.out, ho', hG', hGB, hb'⟩
end Go.Proofs.Ytfinefhebffpcaa
