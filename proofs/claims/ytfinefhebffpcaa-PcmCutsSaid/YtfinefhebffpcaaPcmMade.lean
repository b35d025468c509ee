/- Sound whose channels are told by a function. -/
import Derived.Test.YtfinefhebffpcaaPcmSame
import Derived.Test.YtfinefhebffpcaaPcmWeave
import Derived.Test.YtfinefhebffpcaaRegRow
import Derived.Deep.RegionHeld3
namespace Go.Proofs.Ytfinefhebffpcaa
set_option linter.unusedVariables false
open Go.RowKit
theorem elL : Elem Try.prog 24 34 1 24 := Elem.mk' Try.underlying24 (z := .slice none 0 0) (by kernel_rfl) rfl (by omega)
/-- an own row stays where another one grows -/
theorem own_grown {w w' : World} {base : Nat} {e : TypeId} {size : Nat} {v : Value} {n : Nat} {xs : List Value} {r : Option Nat} (h : w.ownsRow base e size v n xs) (hg : w.grownBy w' r) (hne : ∀ k, v.ownBlock = some k → r ≠ some k) : w'.ownsRow base e size v n xs := by
  refine ⟨h.1, ?_⟩
  rcases h.2 with h' | ⟨g, cap, cur, hv, hbg, hrow, rest⟩
  · exact .inl h'
  · have hk : v.ownBlock = some g := by rw [hv]; rfl
    exact .inr ⟨g, cap, cur, hv, hbg, (hg.block g (Array.getElem?_eq_some_iff.1 hrow).1 (fun h => hne g hk h.symm)).trans hrow, rest⟩
/-- channels in rows of the call's own -/
def OwnL (w : World) (base : Nat) (L : List Chan) : Prop := ∀ x ∈ L, w.ownsRow base 3 1 x.v x.l.length (x.l.map intV)
theorem OwnL.keep {w w' : World} {base : Nat} {L : List Chan} (h : OwnL w base L) (hb : Below w.heap.size w w') : OwnL w' base L := fun x hx => own_keep' (h x hx) hb
theorem OwnL.set {w : World} {base : Nat} {L : List Chan} (h : OwnL w base L) {a : Addr} (ha : a.block < base) (u : Value) : OwnL (w.setCell a u) base L := fun x hx => ownsRow_setCell_below (h x hx) ha u
theorem OwnL.one {w w' : World} {base base' n m : Nat} {v u : Value} {xs ys : List Value} (ho : w.ownsRow base' 34 1 v n xs) (hg : w.grownBy w' v.ownBlock) (h : w.ownsRow base 3 1 u m ys) : w'.ownsRow base 3 1 u m ys := by
  refine ⟨h.1, ?_⟩
  rcases h.2 with h' | ⟨g, cap, cur, hv, hbg, hrow, rest⟩
  · exact .inl h'
  · exact .inr ⟨g, cap, cur, hv, hbg, (hg.block g (Array.getElem?_eq_some_iff.1 hrow).1 (fun he => own_other ho hrow (by decide) he.symm)).trans hrow, rest⟩
theorem OwnL.grown {w w' : World} {base base' n : Nat} {v : Value} {xs : List Value} {L : List Chan} (h : OwnL w base L) (ho : w.ownsRow base' 34 1 v n xs) (hg : w.grownBy w' v.ownBlock) : OwnL w' base L := fun x hx => OwnL.one ho hg (h x hx)
theorem OwnL.snoc {w : World} {base : Nat} {L : List Chan} {x : Chan} (h : OwnL w base L) (hx : w.ownsRow base 3 1 (.slice x.A x.l.length x.c) x.l.length (x.l.map intV)) : OwnL w base (L ++ [x]) := by
  intro y hy
  rcases List.mem_append.1 hy with h1 | h1
  · exact h y h1
  · simp at h1; subst h1; exact hx
theorem ints_snoc (L : List Chan) (x : Chan) : ints (L ++ [x]) = ints L ++ [x.l] := by unfold ints; rw [List.map_append]; rfl
theorem own_len {w : World} {base : Nat} {e : TypeId} {v : Value} {n : Nat} {xs : List Value} (h : w.ownsRow base e 1 v n xs) : n ≤ maxLen := by
  rcases h.2 with ⟨_, h'⟩ | ⟨g, cap, cur, hv, hbg, hrow, h1, h2, _⟩
  · rw [h']; exact Nat.zero_le _
  · exact Nat.le_trans h1 h2
theorem own_setRow {w : World} {base : Nat} {e : TypeId} {size : Nat} {v : Value} {n : Nat} {xs : List Value} (h : w.ownsRow base e size v n xs) {q : Nat} (hq : q < base) (cs : Array Value) : (w.setRow q cs).ownsRow base e size v n xs := by
  refine ⟨h.1, ?_⟩
  rcases h.2 with h' | ⟨g, cap, cur, hv, hbg, hrow, rest⟩
  · exact .inl h'
  · exact .inr ⟨g, cap, cur, hv, hbg, (setRow_other w q g cs (by omega)).trans hrow, rest⟩
def MadePost (w : World) (ch bi ra : Int) (ll : List (List Int)) (e : Ending) (w' : World) : Prop :=
  ∃ (A : Option Addr) (c : Nat) (L : List Chan), e = .returned (.agg #[.int .i64 ch, .int .i64 bi, .int .i64 ra, .slice A L.length c]) ∧ SeesL w' A L ∧ ints L = ll ∧ (∀ a, A = some a → w.heap.size ≤ a.block) ∧ (∀ x ∈ L, ∀ a, x.A = some a → w.heap.size ≤ a.block) ∧ Below w.heap.size w w'
set_option maxRecDepth 20000 in
set_option maxHeartbeats 8000000 in
theorem made_any (F : FuncId) (ptrs : Array Value) (spec : Nat → List Int) (ch : Nat) (bi ra : Int) (w : World) (hch : ch ≤ 8)
    (hf : ∀ (args : Array Value) (W : World), (callFunc F args).run Try.prog W = .ok (.enter F args) W)
    (hcl : ∀ (W : World) (k : Nat), k < ch → Below w.heap.size w W → Calls Try.prog F (#[.int .i64 (k : Int)] ++ ptrs) W fun e w' => ∃ x : Chan, e = .returned x.v ∧ x.l = spec k ∧ w'.ownsRow W.heap.size 3 1 x.v x.l.length (x.l.map intV) ∧ Below W.heap.size W w') :
    Calls Try.prog 37 #[.agg #[.int .i64 (ch : Int), .int .i64 bi, .int .i64 ra], .func (.func F) #[] ptrs] w (MadePost w ch bi ra ((List.range ch).map spec)) := by
  have HCL := hid hcl
  clear hcl
  go_enter Try.func37, Try.ntmps37
  go_wp2_with fail
  obtain ⟨w3, hw3, r1, r2, hb3, hs3⟩ : ∃ w3, w3 = ((w.alloc (.cells #[.int .i64 (ch : Int), .int .i64 bi, .int .i64 ra] 23)).alloc (.cells #[.int .i64 0, .int .i64 0, .int .i64 0, .slice none 0 0] 26)).alloc (.cells #[.int .i64 (ch : Int), .int .i64 bi, .int .i64 ra, .slice none 0 0] 26) ∧
      w3.heap[w.heap.size + 1]? = some (.cells #[.int .i64 0, .int .i64 0, .int .i64 0, .slice none 0 0] 26 (0, 0)) ∧ w3.heap[w.heap.size + 1 + 1]? = some (.cells #[.int .i64 (ch : Int), .int .i64 bi, .int .i64 ra, .slice none 0 0] 26 (0, 0)) ∧ Below w.heap.size w w3 ∧ w.heap.size + 3 ≤ w3.heap.size := by
    have s1 : (w.alloc (.cells #[.int .i64 (ch : Int), .int .i64 bi, .int .i64 ra] 23)).heap.size = w.heap.size + 1 := by simp
    have s2 : ((w.alloc (.cells #[.int .i64 (ch : Int), .int .i64 bi, .int .i64 ra] 23)).alloc (.cells #[.int .i64 0, .int .i64 0, .int .i64 0, .slice none 0 0] 26)).heap.size = w.heap.size + 1 + 1 := by simp
    have n1 := heap_alloc_new (w.alloc (.cells #[.int .i64 (ch : Int), .int .i64 bi, .int .i64 ra] 23)) (.cells #[.int .i64 0, .int .i64 0, .int .i64 0, .slice none 0 0] 26)
    have n2 := heap_alloc_new ((w.alloc (.cells #[.int .i64 (ch : Int), .int .i64 bi, .int .i64 ra] 23)).alloc (.cells #[.int .i64 0, .int .i64 0, .int .i64 0, .slice none 0 0] 26)) (.cells #[.int .i64 (ch : Int), .int .i64 bi, .int .i64 ra, .slice none 0 0] 26)
    rw [s1] at n1
    rw [s2] at n2
    exact ⟨_, rfl, (Below.heap_alloc _ _ _ (by omega)).trans n1, n2, (((Below.refl _ w).alloc (Nat.le_refl _) _).alloc (by simp) _).alloc (by simp; omega) _, by simp⟩
  rw [← hw3]
  clear hw3
  go_loopw [11] (fun i wr => ∃ (k : Nat) (L : List Chan) (A : Option Addr) (c : Nat), k ≤ ch ∧ i = .int .i64 (k : Int) ∧ wr.heap[w.heap.size + 1 + 1]? = some (.cells #[.int .i64 (ch : Int), .int .i64 bi, .int .i64 ra, .slice A k c] 26 (0, 0)) ∧ wr.ownsRow (w.heap.size + 3) 34 1 (.slice A k c) k (L.map Chan.v) ∧ OwnL wr (w.heap.size + 3) L ∧ Hid (ints L = (List.range k).map spec) ∧
      wr.heap[w.heap.size + 1]? = some (.cells #[.int .i64 0, .int .i64 0, .int .i64 0, .slice none 0 0] 26 (0, 0)) ∧ Below w.heap.size w wr ∧ w.heap.size + 3 ≤ wr.heap.size) (fun i _ => ch - (intOf i).toNat)
  case atStart => exact ⟨0, [], none, 0, by omega, rfl, r2, own_nil _ _ _ _, fun x hx => by simp at hx, hid rfl, r1, hb3, hs3⟩
  case round =>
    clear r1 r2 hb3 hs3
    obtain ⟨k, L, A, c, hk, rfl, r2, ho, hL, hI, r1, hb, hs⟩ := hrel
    by_cases hlt : k < ch
    · have dk : decide ((k : Int) < (ch : Int)) = true := decide_eq_true (by omega)
      go_wp2_with fail
      replace r2 : wr.drew.heap[w.heap.size + 1 + 1]? = some (.cells #[.int .i64 (ch : Int), .int .i64 bi, .int .i64 ra, .slice A k c] 26 (0, 0)) := r2
      replace r1 : wr.drew.heap[w.heap.size + 1]? = some (.cells #[.int .i64 0, .int .i64 0, .int .i64 0, .slice none 0 0] 26 (0, 0)) := r1
      replace ho : wr.drew.ownsRow (w.heap.size + 3) 34 1 (.slice A k c) k (L.map Chan.v) := ho
      replace hL : OwnL wr.drew (w.heap.size + 3) L := hL
      replace hb : Below w.heap.size w wr.drew := hb.drew
      replace hs : w.heap.size + 3 ≤ wr.drew.heap.size := hs
      · skip
        refine wp_region_held_drew (S := fun _ => True) (by kernel_rfl) trivial (fun hHeld => ?_)
        refine wpAnyH_takeD (i := 0) (d := some 14) (v := ?v100) rfl rfl (by kernel_rfl) (by kernel_rfl) (by kernel_rfl) (fun _ _ _ h => h) (Or.inl ⟨by rfl, ?hy100⟩) hHeld ?rest100
        case hy100 =>
          intro wS hS
          go_simp
          all_goals with_reducible rfl
        (try simp only [Act.put, List.setIfInBounds_toArray, List.set_cons_zero, List.set_cons_succ])
        refine wpAnyH_takeD (i := 2) (d := some 16) (v := ?v101) rfl rfl (by kernel_rfl) (by kernel_rfl) (by kernel_rfl) (fun _ _ _ h => h) (Or.inl ⟨by rfl, ?hy101⟩) hHeld ?rest101
        case hy101 =>
          intro wS hS
          go_simp
          all_goals with_reducible rfl
        (try simp only [Act.put, List.setIfInBounds_toArray, List.set_cons_zero, List.set_cons_succ])
        refine wpAnyH_takeD (i := 3) (d := some 17) (v := ?v102) rfl rfl (by kernel_rfl) (by kernel_rfl) (by kernel_rfl) (fun _ _ _ h => h) (Or.inl ⟨by rfl, ?hy102⟩) hHeld ?rest102
        case hy102 =>
          intro wS hS
          go_simp
          all_goals with_reducible rfl
        (try simp only [Act.put, List.setIfInBounds_toArray, List.set_cons_zero, List.set_cons_succ])
        refine wpAnyH_ready (rs := [1, 4]) (by kernel_rfl) (by simp) (AllReadyH.cons rfl (fun K hK => ?_) (AllReadyH.cons rfl (fun K hK => ?_) AllReadyH.nil))
        · rw [if_pos (by rfl)]
          have k2 : (wr.drew).cell? ⟨w.heap.size + 1 + 1, 3, none⟩ = some (.slice A k c) := by rw [cell_of_row _ _ _ _ _ _ r2]; rfl
          go_simp
          refine hK.out _ _ trivial (fun hHeld => ?_)
          clear hK K
          (try simp only [Act.put, List.setIfInBounds_toArray, List.set_cons_zero, List.set_cons_succ])
          clear k2
          refine wpAnyH_ready (rs := [4]) (by kernel_rfl) (by simp) (AllReadyH.cons rfl (fun K hK => ?_) AllReadyH.nil)
          rw [if_pos (by rfl)]
          go_simp
          refine (HCL.out (wr.drew) k hlt hb).mono ?_
          rintro e w7 ⟨⟨xA, xc, xl⟩, rfl, hxl, hox, hb7⟩
          simp only [Chan.v] at *
          replace hxl := hid hxl
          replace r2 := (hb7.block _ (by omega)).trans r2
          replace r1 := (hb7.block _ (by omega)).trans r1
          replace ho := own_keep' ho hb7
          replace hL := hL.keep hb7
          replace hox := Joins.ownsRow_le hox hs
          replace hb := hb.trans (hb7.mono hb.size)
          replace hs := Nat.le_trans hs hb7.size
          clear hb7
          go_wp2_with fail
          refine hK.out _ _ trivial (fun hHeld => ?_)
          clear hK K
          (try simp only [Act.put, List.setIfInBounds_toArray, List.set_cons_zero, List.set_cons_succ])
          refine wpAnyH_ready (rs := [5]) (by kernel_rfl) (by simp) (AllReadyH.cons rfl (fun K hK => ?_) AllReadyH.nil)
          rw [if_pos (by rfl)]
          go_simp
          have hb8 : Below w7.heap.size w7 (w7.alloc (.cells #[.slice xA xl.length xc] 34)) := (Below.refl _ _).alloc (Nat.le_refl _) _
          replace r2 := (hb8.block _ (by omega)).trans r2
          replace r1 := (hb8.block _ (by omega)).trans r1
          replace ho := own_keep' ho hb8
          replace hL := hL.keep hb8
          replace hox := own_keep' hox hb8
          replace hb := hb.trans (hb8.mono hb.size)
          replace hs := Nat.le_trans hs hb8.size
          clear hb8
          refine hK.out _ _ trivial (fun hHeld => ?_)
          clear hK K
          (try simp only [Act.put, List.setIfInBounds_toArray, List.set_cons_zero, List.set_cons_succ])
          refine wpAnyH_ready (rs := [6]) (by kernel_rfl) (by simp) (AllReadyH.cons rfl (fun K hK => ?_) AllReadyH.nil)
          rw [if_pos (by rfl)]
          refine wp_app (.tmp 15) (.tmp 19) _ rfl elL rfl ho (some ⟨w7.heap.size, 0, none⟩) 1 1 rfl [.slice xA xl.length xc] (Sees.of_alloc _ _ _ rfl) (by simp) (by intro u hu; simp at hu; subst hu; rfl) (k + 1) rfl ((L ++ [Chan.mk xA xc xl]).map Chan.v) (by simp [Chan.v]) (by unfold maxLen; omega) (by omega) hs ?_
          intro Ax cx wx hownx hgrx hatx hbx
          replace r2 := (hbx.block _ (by omega)).trans r2
          replace r1 := (hbx.block _ (by omega)).trans r1
          replace hL := hL.grown ho hgrx
          replace hox := OwnL.one ho hgrx hox
          replace hb := hb.trans (hbx.mono (by omega))
          replace hs := Nat.le_trans hs hgrx.size
          clear hgrx hatx ho hbx
          refine hK.out _ _ trivial (fun hHeld => ?_)
          clear hK K
          (try simp only [Act.put, List.setIfInBounds_toArray])
          refine wpAnyH_takeD (i := 7) (d := some 21) (v := ?v103) rfl rfl (by kernel_rfl) (by kernel_rfl) (by kernel_rfl) (fun _ _ _ h => h) (Or.inl ⟨by rfl, ?hy103⟩) hHeld ?rest103
          case hy103 =>
            intro wS hS
            go_simp
            all_goals with_reducible rfl
          (try simp only [Act.put])
          refine wpAnyH_ready (rs := [8]) (by kernel_rfl) (by simp) (AllReadyH.cons rfl (fun K hK => ?_) AllReadyH.nil)
          rw [if_pos (by rfl)]
          have k2 : wx.cell? ⟨w.heap.size + 1 + 1, 3, none⟩ = some (.slice A k c) := by rw [cell_of_row _ _ _ _ _ _ r2]; rfl
          have f2 : wx.frozen? ⟨w.heap.size + 1 + 1, 3, none⟩ = false := frozen_of_row _ _ _ _ _ r2
          have ry : (wx.setCell ⟨w.heap.size + 1 + 1, 3, none⟩ (.slice Ax (k + 1) cx)).heap[w.heap.size + 1 + 1]? = some (.cells #[.int .i64 (ch : Int), .int .i64 bi, .int .i64 ra, .slice Ax (k + 1) cx] 26 (0, 0)) := heap_setCell_same _ (w.heap.size + 1 + 1) 3 _ _ (.slice Ax (k + 1) cx) r2
          have r1y := (heap_setCell_other wx ⟨w.heap.size + 1 + 1, 3, none⟩ (w.heap.size + 1) (.slice Ax (k + 1) cx) (by simp)).trans r1
          have hby := hb.setCell (p := ⟨w.heap.size + 1 + 1, 3, none⟩) (by show w.heap.size ≤ w.heap.size + 1 + 1; omega) (.slice Ax (k + 1) cx)
          have hoy := ownsRow_setCell_below hownx (a := ⟨w.heap.size + 1 + 1, 3, none⟩) (by show w.heap.size + 1 + 1 < w.heap.size + 3; omega) (.slice Ax (k + 1) cx)
          have hLy := hL.set (a := ⟨w.heap.size + 1 + 1, 3, none⟩) (by show w.heap.size + 1 + 1 < w.heap.size + 3; omega) (.slice Ax (k + 1) cx)
          have hxy := ownsRow_setCell_below hox (a := ⟨w.heap.size + 1 + 1, 3, none⟩) (by show w.heap.size + 1 + 1 < w.heap.size + 3; omega) (.slice Ax (k + 1) cx)
          have hsy : w.heap.size + 3 ≤ (wx.setCell ⟨w.heap.size + 1 + 1, 3, none⟩ (.slice Ax (k + 1) cx)).heap.size := Nat.le_trans hs (by simp [World.setCell])
          clear r2 r1 hb hownx hL hox hs
          go_simp
          refine hK.out _ _ trivial (fun hHeld => ?_)
          clear hK K
          (try simp only [Act.put, List.setIfInBounds_toArray, List.set_cons_zero, List.set_cons_succ])
          refine wpAnyH_done (by kernel_rfl) ?_ _
          go_wp2_with fail
          go_roundw
          case rel => exact ⟨k + 1, L ++ [Chan.mk xA xc xl], Ax, cx, by omega, by go_num, ry, hoy, hLy.snoc hxy, hid (by rw [ints_snoc, hI.out, List.range_succ, List.map_append]; exact congrArg _ (congrArg (fun z => [z]) hxl.out)), r1y, hby, hsy⟩
          case measure => simp [intOf]; omega
        · rw [if_pos (by rfl)]
          go_simp
          refine (HCL.out (wr.drew) k hlt hb).mono ?_
          rintro e w7 ⟨⟨xA, xc, xl⟩, rfl, hxl, hox, hb7⟩
          simp only [Chan.v] at *
          replace hxl := hid hxl
          replace r2 := (hb7.block _ (by omega)).trans r2
          replace r1 := (hb7.block _ (by omega)).trans r1
          replace ho := own_keep' ho hb7
          replace hL := hL.keep hb7
          replace hox := Joins.ownsRow_le hox hs
          replace hb := hb.trans (hb7.mono hb.size)
          replace hs := Nat.le_trans hs hb7.size
          clear hb7
          go_wp2_with fail
          refine hK.out _ _ trivial (fun hHeld => ?_)
          clear hK K
          (try simp only [Act.put, List.setIfInBounds_toArray, List.set_cons_zero, List.set_cons_succ])
          refine wpAnyH_ready (rs := [1, 5]) (by kernel_rfl) (by simp) (AllReadyH.cons rfl (fun K hK => ?_) (AllReadyH.cons rfl (fun K hK => ?_) AllReadyH.nil))
          · rw [if_pos (by rfl)]
            have k2 : (w7).cell? ⟨w.heap.size + 1 + 1, 3, none⟩ = some (.slice A k c) := by rw [cell_of_row _ _ _ _ _ _ r2]; rfl
            go_simp
            refine hK.out _ _ trivial (fun hHeld => ?_)
            clear hK K
            (try simp only [Act.put, List.setIfInBounds_toArray, List.set_cons_zero, List.set_cons_succ])
            clear k2
            refine wpAnyH_ready (rs := [5]) (by kernel_rfl) (by simp) (AllReadyH.cons rfl (fun K hK => ?_) AllReadyH.nil)
            rw [if_pos (by rfl)]
            go_simp
            have hb8 : Below w7.heap.size w7 (w7.alloc (.cells #[.slice xA xl.length xc] 34)) := (Below.refl _ _).alloc (Nat.le_refl _) _
            replace r2 := (hb8.block _ (by omega)).trans r2
            replace r1 := (hb8.block _ (by omega)).trans r1
            replace ho := own_keep' ho hb8
            replace hL := hL.keep hb8
            replace hox := own_keep' hox hb8
            replace hb := hb.trans (hb8.mono hb.size)
            replace hs := Nat.le_trans hs hb8.size
            clear hb8
            refine hK.out _ _ trivial (fun hHeld => ?_)
            clear hK K
            (try simp only [Act.put, List.setIfInBounds_toArray, List.set_cons_zero, List.set_cons_succ])
            refine wpAnyH_ready (rs := [6]) (by kernel_rfl) (by simp) (AllReadyH.cons rfl (fun K hK => ?_) AllReadyH.nil)
            rw [if_pos (by rfl)]
            refine wp_app (.tmp 15) (.tmp 19) _ rfl elL rfl ho (some ⟨w7.heap.size, 0, none⟩) 1 1 rfl [.slice xA xl.length xc] (Sees.of_alloc _ _ _ rfl) (by simp) (by intro u hu; simp at hu; subst hu; rfl) (k + 1) rfl ((L ++ [Chan.mk xA xc xl]).map Chan.v) (by simp [Chan.v]) (by unfold maxLen; omega) (by omega) hs ?_
            intro Ax cx wx hownx hgrx hatx hbx
            replace r2 := (hbx.block _ (by omega)).trans r2
            replace r1 := (hbx.block _ (by omega)).trans r1
            replace hL := hL.grown ho hgrx
            replace hox := OwnL.one ho hgrx hox
            replace hb := hb.trans (hbx.mono (by omega))
            replace hs := Nat.le_trans hs hgrx.size
            clear hgrx hatx ho hbx
            refine hK.out _ _ trivial (fun hHeld => ?_)
            clear hK K
            (try simp only [Act.put, List.setIfInBounds_toArray])
            refine wpAnyH_takeD (i := 7) (d := some 21) (v := ?v104) rfl rfl (by kernel_rfl) (by kernel_rfl) (by kernel_rfl) (fun _ _ _ h => h) (Or.inl ⟨by rfl, ?hy104⟩) hHeld ?rest104
            case hy104 =>
              intro wS hS
              go_simp
              all_goals with_reducible rfl
            (try simp only [Act.put])
            refine wpAnyH_ready (rs := [8]) (by kernel_rfl) (by simp) (AllReadyH.cons rfl (fun K hK => ?_) AllReadyH.nil)
            rw [if_pos (by rfl)]
            have k2 : wx.cell? ⟨w.heap.size + 1 + 1, 3, none⟩ = some (.slice A k c) := by rw [cell_of_row _ _ _ _ _ _ r2]; rfl
            have f2 : wx.frozen? ⟨w.heap.size + 1 + 1, 3, none⟩ = false := frozen_of_row _ _ _ _ _ r2
            have ry : (wx.setCell ⟨w.heap.size + 1 + 1, 3, none⟩ (.slice Ax (k + 1) cx)).heap[w.heap.size + 1 + 1]? = some (.cells #[.int .i64 (ch : Int), .int .i64 bi, .int .i64 ra, .slice Ax (k + 1) cx] 26 (0, 0)) := heap_setCell_same _ (w.heap.size + 1 + 1) 3 _ _ (.slice Ax (k + 1) cx) r2
            have r1y := (heap_setCell_other wx ⟨w.heap.size + 1 + 1, 3, none⟩ (w.heap.size + 1) (.slice Ax (k + 1) cx) (by simp)).trans r1
            have hby := hb.setCell (p := ⟨w.heap.size + 1 + 1, 3, none⟩) (by show w.heap.size ≤ w.heap.size + 1 + 1; omega) (.slice Ax (k + 1) cx)
            have hoy := ownsRow_setCell_below hownx (a := ⟨w.heap.size + 1 + 1, 3, none⟩) (by show w.heap.size + 1 + 1 < w.heap.size + 3; omega) (.slice Ax (k + 1) cx)
            have hLy := hL.set (a := ⟨w.heap.size + 1 + 1, 3, none⟩) (by show w.heap.size + 1 + 1 < w.heap.size + 3; omega) (.slice Ax (k + 1) cx)
            have hxy := ownsRow_setCell_below hox (a := ⟨w.heap.size + 1 + 1, 3, none⟩) (by show w.heap.size + 1 + 1 < w.heap.size + 3; omega) (.slice Ax (k + 1) cx)
            have hsy : w.heap.size + 3 ≤ (wx.setCell ⟨w.heap.size + 1 + 1, 3, none⟩ (.slice Ax (k + 1) cx)).heap.size := Nat.le_trans hs (by simp [World.setCell])
            clear r2 r1 hb hownx hL hox hs
            go_simp
            refine hK.out _ _ trivial (fun hHeld => ?_)
            clear hK K
            (try simp only [Act.put, List.setIfInBounds_toArray, List.set_cons_zero, List.set_cons_succ])
            refine wpAnyH_done (by kernel_rfl) ?_ _
            go_wp2_with fail
            go_roundw
            case rel => exact ⟨k + 1, L ++ [Chan.mk xA xc xl], Ax, cx, by omega, by go_num, ry, hoy, hLy.snoc hxy, hid (by rw [ints_snoc, hI.out, List.range_succ, List.map_append]; exact congrArg _ (congrArg (fun z => [z]) hxl.out)), r1y, hby, hsy⟩
            case measure => simp [intOf]; omega
          · rw [if_pos (by rfl)]
            go_simp
            have hb8 : Below w7.heap.size w7 (w7.alloc (.cells #[.slice xA xl.length xc] 34)) := (Below.refl _ _).alloc (Nat.le_refl _) _
            replace r2 := (hb8.block _ (by omega)).trans r2
            replace r1 := (hb8.block _ (by omega)).trans r1
            replace ho := own_keep' ho hb8
            replace hL := hL.keep hb8
            replace hox := own_keep' hox hb8
            replace hb := hb.trans (hb8.mono hb.size)
            replace hs := Nat.le_trans hs hb8.size
            clear hb8
            refine hK.out _ _ trivial (fun hHeld => ?_)
            clear hK K
            (try simp only [Act.put, List.setIfInBounds_toArray, List.set_cons_zero, List.set_cons_succ])
            refine wpAnyH_ready (rs := [1]) (by kernel_rfl) (by simp) (AllReadyH.cons rfl (fun K hK => ?_) AllReadyH.nil)
            rw [if_pos (by rfl)]
            have k2 : (w7.alloc (.cells #[.slice xA xl.length xc] 34)).cell? ⟨w.heap.size + 1 + 1, 3, none⟩ = some (.slice A k c) := by rw [cell_of_row _ _ _ _ _ _ r2]; rfl
            go_simp
            refine hK.out _ _ trivial (fun hHeld => ?_)
            clear hK K
            (try simp only [Act.put, List.setIfInBounds_toArray, List.set_cons_zero, List.set_cons_succ])
            clear k2
            refine wpAnyH_ready (rs := [6]) (by kernel_rfl) (by simp) (AllReadyH.cons rfl (fun K hK => ?_) AllReadyH.nil)
            rw [if_pos (by rfl)]
            refine wp_app (.tmp 15) (.tmp 19) _ rfl elL rfl ho (some ⟨w7.heap.size, 0, none⟩) 1 1 rfl [.slice xA xl.length xc] (Sees.of_alloc _ _ _ rfl) (by simp) (by intro u hu; simp at hu; subst hu; rfl) (k + 1) rfl ((L ++ [Chan.mk xA xc xl]).map Chan.v) (by simp [Chan.v]) (by unfold maxLen; omega) (by omega) hs ?_
            intro Ax cx wx hownx hgrx hatx hbx
            replace r2 := (hbx.block _ (by omega)).trans r2
            replace r1 := (hbx.block _ (by omega)).trans r1
            replace hL := hL.grown ho hgrx
            replace hox := OwnL.one ho hgrx hox
            replace hb := hb.trans (hbx.mono (by omega))
            replace hs := Nat.le_trans hs hgrx.size
            clear hgrx hatx ho hbx
            refine hK.out _ _ trivial (fun hHeld => ?_)
            clear hK K
            (try simp only [Act.put, List.setIfInBounds_toArray])
            refine wpAnyH_takeD (i := 7) (d := some 21) (v := ?v105) rfl rfl (by kernel_rfl) (by kernel_rfl) (by kernel_rfl) (fun _ _ _ h => h) (Or.inl ⟨by rfl, ?hy105⟩) hHeld ?rest105
            case hy105 =>
              intro wS hS
              go_simp
              all_goals with_reducible rfl
            (try simp only [Act.put])
            refine wpAnyH_ready (rs := [8]) (by kernel_rfl) (by simp) (AllReadyH.cons rfl (fun K hK => ?_) AllReadyH.nil)
            rw [if_pos (by rfl)]
            have k2 : wx.cell? ⟨w.heap.size + 1 + 1, 3, none⟩ = some (.slice A k c) := by rw [cell_of_row _ _ _ _ _ _ r2]; rfl
            have f2 : wx.frozen? ⟨w.heap.size + 1 + 1, 3, none⟩ = false := frozen_of_row _ _ _ _ _ r2
            have ry : (wx.setCell ⟨w.heap.size + 1 + 1, 3, none⟩ (.slice Ax (k + 1) cx)).heap[w.heap.size + 1 + 1]? = some (.cells #[.int .i64 (ch : Int), .int .i64 bi, .int .i64 ra, .slice Ax (k + 1) cx] 26 (0, 0)) := heap_setCell_same _ (w.heap.size + 1 + 1) 3 _ _ (.slice Ax (k + 1) cx) r2
            have r1y := (heap_setCell_other wx ⟨w.heap.size + 1 + 1, 3, none⟩ (w.heap.size + 1) (.slice Ax (k + 1) cx) (by simp)).trans r1
            have hby := hb.setCell (p := ⟨w.heap.size + 1 + 1, 3, none⟩) (by show w.heap.size ≤ w.heap.size + 1 + 1; omega) (.slice Ax (k + 1) cx)
            have hoy := ownsRow_setCell_below hownx (a := ⟨w.heap.size + 1 + 1, 3, none⟩) (by show w.heap.size + 1 + 1 < w.heap.size + 3; omega) (.slice Ax (k + 1) cx)
            have hLy := hL.set (a := ⟨w.heap.size + 1 + 1, 3, none⟩) (by show w.heap.size + 1 + 1 < w.heap.size + 3; omega) (.slice Ax (k + 1) cx)
            have hxy := ownsRow_setCell_below hox (a := ⟨w.heap.size + 1 + 1, 3, none⟩) (by show w.heap.size + 1 + 1 < w.heap.size + 3; omega) (.slice Ax (k + 1) cx)
            have hsy : w.heap.size + 3 ≤ (wx.setCell ⟨w.heap.size + 1 + 1, 3, none⟩ (.slice Ax (k + 1) cx)).heap.size := Nat.le_trans hs (by simp [World.setCell])
            clear r2 r1 hb hownx hL hox hs
            go_simp
            refine hK.out _ _ trivial (fun hHeld => ?_)
            clear hK K
            (try simp only [Act.put, List.setIfInBounds_toArray, List.set_cons_zero, List.set_cons_succ])
            refine wpAnyH_done (by kernel_rfl) ?_ _
            go_wp2_with fail
            go_roundw
            case rel => exact ⟨k + 1, L ++ [Chan.mk xA xc xl], Ax, cx, by omega, by go_num, ry, hoy, hLy.snoc hxy, hid (by rw [ints_snoc, hI.out, List.range_succ, List.map_append]; exact congrArg _ (congrArg (fun z => [z]) hxl.out)), r1y, hby, hsy⟩
            case measure => simp [intOf]; omega
    · obtain rfl : k = ch := by omega
      have dk : decide ((k : Int) < (k : Int)) = false := decide_eq_false (by omega)
      have c0 : wr.cell? ⟨w.heap.size + 1 + 1, 0, none⟩ = some (.int .i64 (k : Int)) := by rw [cell_of_row _ _ _ _ _ _ r2]; rfl
      have c1 : wr.cell? ⟨w.heap.size + 1 + 1, 1, none⟩ = some (.int .i64 bi) := by rw [cell_of_row _ _ _ _ _ _ r2]; rfl
      have c2 : wr.cell? ⟨w.heap.size + 1 + 1, 2, none⟩ = some (.int .i64 ra) := by rw [cell_of_row _ _ _ _ _ _ r2]; rfl
      have c3 : wr.cell? ⟨w.heap.size + 1 + 1, 3, none⟩ = some (.slice A k c) := by rw [cell_of_row _ _ _ _ _ _ r2]; rfl
      have hLk := hid (show k = L.length by have := ho.1; simp at this; omega)
      go_wp2_with first | (refine wpList_store_row rfl 26 (.tmp 4) (.tmp 23) rfl rfl (w.heap.size + 1) rfl #[.int .i64 (k : Int), .int .i64 bi, .int .i64 ra, .slice A k c] rfl 26 #[.int .i64 0, .int .i64 0, .int .i64 0, .slice none 0 0] r1 (by kernel_rfl) rfl (by simp [Value.oneCell']) ?_)
      have hb' := below_setRow (g := w.heap.size + 1) hb (by omega) #[.int .i64 (k : Int), .int .i64 bi, .int .i64 ra, .slice A k c]
      have ho' := own_setRow ho (q := w.heap.size + 1) (by omega) #[.int .i64 (k : Int), .int .i64 bi, .int .i64 ra, .slice A k c]
      have hL' : OwnL (wr.setRow (w.heap.size + 1) #[.int .i64 (k : Int), .int .i64 bi, .int .i64 ra, .slice A k c]) (w.heap.size + 3) L := fun x hx => own_setRow (hL x hx) (by omega) _
      refine bodyPost_ret (v := .agg #[.int .i64 (k : Int), .int .i64 bi, .int .i64 ra, .slice A k c]) (results_row1 (fn := Try.f37) (p := 4) (ty := 26) rfl _ _ (w.heap.size + 1) _ _ _ _ rfl (setRow_heap _ _ _ _ _ _ r1) Try.underlying26 rfl (by kernel_rfl)) rfl ?_
      refine ⟨A, c, L, by rw [← hLk.out], ⟨own_sees ho', fun x hx => ⟨own_sees (hL' x hx), own_len (hL' x hx)⟩⟩, hI.out, fun a ha => ?_, fun x hx a ha => ?_, hb'⟩
      · have := (own_addr ho' ha).1; omega
      · have := (own_addr (hL' x hx) ha).1; omega
end Go.Proofs.Ytfinefhebffpcaa
