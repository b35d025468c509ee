/- A file read: info and tags. -/
import Derived.Test.YtkmhmehofipehaaGreatDoorPz10
import Derived.Test.YtkmhmehofipehaaGreatDoorPz11
import Derived.Test.YtkmhmehofipehaaGreatDoorPz12
import Derived.Test.YtkmhmehofipehaaGreatDoorPz13
import Derived.Deep.DeepCutAuto
namespace Go.Proofs.YtkmhmehofipehaaGreatDoor
set_option linter.unusedVariables false
open Go.RowKit
def GetIPost (w : World) (l : List UInt8) (e : Ending) (w' : World) : Prop := e = .returned (.tuple #[(infoOf l).v, .int .i64 (getI l).1]) ∧ Below w.heap.size w w'
theorem igetV_any (t : Nat) (A : Option Addr) (c : Nat) (l : List UInt8) (w : World) (ht : Tab w t) (hl : SeesB w A l) (hc : l.length ≤ c) (hcm : c ≤ maxLen) :
    Calls Tryz.prog 28 #[.pointer (some ⟨t, 0, none⟩), .slice A l.length c] w (GetIPost w l) := by
  show Calls _ _ _ _ (GetPost w (getI l))
  cases hs : startsI l with
  | false =>
    rw [show getI l = (31, 0, 0, 0, 0, 0, 0) by unfold getI; rw [if_pos hs]]
    exact iget_kind t A c l w hl hc hs
  | true =>
    by_cases hn : l.length < 19
    · rw [show getI l = (10, 0, 0, 0, 0, 0, 0) by unfold getI; rw [if_neg (by rw [hs]; simp), if_pos hn]]
      exact iget_end t A c l w hl hc hs hn
    · exact iget_long t A c l w ht hl hc hcm hs (by omega)
def RdCells (g : Nat) (i : InfoV) (Ap : Option Addr) (np cp : Nat) (cnt : Int) (short : Bool) (Ab : Option Addr) (nb cb p : Nat) (j : InfoV) (At : Option Addr) (nt ct : Nat) (Ak : Option Addr) (nk ck : Nat) (tc ts : Int) (Ax : Option Addr) (nx cx : Nat) : Array Value :=
  #[.pointer (some ⟨g, 0, none⟩), .int .i64 i.k, .int .i64 i.ch, .int .i64 i.bi, .int .i64 i.ra, .int .i64 i.bl, .int .i64 i.sh, .slice none 0 0, .slice Ap np cp, .int .i64 cnt, .bool short, .slice Ab nb cb, .int .i64 (p : Int),
    .int .i64 j.k, .int .i64 j.ch, .int .i64 j.bi, .int .i64 j.ra, .int .i64 j.bl, .int .i64 j.sh, .slice At nt ct, .slice Ak nk ck, .int .i64 tc, .int .u32 ts, .slice Ax nx cx]
/-- what a parse stands on, as it was when it was called: the table, the bytes, utf8's tables -/
structure Base (w0 : World) (g : Nat) (Ab : Option Addr) (cb : Nat) (b : List UInt8) : Prop where
  tab : Tab w0 g
  sees : SeesB w0 Ab b
  cap : b.length ≤ cb ∧ cb ≤ maxLen
  tabs : Tabs w0
  len : b.length ≤ 1000000
/-- a reader that has read info and tags -/
def BegPost (w0 w : World) (m g : Nat) (b : List UInt8) (Ab : Option Addr) (cb : Nat) (r : Int × Nat × List TagV) (i : InfoV) (e : Ending) (w' : World) : Prop :=
  e = .returned (.int .i64 r.1) ∧ Below w0.heap.size w0 w' ∧ (r.1 = 0 → ∃ (At : Option Addr) (ct : Nat), w'.heap[m]? = some (.cells (RdCells g i none 0 0 0 false Ab b.length cb (19 + r.2.1) i At r.2.2.length ct none 0 0 0 0 none 0 0) 56 (0, 0)) ∧ SeesT w' At r.2.2 ∧ r.2.2.length ≤ ct)
def begE (b : List UInt8) : Int × Nat × List TagV := if (getI b).1 ≠ 0 then ((getI b).1, 0, []) else getG (b.drop 19)
theorem getI_long {b : List UInt8} (h : (getI b).1 = 0) : 19 ≤ b.length := by
  unfold getI at h
  by_cases h1 : startsI b = false
  · rw [if_pos h1] at h; exact absurd h (by decide)
  · rw [if_neg h1] at h
    by_cases h2 : b.length < 19
    · rw [if_pos h2] at h; exact absurd h (by decide)
    · omega
theorem getG_range (b : List UInt8) : (getG b).2.1 ≤ b.length ∧ ((getG b).1 ≠ 0 → getG b = ((getG b).1, 0, [])) := by
  by_cases h : (getG b).1 = 0
  · obtain ⟨⟨e, n, l⟩, hr⟩ : ∃ r, getG b = r := ⟨_, rfl⟩
    rw [hr] at h ⊢
    simp only at h
    subst h
    exact ⟨(put_getG b hr).2.1, fun h => absurd rfl h⟩
  · have h2 : getG b = ((getG b).1, 0, []) := by
      unfold getG at h ⊢
      by_cases h1 : startsG b = false
      · rw [if_pos h1]
      · rw [if_neg h1] at h ⊢
        by_cases h3 : b.length < 3
        · rw [if_pos h3]
        · rw [if_neg h3] at h ⊢
          unfold finG endG at h ⊢
          split <;> (try rfl)
          split <;> (try rfl)
          split <;> (try rfl)
          rename_i h4 h5 h6
          rw [if_neg h4, if_neg h5, if_neg h6] at h
          exact absurd rfl h
    exact ⟨by rw [h2]; exact Nat.zero_le _, fun _ => h2⟩
section
variable {g : Nat} {i : InfoV} {Ap : Option Addr} {np cp : Nat} {cnt : Int} {short : Bool} {Ab : Option Addr} {nb cb p : Nat} {j : InfoV} {At : Option Addr} {nt ct : Nat} {Ak : Option Addr} {nk ck : Nat} {tc ts : Int} {Ax : Option Addr} {nx cx : Nat}
theorem RdCells_at (q : Nat) : (RdCells g i Ap np cp cnt short Ab nb cb p j At nt ct Ak nk ck tc ts Ax nx cx).setIfInBounds 12 (.int .i64 (q : Int)) = RdCells g i Ap np cp cnt short Ab nb cb q j At nt ct Ak nk ck tc ts Ax nx cx := rfl
theorem RdCells_tags (A : Option Addr) (n c : Nat) : (RdCells g i Ap np cp cnt short Ab nb cb p j At nt ct Ak nk ck tc ts Ax nx cx).setIfInBounds 19 (.slice A n c) = RdCells g i Ap np cp cnt short Ab nb cb p j A n c Ak nk ck tc ts Ax nx cx := rfl
theorem RdCells_not (k : Nat) (z : ByteArray) : (RdCells g i Ap np cp cnt short Ab nb cb p j At nt ct Ak nk ck tc ts Ax nx cx)[k]? ≠ some (.string z) := by
  intro h
  have hk : k < 24 := (Array.getElem?_eq_some_iff.1 h).1
  obtain rfl | rfl | rfl | rfl | rfl | rfl | rfl | rfl | rfl | rfl | rfl | rfl | rfl | rfl | rfl | rfl | rfl | rfl | rfl | rfl | rfl | rfl | rfl | rfl : k = 0 ∨ k = 1 ∨ k = 2 ∨ k = 3 ∨ k = 4 ∨ k = 5 ∨ k = 6 ∨ k = 7 ∨ k = 8 ∨ k = 9 ∨ k = 10 ∨ k = 11 ∨ k = 12 ∨ k = 13 ∨ k = 14 ∨ k = 15 ∨ k = 16 ∨ k = 17 ∨ k = 18 ∨ k = 19 ∨ k = 20 ∨ k = 21 ∨ k = 22 ∨ k = 23 := by omega
  all_goals (simp [RdCells] at h)
/-- tags are not touched by what turns the reader alone, or blocks that are made later -/
theorem SeesT.butRd {w w' : World} {A : Option Addr} {l : List TagV} {m : Nat} {t : TypeId} {fr : Nat × Nat} {R : Nat → Prop} (h : SeesT w A l) (hb : But R w w') (hR : ∀ n, R n → n = m ∨ w.heap.size ≤ n)
    (hm : w.heap[m]? = some (.cells (RdCells g i Ap np cp cnt short Ab nb cb p j At nt ct Ak nk ck tc ts Ax nx cx) t fr)) : SeesT w' A l := by
  intro q hq
  obtain ⟨a, ha, h0, h1⟩ := h q hq
  have key : ∀ (x : Addr) (s : ByteArray), w.cell? x = some (.string s) → w'.cell? x = some (.string s) := by
    intro x s hx
    have hlt := block_lt_of_cell hx
    refine (World.cell?_of_block (w := w) (hb.block _ hlt ?_)).trans hx
    intro hxm
    rcases hR _ hxm with hxm2 | hxm2
    · obtain ⟨xb, xo, xi⟩ := x
      simp only at hxm2
      subst hxm2
      simp only [World.cell?, hm] at hx
      have h3 := RdCells_not (g := g) (i := i) (Ap := Ap) (np := np) (cp := cp) (cnt := cnt) (short := short) (Ab := Ab) (nb := nb) (cb := cb) (p := p) (j := j) (At := At) (nt := nt) (ct := ct) (Ak := Ak) (nk := nk) (ck := ck) (tc := tc) (ts := ts) (Ax := Ax) (nx := nx) (cx := cx) xo s
      cases xi with
      | none => exact absurd hx h3
      | some y => simp at hx
    · omega
  exact ⟨a, ha, key _ _ h0, key _ _ h1⟩
end
theorem but_cell {w : World} (m j : Nat) (v : Value) : But (Only m) w (w.setCell ⟨m, j, none⟩ v) := ⟨rfl, rfl, rfl, by simp [World.setCell], fun b _ hb => heap_setCell_other w _ b _ (fun h => hb h)⟩
theorem but_row {w : World} (m : Nat) (cs : Array Value) : But (Only m) w (w.setRow m cs) := ⟨rfl, rfl, rfl, by simp [World.setRow], fun b _ hb => setRow_other w m b cs (fun h => hb h)⟩
theorem only_here {w : World} {m n : Nat} (h : Only m n) : n = m ∨ w.heap.size ≤ n := .inl h
set_option maxRecDepth 20000 in
set_option maxHeartbeats 4000000 in
theorem begin_info (m g : Nat) (b : List UInt8) (Ab : Option Addr) (cb : Nat) (w0 w : World) (hw : Below w0.heap.size w0 w) (hm : w.heap[m]? = some (.cells (RdCells g InfoV.zero none 0 0 0 false Ab b.length cb 0 InfoV.zero none 0 0 none 0 0 0 0 none 0 0) 56 (0, 0))) (hbm : w0.heap.size ≤ m) (hB : Base w0 g Ab cb b) (hE : (getI b).1 ≠ 0) :
    Calls Tryz.prog 12 #[.pointer (some ⟨m, 0, none⟩)] w (BegPost w0 w m g b Ab cb (begE b) (infoOf b)) := by
  have HR := hid (show begE b = ((getI b).1, 0, []) by unfold begE; rw [if_pos hE])
  have hE0 := hE
  clear hE
  have hG := hid (fun W (hb : Below w0.heap.size w0 W) => igetV_any g Ab cb b W (hB.tab.keep hb hB.tab.lt) (hB.sees.below hb) hB.cap.1 hB.cap.2)
  unfold GetIPost at hG
  generalize infoOf b = iv at *
  obtain ⟨E, hE⟩ : ∃ E, E = (getI b).1 := ⟨_, rfl⟩
  rw [← hE] at hG
  obtain ⟨ik, ich, ibi, ira, ibl, ish⟩ := iv
  unfold InfoV.v at hG
  (try simp only at hG)
  have HM := hid hm
  have HW := hid hw
  rw [← hE] at HR hE0
  have dE : (E != 0) = true := by simpa using hE0
  have hE1 := hid hE0
  clear hE hB hE0
  go_enter Tryz.func12, Tryz.ntmps12
  go_upto_region 1 with fail
  go_cut [3, 4] (fun x y wx => ∃ gx, x = .pointer (some ⟨gx, 0, none⟩) ∧ y = .int .i64 E ∧ wx.heap[gx]? = some (.cells #[.int .i64 ik, .int .i64 ich, .int .i64 ibi, .int .i64 ira, .int .i64 ibl, .int .i64 ish] 27 (0, 0)) ∧ w.heap.size ≤ gx ∧ Below w.heap.size w wx)
  case first =>
    refine wp_region_held_drew (S := fun W => W.heap[m]? = some (.cells (RdCells g InfoV.zero none 0 0 0 false Ab b.length cb 0 InfoV.zero none 0 0 none 0 0 0 0 none 0 0) 56 (0, 0))) (by kernel_rfl) hm (fun hHeld => ?_)
    have hb0 : Below w.heap.size w w.drew := (Below.refl _ _).drew
    replace hm : w.drew.heap[m]? = _ := hm
    have hmlt : m < w.heap.size := (Array.getElem?_eq_some_iff.1 hm).1
    generalize w.drew = wd at *
    refine wpAnyH_takeD (i := 0) (d := some 8) (v := ?v100) rfl rfl (by kernel_rfl) (by kernel_rfl) (by kernel_rfl) (fun _ _ _ h => h) (Or.inl ⟨by rfl, ?hy100⟩) hHeld ?rest100
    case hy100 =>
      intro wS hS
      go_simp
      all_goals with_reducible rfl
    (try simp only [Act.put, List.setIfInBounds_toArray, List.set_cons_zero, List.set_cons_succ])
    refine wpAnyH_takeD (i := 1) (d := some 9) (v := ?v101) rfl rfl (by kernel_rfl) (by kernel_rfl) (by kernel_rfl) (fun _ _ _ h => h) (Or.inl ⟨by rfl, ?hy101⟩) hHeld ?rest101
    case hy101 =>
      intro wS hS
      go_simp
      all_goals with_reducible rfl
    (try simp only [Act.put, List.setIfInBounds_toArray, List.set_cons_zero, List.set_cons_succ])
    refine wpAnyH_takeD (i := 2) (d := some 10) (v := ?v102) rfl rfl (by kernel_rfl) (by kernel_rfl) (by kernel_rfl) (fun _ _ _ h => h) (Or.inl ⟨by rfl, ?hy102⟩) hHeld ?rest102
    case hy102 =>
      intro wS hS
      go_simp
      all_goals with_reducible rfl
    (try simp only [Act.put, List.setIfInBounds_toArray, List.set_cons_zero, List.set_cons_succ])
    refine wpAnyH_takeD (i := 3) (d := some 11) (v := ?v103) rfl rfl (by kernel_rfl) (by kernel_rfl) (by kernel_rfl) (fun _ _ _ h => h) (Or.inl ⟨by rfl, ?hy103⟩) hHeld ?rest103
    case hy103 =>
      intro wS hS
      go_simp
      all_goals with_reducible rfl
    (try simp only [Act.put, List.setIfInBounds_toArray, List.set_cons_zero, List.set_cons_succ])
    refine wpAnyH_takeD (i := 4) (d := some 12) (v := ?v104) rfl rfl (by kernel_rfl) (by kernel_rfl) (by kernel_rfl) (fun _ _ _ h => h) (Or.inl ⟨by rfl, ?hy104⟩) hHeld ?rest104
    case hy104 =>
      intro wS hS
      have k0 : wS.cell? ⟨m, 0, none⟩ = some (.pointer (some ⟨g, 0, none⟩)) := by rw [cell_of_row _ _ _ _ _ _ hS]; rfl
      go_simp
      all_goals with_reducible rfl
    (try simp only [Act.put, List.setIfInBounds_toArray, List.set_cons_zero, List.set_cons_succ])
    refine wpAnyH_takeD (i := 5) (d := some 13) (v := ?v105) rfl rfl (by kernel_rfl) (by kernel_rfl) (by kernel_rfl) (fun _ _ _ h => h) (Or.inl ⟨by rfl, ?hy105⟩) hHeld ?rest105
    case hy105 =>
      intro wS hS
      go_simp
      all_goals with_reducible rfl
    (try simp only [Act.put, List.setIfInBounds_toArray, List.set_cons_zero, List.set_cons_succ])
    refine wpAnyH_takeD (i := 6) (d := some 14) (v := ?v106) rfl rfl (by kernel_rfl) (by kernel_rfl) (by kernel_rfl) (fun _ _ _ h => h) (Or.inl ⟨by rfl, ?hy106⟩) hHeld ?rest106
    case hy106 =>
      intro wS hS
      go_simp
      all_goals with_reducible rfl
    (try simp only [Act.put, List.setIfInBounds_toArray, List.set_cons_zero, List.set_cons_succ])
    refine wpAnyH_takeD (i := 7) (d := some 15) (v := ?v107) rfl rfl (by kernel_rfl) (by kernel_rfl) (by kernel_rfl) (fun _ _ _ h => h) (Or.inl ⟨by rfl, ?hy107⟩) hHeld ?rest107
    case hy107 =>
      intro wS hS
      go_simp
      all_goals with_reducible rfl
    (try simp only [Act.put, List.setIfInBounds_toArray, List.set_cons_zero, List.set_cons_succ])
    refine wpAnyH_takeD (i := 8) (d := some 16) (v := ?v108) rfl rfl (by kernel_rfl) (by kernel_rfl) (by kernel_rfl) (fun _ _ _ h => h) (Or.inl ⟨by rfl, ?hy108⟩) hHeld ?rest108
    case hy108 =>
      intro wS hS
      have k11 : wS.cell? ⟨m, 11, none⟩ = some (.slice Ab b.length cb) := by rw [cell_of_row _ _ _ _ _ _ hS]; rfl
      go_simp
      all_goals with_reducible rfl
    (try simp only [Act.put, List.setIfInBounds_toArray, List.set_cons_zero, List.set_cons_succ])
    refine wpAnyH_ready (rs := [9, 13]) (by kernel_rfl) (by simp) (AllReadyH.cons rfl (fun K hK => ?_) (AllReadyH.cons rfl (fun K hK => ?_) AllReadyH.nil))
    · rw [if_pos (by rfl)]
      go_simp
      refine (hG.out _ (hw.trans (hb0.mono hw.size))).mono ?_
      rintro e w1 ⟨rfl, hbc⟩
      have hb1 := hb0.trans (hbc.mono hb0.size)
      have hm2 := (hbc.block m (Nat.lt_of_lt_of_le hmlt hb0.size)).trans hm
      go_wp2_with fail
      refine hK.out _ _ hm2 (fun hHeld => ?_)
      clear hK K
      (try simp only [Act.put, List.setIfInBounds_toArray, List.set_cons_zero, List.set_cons_succ])
      refine wpAnyH_takeD (i := 10) (d := some 7) (v := ?v109) rfl rfl (by kernel_rfl) (by kernel_rfl) (by kernel_rfl) (fun _ _ _ h => h) (Or.inl ⟨by rfl, ?hy109⟩) hHeld ?rest109
      case hy109 =>
        intro wS hS
        go_simp
        all_goals with_reducible rfl
      (try simp only [Act.put, List.setIfInBounds_toArray, List.set_cons_zero, List.set_cons_succ])
      refine wpAnyH_takeD (i := 11) (d := some 18) (v := ?v110) rfl rfl (by kernel_rfl) (by kernel_rfl) (by kernel_rfl) (fun _ _ _ h => h) (Or.inl ⟨by rfl, ?hy110⟩) hHeld ?rest110
      case hy110 =>
        intro wS hS
        go_simp
        all_goals with_reducible rfl
      (try simp only [Act.put, List.setIfInBounds_toArray, List.set_cons_zero, List.set_cons_succ])
      refine wpAnyH_takeD (i := 12) (d := some 19) (v := ?v111) rfl rfl (by kernel_rfl) (by kernel_rfl) (by kernel_rfl) (fun _ _ _ h => h) (Or.inl ⟨by rfl, ?hy111⟩) hHeld ?rest111
      case hy111 =>
        intro wS hS
        go_simp
        all_goals with_reducible rfl
      (try simp only [Act.put, List.setIfInBounds_toArray, List.set_cons_zero, List.set_cons_succ])
      refine wpAnyH_ready (rs := [13]) (by kernel_rfl) (by simp) (AllReadyH.cons rfl (fun K hK => ?_) AllReadyH.nil)
      rw [if_pos (by rfl)]
      have hba : Below w1.heap.size w1 (w1.alloc (.cells #[.int .i64 0, .int .i64 0, .int .i64 0, .int .i64 0, .int .i64 0, .int .i64 0] 27)) := (Below.refl _ _).alloc (Nat.le_refl _) _
      have hra := heap_alloc_new w1 (.cells #[.int .i64 0, .int .i64 0, .int .i64 0, .int .i64 0, .int .i64 0, .int .i64 0] 27)
      have hb2 := hb1.trans (hba.mono hb1.size)
      have hm3 := (hba.block m (Nat.lt_of_lt_of_le hmlt hb1.size)).trans hm2
      have hga := hb1.size
      go_simp
      generalize w1.heap.size = gx at *
      generalize w1.alloc (.cells #[.int .i64 0, .int .i64 0, .int .i64 0, .int .i64 0, .int .i64 0, .int .i64 0] 27) = w2 at *
      refine hK.out _ _ hm3 (fun hHeld => ?_)
      clear hK K
      (try simp only [Act.put, List.setIfInBounds_toArray, List.set_cons_zero, List.set_cons_succ])
      refine wpAnyH_ready (rs := [14]) (by kernel_rfl) (by simp) (AllReadyH.cons rfl (fun K hK => ?_) AllReadyH.nil)
      rw [if_pos (by rfl)]
      refine wp_store_row 27 (.tmp 3) (.tmp 18) rfl rfl gx rfl #[.int .i64 ik, .int .i64 ich, .int .i64 ibi, .int .i64 ira, .int .i64 ibl, .int .i64 ish] rfl 27 #[.int .i64 0, .int .i64 0, .int .i64 0, .int .i64 0, .int .i64 0, .int .i64 0] hra (by kernel_rfl) rfl (by simp [Value.oneCell']) ?_
      have hrS := setRow_heap _ gx _ #[.int .i64 ik, .int .i64 ich, .int .i64 ibi, .int .i64 ira, .int .i64 ibl, .int .i64 ish] _ _ hra
      have hmS := (setRow_other w2 gx m #[.int .i64 ik, .int .i64 ich, .int .i64 ibi, .int .i64 ira, .int .i64 ibl, .int .i64 ish] (by omega)).trans hm3
      have hbS := below_setRow hb2 hga #[.int .i64 ik, .int .i64 ich, .int .i64 ibi, .int .i64 ira, .int .i64 ibl, .int .i64 ish]
      refine hK.out _ _ hmS (fun hHeld => ?_)
      clear hK K
      (try simp only [Act.put, List.setIfInBounds_toArray, List.set_cons_zero, List.set_cons_succ])
      refine wpAnyH_takeD (i := 15) (d := some 4) (v := ?v112) rfl rfl (by kernel_rfl) (by kernel_rfl) (by kernel_rfl) (fun _ _ _ h => h) (Or.inl ⟨by rfl, ?hy112⟩) hHeld ?rest112
      case hy112 =>
        intro wS hS
        go_simp
        all_goals with_reducible rfl
      (try simp only [Act.put, List.setIfInBounds_toArray, List.set_cons_zero, List.set_cons_succ])
      refine wpAnyH_done (by kernel_rfl) ?_ _
      go_wp2_with fail
      go_meet
      exact ⟨gx, rfl, rfl, hrS, hga, hbS⟩
    · rw [if_pos (by rfl)]
      have hba : Below wd.heap.size wd (wd.alloc (.cells #[.int .i64 0, .int .i64 0, .int .i64 0, .int .i64 0, .int .i64 0, .int .i64 0] 27)) := (Below.refl _ _).alloc (Nat.le_refl _) _
      have hra := heap_alloc_new wd (.cells #[.int .i64 0, .int .i64 0, .int .i64 0, .int .i64 0, .int .i64 0, .int .i64 0] 27)
      have hb1 := hb0.trans (hba.mono hb0.size)
      have hm3 := (hba.block m (Nat.lt_of_lt_of_le hmlt hb0.size)).trans hm
      have hga := hb0.size
      go_simp
      generalize wd.heap.size = gx at *
      generalize wd.alloc (.cells #[.int .i64 0, .int .i64 0, .int .i64 0, .int .i64 0, .int .i64 0, .int .i64 0] 27) = w1 at *
      refine hK.out _ _ hm3 (fun hHeld => ?_)
      clear hK K
      (try simp only [Act.put, List.setIfInBounds_toArray, List.set_cons_zero, List.set_cons_succ])
      refine wpAnyH_ready (rs := [9]) (by kernel_rfl) (by simp) (AllReadyH.cons rfl (fun K hK => ?_) AllReadyH.nil)
      rw [if_pos (by rfl)]
      go_simp
      refine (hG.out _ (hw.trans (hb1.mono hw.size))).mono ?_
      rintro e w2 ⟨rfl, hbc⟩
      have hb2 := hb1.trans (hbc.mono hb1.size)
      have hm2 := (hbc.block m (Nat.lt_of_lt_of_le hmlt hb1.size)).trans hm3
      have hra2 := (hbc.block gx (Array.getElem?_eq_some_iff.1 hra).1).trans hra
      go_wp2_with fail
      refine hK.out _ _ hm2 (fun hHeld => ?_)
      clear hK K
      (try simp only [Act.put, List.setIfInBounds_toArray, List.set_cons_zero, List.set_cons_succ])
      refine wpAnyH_takeD (i := 10) (d := some 7) (v := ?v113) rfl rfl (by kernel_rfl) (by kernel_rfl) (by kernel_rfl) (fun _ _ _ h => h) (Or.inl ⟨by rfl, ?hy113⟩) hHeld ?rest113
      case hy113 =>
        intro wS hS
        go_simp
        all_goals with_reducible rfl
      (try simp only [Act.put, List.setIfInBounds_toArray, List.set_cons_zero, List.set_cons_succ])
      refine wpAnyH_takeD (i := 11) (d := some 18) (v := ?v114) rfl rfl (by kernel_rfl) (by kernel_rfl) (by kernel_rfl) (fun _ _ _ h => h) (Or.inl ⟨by rfl, ?hy114⟩) hHeld ?rest114
      case hy114 =>
        intro wS hS
        go_simp
        all_goals with_reducible rfl
      (try simp only [Act.put, List.setIfInBounds_toArray, List.set_cons_zero, List.set_cons_succ])
      refine wpAnyH_takeD (i := 12) (d := some 19) (v := ?v115) rfl rfl (by kernel_rfl) (by kernel_rfl) (by kernel_rfl) (fun _ _ _ h => h) (Or.inl ⟨by rfl, ?hy115⟩) hHeld ?rest115
      case hy115 =>
        intro wS hS
        go_simp
        all_goals with_reducible rfl
      (try simp only [Act.put, List.setIfInBounds_toArray, List.set_cons_zero, List.set_cons_succ])
      refine wpAnyH_ready (rs := [14]) (by kernel_rfl) (by simp) (AllReadyH.cons rfl (fun K hK => ?_) AllReadyH.nil)
      rw [if_pos (by rfl)]
      refine wp_store_row 27 (.tmp 3) (.tmp 18) rfl rfl gx rfl #[.int .i64 ik, .int .i64 ich, .int .i64 ibi, .int .i64 ira, .int .i64 ibl, .int .i64 ish] rfl 27 #[.int .i64 0, .int .i64 0, .int .i64 0, .int .i64 0, .int .i64 0, .int .i64 0] hra2 (by kernel_rfl) rfl (by simp [Value.oneCell']) ?_
      have hrS := setRow_heap _ gx _ #[.int .i64 ik, .int .i64 ich, .int .i64 ibi, .int .i64 ira, .int .i64 ibl, .int .i64 ish] _ _ hra2
      have hmS := (setRow_other w2 gx m #[.int .i64 ik, .int .i64 ich, .int .i64 ibi, .int .i64 ira, .int .i64 ibl, .int .i64 ish] (by omega)).trans hm2
      have hbS := below_setRow hb2 hga #[.int .i64 ik, .int .i64 ich, .int .i64 ibi, .int .i64 ira, .int .i64 ibl, .int .i64 ish]
      refine hK.out _ _ hmS (fun hHeld => ?_)
      clear hK K
      (try simp only [Act.put, List.setIfInBounds_toArray, List.set_cons_zero, List.set_cons_succ])
      refine wpAnyH_takeD (i := 15) (d := some 4) (v := ?v116) rfl rfl (by kernel_rfl) (by kernel_rfl) (by kernel_rfl) (fun _ _ _ h => h) (Or.inl ⟨by rfl, ?hy116⟩) hHeld ?rest116
      case hy116 =>
        intro wS hS
        go_simp
        all_goals with_reducible rfl
      (try simp only [Act.put, List.setIfInBounds_toArray, List.set_cons_zero, List.set_cons_succ])
      refine wpAnyH_done (by kernel_rfl) ?_ _
      go_wp2_with fail
      go_meet
      exact ⟨gx, rfl, rfl, hrS, hga, hbS⟩
  case rest =>
    obtain ⟨gx, rfl, rfl, hrx, hgx, hbx⟩ := hcut
    have HF := hid (show BegPost w0 w m g b Ab cb (begE b) ⟨ik, ich, ibi, ira, ibl, ish⟩ (.returned (.int .i64 E)) wc from by
      rw [HR.out]
      exact ⟨rfl, HW.out.trans (hbx.mono HW.out.size), fun h => absurd h hE1.out⟩)
    clear HR hG hrx hbx HW
    go_wp2_with fail
    go_ret
    exact HF.out
set_option maxRecDepth 20000 in
set_option maxHeartbeats 4000000 in
theorem begin_bad (m g : Nat) (b : List UInt8) (Ab : Option Addr) (cb : Nat) (w0 w : World) (hw : Below w0.heap.size w0 w) (hm : w.heap[m]? = some (.cells (RdCells g InfoV.zero none 0 0 0 false Ab b.length cb 0 InfoV.zero none 0 0 none 0 0 0 0 none 0 0) 56 (0, 0))) (hbm : w0.heap.size ≤ m) (hB : Base w0 g Ab cb b) (hE : (getI b).1 = 0) (hz : (getG (b.drop 19)).1 ≠ 0) :
    Calls Tryz.prog 12 #[.pointer (some ⟨m, 0, none⟩)] w (BegPost w0 w m g b Ab cb (begE b) (infoOf b)) := by
  have hE0 := hE
  have hl19 := getI_long hE
  have hGR := (getG_range (b.drop 19)).1
  have hGB := (getG_range (b.drop 19)).2
  have HR := hid (show begE b = getG (b.drop 19) by unfold begE; rw [if_neg (by rw [hE]; simp)])
  clear hE
  have hdl : (b.drop 19).length = b.length - 19 := List.length_drop
  have hlen := hB.len
  have HRS := hid (fun W hW hs => rest_any m _ 56 Ab cb 19 b W hW (show (RdCells g InfoV.zero none 0 0 0 false Ab b.length cb 19 InfoV.zero none 0 0 none 0 0 0 0 none 0 0)[11]? = some (.slice Ab b.length cb) from rfl) (show (RdCells g InfoV.zero none 0 0 0 false Ab b.length cb 19 InfoV.zero none 0 0 none 0 0 0 0 none 0 0)[12]? = some (.int .i64 ((19 : Nat) : Int)) from rfl) hs hB.cap.1 hB.cap.2 hl19)
  have HTG := hid (fun A c W (hb : Below w0.heap.size w0 W) hs h1 h2 => tagget_any g A c (b.drop 19) W (hB.tab.keep hb hB.tab.lt) hs h1 h2 (by rw [hdl]; omega) (hB.tabs.below hb))
  have hG := hid (fun W (hb : Below w0.heap.size w0 W) => igetV_any g Ab cb b W (hB.tab.keep hb hB.tab.lt) (hB.sees.below hb) hB.cap.1 hB.cap.2)
  unfold GetIPost at hG
  generalize infoOf b = iv at *
  obtain ⟨E, hE⟩ : ∃ E, E = (getI b).1 := ⟨_, rfl⟩
  rw [← hE] at hG
  obtain ⟨ik, ich, ibi, ira, ibl, ish⟩ := iv
  unfold InfoV.v at hG
  (try simp only at hG)
  have HM := hid hm
  have HW := hid hw
  rw [← hE] at hE0
  subst hE0
  obtain ⟨⟨er, nr, lr⟩, hr⟩ : ∃ r, getG (b.drop 19) = r := ⟨_, rfl⟩
  rw [hr] at hz hGR hGB HR HTG
  simp only at hz hGR hGB
  unfold GetGPost at HTG
  simp only at HTG
  rw [hdl] at hGR
  have HN := hid (show 19 + nr ≤ 1000000 by omega)
  have HBS := hid hB.sees
  generalize b.drop 19 = b19 at *
  clear hE hGR hdl hr hB hlen hl19
  have hgb := hGB hz
  simp only [Prod.mk.injEq, true_and] at hgb
  obtain ⟨rfl, rfl⟩ := hgb
  have dE2 : (er != 0) = true := by simpa using hz
  have hz2 := hid hz
  clear hz
  clear hGB
  go_enter Tryz.func12, Tryz.ntmps12
  go_upto_region 1 with fail
  go_cut [3, 4] (fun x y wx => ∃ gx, x = .pointer (some ⟨gx, 0, none⟩) ∧ y = .int .i64 0 ∧ wx.heap[gx]? = some (.cells #[.int .i64 ik, .int .i64 ich, .int .i64 ibi, .int .i64 ira, .int .i64 ibl, .int .i64 ish] 27 (0, 0)) ∧ w.heap.size ≤ gx ∧ Below w.heap.size w wx)
  case first =>
    refine wp_region_held_drew (S := fun W => W.heap[m]? = some (.cells (RdCells g InfoV.zero none 0 0 0 false Ab b.length cb 0 InfoV.zero none 0 0 none 0 0 0 0 none 0 0) 56 (0, 0))) (by kernel_rfl) hm (fun hHeld => ?_)
    have hb0 : Below w.heap.size w w.drew := (Below.refl _ _).drew
    replace hm : w.drew.heap[m]? = _ := hm
    have hmlt : m < w.heap.size := (Array.getElem?_eq_some_iff.1 hm).1
    generalize w.drew = wd at *
    refine wpAnyH_takeD (i := 0) (d := some 8) (v := ?v117) rfl rfl (by kernel_rfl) (by kernel_rfl) (by kernel_rfl) (fun _ _ _ h => h) (Or.inl ⟨by rfl, ?hy117⟩) hHeld ?rest117
    case hy117 =>
      intro wS hS
      go_simp
      all_goals with_reducible rfl
    (try simp only [Act.put, List.setIfInBounds_toArray, List.set_cons_zero, List.set_cons_succ])
    refine wpAnyH_takeD (i := 1) (d := some 9) (v := ?v118) rfl rfl (by kernel_rfl) (by kernel_rfl) (by kernel_rfl) (fun _ _ _ h => h) (Or.inl ⟨by rfl, ?hy118⟩) hHeld ?rest118
    case hy118 =>
      intro wS hS
      go_simp
      all_goals with_reducible rfl
    (try simp only [Act.put, List.setIfInBounds_toArray, List.set_cons_zero, List.set_cons_succ])
    refine wpAnyH_takeD (i := 2) (d := some 10) (v := ?v119) rfl rfl (by kernel_rfl) (by kernel_rfl) (by kernel_rfl) (fun _ _ _ h => h) (Or.inl ⟨by rfl, ?hy119⟩) hHeld ?rest119
    case hy119 =>
      intro wS hS
      go_simp
      all_goals with_reducible rfl
    (try simp only [Act.put, List.setIfInBounds_toArray, List.set_cons_zero, List.set_cons_succ])
    refine wpAnyH_takeD (i := 3) (d := some 11) (v := ?v120) rfl rfl (by kernel_rfl) (by kernel_rfl) (by kernel_rfl) (fun _ _ _ h => h) (Or.inl ⟨by rfl, ?hy120⟩) hHeld ?rest120
    case hy120 =>
      intro wS hS
      go_simp
      all_goals with_reducible rfl
    (try simp only [Act.put, List.setIfInBounds_toArray, List.set_cons_zero, List.set_cons_succ])
    refine wpAnyH_takeD (i := 4) (d := some 12) (v := ?v121) rfl rfl (by kernel_rfl) (by kernel_rfl) (by kernel_rfl) (fun _ _ _ h => h) (Or.inl ⟨by rfl, ?hy121⟩) hHeld ?rest121
    case hy121 =>
      intro wS hS
      have k0 : wS.cell? ⟨m, 0, none⟩ = some (.pointer (some ⟨g, 0, none⟩)) := by rw [cell_of_row _ _ _ _ _ _ hS]; rfl
      go_simp
      all_goals with_reducible rfl
    (try simp only [Act.put, List.setIfInBounds_toArray, List.set_cons_zero, List.set_cons_succ])
    refine wpAnyH_takeD (i := 5) (d := some 13) (v := ?v122) rfl rfl (by kernel_rfl) (by kernel_rfl) (by kernel_rfl) (fun _ _ _ h => h) (Or.inl ⟨by rfl, ?hy122⟩) hHeld ?rest122
    case hy122 =>
      intro wS hS
      go_simp
      all_goals with_reducible rfl
    (try simp only [Act.put, List.setIfInBounds_toArray, List.set_cons_zero, List.set_cons_succ])
    refine wpAnyH_takeD (i := 6) (d := some 14) (v := ?v123) rfl rfl (by kernel_rfl) (by kernel_rfl) (by kernel_rfl) (fun _ _ _ h => h) (Or.inl ⟨by rfl, ?hy123⟩) hHeld ?rest123
    case hy123 =>
      intro wS hS
      go_simp
      all_goals with_reducible rfl
    (try simp only [Act.put, List.setIfInBounds_toArray, List.set_cons_zero, List.set_cons_succ])
    refine wpAnyH_takeD (i := 7) (d := some 15) (v := ?v124) rfl rfl (by kernel_rfl) (by kernel_rfl) (by kernel_rfl) (fun _ _ _ h => h) (Or.inl ⟨by rfl, ?hy124⟩) hHeld ?rest124
    case hy124 =>
      intro wS hS
      go_simp
      all_goals with_reducible rfl
    (try simp only [Act.put, List.setIfInBounds_toArray, List.set_cons_zero, List.set_cons_succ])
    refine wpAnyH_takeD (i := 8) (d := some 16) (v := ?v125) rfl rfl (by kernel_rfl) (by kernel_rfl) (by kernel_rfl) (fun _ _ _ h => h) (Or.inl ⟨by rfl, ?hy125⟩) hHeld ?rest125
    case hy125 =>
      intro wS hS
      have k11 : wS.cell? ⟨m, 11, none⟩ = some (.slice Ab b.length cb) := by rw [cell_of_row _ _ _ _ _ _ hS]; rfl
      go_simp
      all_goals with_reducible rfl
    (try simp only [Act.put, List.setIfInBounds_toArray, List.set_cons_zero, List.set_cons_succ])
    refine wpAnyH_ready (rs := [9, 13]) (by kernel_rfl) (by simp) (AllReadyH.cons rfl (fun K hK => ?_) (AllReadyH.cons rfl (fun K hK => ?_) AllReadyH.nil))
    · rw [if_pos (by rfl)]
      go_simp
      refine (hG.out _ (hw.trans (hb0.mono hw.size))).mono ?_
      rintro e w1 ⟨rfl, hbc⟩
      have hb1 := hb0.trans (hbc.mono hb0.size)
      have hm2 := (hbc.block m (Nat.lt_of_lt_of_le hmlt hb0.size)).trans hm
      go_wp2_with fail
      refine hK.out _ _ hm2 (fun hHeld => ?_)
      clear hK K
      (try simp only [Act.put, List.setIfInBounds_toArray, List.set_cons_zero, List.set_cons_succ])
      refine wpAnyH_takeD (i := 10) (d := some 7) (v := ?v126) rfl rfl (by kernel_rfl) (by kernel_rfl) (by kernel_rfl) (fun _ _ _ h => h) (Or.inl ⟨by rfl, ?hy126⟩) hHeld ?rest126
      case hy126 =>
        intro wS hS
        go_simp
        all_goals with_reducible rfl
      (try simp only [Act.put, List.setIfInBounds_toArray, List.set_cons_zero, List.set_cons_succ])
      refine wpAnyH_takeD (i := 11) (d := some 18) (v := ?v127) rfl rfl (by kernel_rfl) (by kernel_rfl) (by kernel_rfl) (fun _ _ _ h => h) (Or.inl ⟨by rfl, ?hy127⟩) hHeld ?rest127
      case hy127 =>
        intro wS hS
        go_simp
        all_goals with_reducible rfl
      (try simp only [Act.put, List.setIfInBounds_toArray, List.set_cons_zero, List.set_cons_succ])
      refine wpAnyH_takeD (i := 12) (d := some 19) (v := ?v128) rfl rfl (by kernel_rfl) (by kernel_rfl) (by kernel_rfl) (fun _ _ _ h => h) (Or.inl ⟨by rfl, ?hy128⟩) hHeld ?rest128
      case hy128 =>
        intro wS hS
        go_simp
        all_goals with_reducible rfl
      (try simp only [Act.put, List.setIfInBounds_toArray, List.set_cons_zero, List.set_cons_succ])
      refine wpAnyH_ready (rs := [13]) (by kernel_rfl) (by simp) (AllReadyH.cons rfl (fun K hK => ?_) AllReadyH.nil)
      rw [if_pos (by rfl)]
      have hba : Below w1.heap.size w1 (w1.alloc (.cells #[.int .i64 0, .int .i64 0, .int .i64 0, .int .i64 0, .int .i64 0, .int .i64 0] 27)) := (Below.refl _ _).alloc (Nat.le_refl _) _
      have hra := heap_alloc_new w1 (.cells #[.int .i64 0, .int .i64 0, .int .i64 0, .int .i64 0, .int .i64 0, .int .i64 0] 27)
      have hb2 := hb1.trans (hba.mono hb1.size)
      have hm3 := (hba.block m (Nat.lt_of_lt_of_le hmlt hb1.size)).trans hm2
      have hga := hb1.size
      go_simp
      generalize w1.heap.size = gx at *
      generalize w1.alloc (.cells #[.int .i64 0, .int .i64 0, .int .i64 0, .int .i64 0, .int .i64 0, .int .i64 0] 27) = w2 at *
      refine hK.out _ _ hm3 (fun hHeld => ?_)
      clear hK K
      (try simp only [Act.put, List.setIfInBounds_toArray, List.set_cons_zero, List.set_cons_succ])
      refine wpAnyH_ready (rs := [14]) (by kernel_rfl) (by simp) (AllReadyH.cons rfl (fun K hK => ?_) AllReadyH.nil)
      rw [if_pos (by rfl)]
      refine wp_store_row 27 (.tmp 3) (.tmp 18) rfl rfl gx rfl #[.int .i64 ik, .int .i64 ich, .int .i64 ibi, .int .i64 ira, .int .i64 ibl, .int .i64 ish] rfl 27 #[.int .i64 0, .int .i64 0, .int .i64 0, .int .i64 0, .int .i64 0, .int .i64 0] hra (by kernel_rfl) rfl (by simp [Value.oneCell']) ?_
      have hrS := setRow_heap _ gx _ #[.int .i64 ik, .int .i64 ich, .int .i64 ibi, .int .i64 ira, .int .i64 ibl, .int .i64 ish] _ _ hra
      have hmS := (setRow_other w2 gx m #[.int .i64 ik, .int .i64 ich, .int .i64 ibi, .int .i64 ira, .int .i64 ibl, .int .i64 ish] (by omega)).trans hm3
      have hbS := below_setRow hb2 hga #[.int .i64 ik, .int .i64 ich, .int .i64 ibi, .int .i64 ira, .int .i64 ibl, .int .i64 ish]
      refine hK.out _ _ hmS (fun hHeld => ?_)
      clear hK K
      (try simp only [Act.put, List.setIfInBounds_toArray, List.set_cons_zero, List.set_cons_succ])
      refine wpAnyH_takeD (i := 15) (d := some 4) (v := ?v129) rfl rfl (by kernel_rfl) (by kernel_rfl) (by kernel_rfl) (fun _ _ _ h => h) (Or.inl ⟨by rfl, ?hy129⟩) hHeld ?rest129
      case hy129 =>
        intro wS hS
        go_simp
        all_goals with_reducible rfl
      (try simp only [Act.put, List.setIfInBounds_toArray, List.set_cons_zero, List.set_cons_succ])
      refine wpAnyH_done (by kernel_rfl) ?_ _
      go_wp2_with fail
      go_meet
      exact ⟨gx, rfl, rfl, hrS, hga, hbS⟩
    · rw [if_pos (by rfl)]
      have hba : Below wd.heap.size wd (wd.alloc (.cells #[.int .i64 0, .int .i64 0, .int .i64 0, .int .i64 0, .int .i64 0, .int .i64 0] 27)) := (Below.refl _ _).alloc (Nat.le_refl _) _
      have hra := heap_alloc_new wd (.cells #[.int .i64 0, .int .i64 0, .int .i64 0, .int .i64 0, .int .i64 0, .int .i64 0] 27)
      have hb1 := hb0.trans (hba.mono hb0.size)
      have hm3 := (hba.block m (Nat.lt_of_lt_of_le hmlt hb0.size)).trans hm
      have hga := hb0.size
      go_simp
      generalize wd.heap.size = gx at *
      generalize wd.alloc (.cells #[.int .i64 0, .int .i64 0, .int .i64 0, .int .i64 0, .int .i64 0, .int .i64 0] 27) = w1 at *
      refine hK.out _ _ hm3 (fun hHeld => ?_)
      clear hK K
      (try simp only [Act.put, List.setIfInBounds_toArray, List.set_cons_zero, List.set_cons_succ])
      refine wpAnyH_ready (rs := [9]) (by kernel_rfl) (by simp) (AllReadyH.cons rfl (fun K hK => ?_) AllReadyH.nil)
      rw [if_pos (by rfl)]
      go_simp
      refine (hG.out _ (hw.trans (hb1.mono hw.size))).mono ?_
      rintro e w2 ⟨rfl, hbc⟩
      have hb2 := hb1.trans (hbc.mono hb1.size)
      have hm2 := (hbc.block m (Nat.lt_of_lt_of_le hmlt hb1.size)).trans hm3
      have hra2 := (hbc.block gx (Array.getElem?_eq_some_iff.1 hra).1).trans hra
      go_wp2_with fail
      refine hK.out _ _ hm2 (fun hHeld => ?_)
      clear hK K
      (try simp only [Act.put, List.setIfInBounds_toArray, List.set_cons_zero, List.set_cons_succ])
      refine wpAnyH_takeD (i := 10) (d := some 7) (v := ?v130) rfl rfl (by kernel_rfl) (by kernel_rfl) (by kernel_rfl) (fun _ _ _ h => h) (Or.inl ⟨by rfl, ?hy130⟩) hHeld ?rest130
      case hy130 =>
        intro wS hS
        go_simp
        all_goals with_reducible rfl
      (try simp only [Act.put, List.setIfInBounds_toArray, List.set_cons_zero, List.set_cons_succ])
      refine wpAnyH_takeD (i := 11) (d := some 18) (v := ?v131) rfl rfl (by kernel_rfl) (by kernel_rfl) (by kernel_rfl) (fun _ _ _ h => h) (Or.inl ⟨by rfl, ?hy131⟩) hHeld ?rest131
      case hy131 =>
        intro wS hS
        go_simp
        all_goals with_reducible rfl
      (try simp only [Act.put, List.setIfInBounds_toArray, List.set_cons_zero, List.set_cons_succ])
      refine wpAnyH_takeD (i := 12) (d := some 19) (v := ?v132) rfl rfl (by kernel_rfl) (by kernel_rfl) (by kernel_rfl) (fun _ _ _ h => h) (Or.inl ⟨by rfl, ?hy132⟩) hHeld ?rest132
      case hy132 =>
        intro wS hS
        go_simp
        all_goals with_reducible rfl
      (try simp only [Act.put, List.setIfInBounds_toArray, List.set_cons_zero, List.set_cons_succ])
      refine wpAnyH_ready (rs := [14]) (by kernel_rfl) (by simp) (AllReadyH.cons rfl (fun K hK => ?_) AllReadyH.nil)
      rw [if_pos (by rfl)]
      refine wp_store_row 27 (.tmp 3) (.tmp 18) rfl rfl gx rfl #[.int .i64 ik, .int .i64 ich, .int .i64 ibi, .int .i64 ira, .int .i64 ibl, .int .i64 ish] rfl 27 #[.int .i64 0, .int .i64 0, .int .i64 0, .int .i64 0, .int .i64 0, .int .i64 0] hra2 (by kernel_rfl) rfl (by simp [Value.oneCell']) ?_
      have hrS := setRow_heap _ gx _ #[.int .i64 ik, .int .i64 ich, .int .i64 ibi, .int .i64 ira, .int .i64 ibl, .int .i64 ish] _ _ hra2
      have hmS := (setRow_other w2 gx m #[.int .i64 ik, .int .i64 ich, .int .i64 ibi, .int .i64 ira, .int .i64 ibl, .int .i64 ish] (by omega)).trans hm2
      have hbS := below_setRow hb2 hga #[.int .i64 ik, .int .i64 ich, .int .i64 ibi, .int .i64 ira, .int .i64 ibl, .int .i64 ish]
      refine hK.out _ _ hmS (fun hHeld => ?_)
      clear hK K
      (try simp only [Act.put, List.setIfInBounds_toArray, List.set_cons_zero, List.set_cons_succ])
      refine wpAnyH_takeD (i := 15) (d := some 4) (v := ?v133) rfl rfl (by kernel_rfl) (by kernel_rfl) (by kernel_rfl) (fun _ _ _ h => h) (Or.inl ⟨by rfl, ?hy133⟩) hHeld ?rest133
      case hy133 =>
        intro wS hS
        go_simp
        all_goals with_reducible rfl
      (try simp only [Act.put, List.setIfInBounds_toArray, List.set_cons_zero, List.set_cons_succ])
      refine wpAnyH_done (by kernel_rfl) ?_ _
      go_wp2_with fail
      go_meet
      exact ⟨gx, rfl, rfl, hrS, hga, hbS⟩
  case rest =>
    obtain ⟨gx, rfl, rfl, hrx, hgx, hbx⟩ := hcut
    have hmw : m < w.heap.size := (Array.getElem?_eq_some_iff.1 HM.out).1
    have hmc := (hbx.block m hmw).trans HM.out
    have c12 : wc.cell? ⟨m, 12, none⟩ = some (.int .i64 0) := by rw [cell_of_row _ _ _ _ _ _ hmc]; rfl
    have f12 : wc.frozen? ⟨m, 12, none⟩ = false := frozen_of_row _ _ _ _ _ hmc
    have hm4 := heap_setCell_same wc m 12 _ 56 (.int .i64 ((19 : Nat) : Int)) hmc
    rw [RdCells_at] at hm4
    have hwc := HW.out.trans (hbx.mono HW.out.size)
    have hw4 := hwc.setCell (p := ⟨m, 12, none⟩) hbm (.int .i64 ((19 : Nat) : Int))
    have hrx4 := (heap_setCell_other wc ⟨m, 12, none⟩ gx (.int .i64 ((19 : Nat) : Int)) (by show gx ≠ m; omega)).trans hrx
    clear hG hrx hbx hmc hwc HW HM
    go_wp2_with fail
    clear c12 f12
    generalize hw4e : wc.setCell ⟨m, 12, none⟩ (.int .i64 ((19 : Nat) : Int)) = w4 at *
    clear hw4e
    refine wp_region_held_drew (S := fun W => W.heap[m]? = some (.cells (RdCells g InfoV.zero none 0 0 0 false Ab b.length cb 19 InfoV.zero none 0 0 none 0 0 0 0 none 0 0) 56 (0, 0))) (by kernel_rfl) hm4 (fun hHeld => ?_)
    have hb0 : Below w4.heap.size w4 w4.drew := (Below.refl _ _).drew
    replace hm4 : w4.drew.heap[m]? = _ := hm4
    have hmlt : m < w4.heap.size := (Array.getElem?_eq_some_iff.1 hm4).1
    generalize hwd : w4.drew = wd at *
    clear hwd
    refine wpAnyH_takeD (i := 0) (d := some 27) (v := ?v134) rfl rfl (by kernel_rfl) (by kernel_rfl) (by kernel_rfl) (fun _ _ _ h => h) (Or.inl ⟨by rfl, ?hy134⟩) hHeld ?rest134
    case hy134 =>
      intro wS hS
      go_simp
      all_goals with_reducible rfl
    (try simp only [Act.put, List.setIfInBounds_toArray, List.set_cons_zero, List.set_cons_succ])
    refine wpAnyH_takeD (i := 1) (d := some 28) (v := ?v135) rfl rfl (by kernel_rfl) (by kernel_rfl) (by kernel_rfl) (fun _ _ _ h => h) (Or.inl ⟨by rfl, ?hy135⟩) hHeld ?rest135
    case hy135 =>
      intro wS hS
      go_simp
      all_goals with_reducible rfl
    (try simp only [Act.put, List.setIfInBounds_toArray, List.set_cons_zero, List.set_cons_succ])
    refine wpAnyH_takeD (i := 2) (d := some 29) (v := ?v136) rfl rfl (by kernel_rfl) (by kernel_rfl) (by kernel_rfl) (fun _ _ _ h => h) (Or.inl ⟨by rfl, ?hy136⟩) hHeld ?rest136
    case hy136 =>
      intro wS hS
      go_simp
      all_goals with_reducible rfl
    (try simp only [Act.put, List.setIfInBounds_toArray, List.set_cons_zero, List.set_cons_succ])
    refine wpAnyH_takeD (i := 3) (d := some 30) (v := ?v137) rfl rfl (by kernel_rfl) (by kernel_rfl) (by kernel_rfl) (fun _ _ _ h => h) (Or.inl ⟨by rfl, ?hy137⟩) hHeld ?rest137
    case hy137 =>
      intro wS hS
      go_simp
      all_goals with_reducible rfl
    (try simp only [Act.put, List.setIfInBounds_toArray, List.set_cons_zero, List.set_cons_succ])
    refine wpAnyH_takeD (i := 4) (d := some 31) (v := ?v138) rfl rfl (by kernel_rfl) (by kernel_rfl) (by kernel_rfl) (fun _ _ _ h => h) (Or.inl ⟨by rfl, ?hy138⟩) hHeld ?rest138
    case hy138 =>
      intro wS hS
      have k0 : wS.cell? ⟨m, 0, none⟩ = some (.pointer (some ⟨g, 0, none⟩)) := by rw [cell_of_row _ _ _ _ _ _ hS]; rfl
      go_simp
      all_goals with_reducible rfl
    (try simp only [Act.put, List.setIfInBounds_toArray, List.set_cons_zero, List.set_cons_succ])
    refine wpAnyH_takeD (i := 5) (d := some 32) (v := ?v139) rfl rfl (by kernel_rfl) (by kernel_rfl) (by kernel_rfl) (fun _ _ _ h => h) (Or.inl ⟨by rfl, ?hy139⟩) hHeld ?rest139
    case hy139 =>
      intro wS hS
      go_simp
      all_goals with_reducible rfl
    (try simp only [Act.put, List.setIfInBounds_toArray, List.set_cons_zero, List.set_cons_succ])
    refine wpAnyH_ready (rs := [6]) (by kernel_rfl) (by simp) (AllReadyH.cons rfl (fun K hK => ?_) AllReadyH.nil)
    rw [if_pos (by rfl)]
    go_simp
    refine (HRS.out wd hm4 (HBS.out.below (hw4.trans (hb0.mono hw4.size)))).mono ?_
    rintro e w5 ⟨Ar, cr, rfl, hsr, hlr, hcr, hb5⟩
    have hm5 := (hb5.block m (Nat.lt_of_lt_of_le hmlt hb0.size)).trans hm4
    have hb05 := hb0.trans (hb5.mono hb0.size)
    go_wp2_with fail
    refine hK.out _ _ hm5 (fun hHeld => ?_)
    clear hK K
    (try simp only [Act.put, List.setIfInBounds_toArray, List.set_cons_zero, List.set_cons_succ])
    refine wpAnyH_ready (rs := [7]) (by kernel_rfl) (by simp) (AllReadyH.cons rfl (fun K hK => ?_) AllReadyH.nil)
    rw [if_pos (by rfl)]
    go_simp
    refine (HTG.out Ar cr w5 (hw4.trans (hb05.mono hw4.size)) hsr hlr hcr).mono ?_
    rintro e w6 ⟨At, ct, rfl, hst, hct, hb6⟩
    have hm6 := (hb6.block m (Nat.lt_of_lt_of_le hmlt hb05.size)).trans hm5
    have hb06 := hb05.trans (hb6.mono hb05.size)
    clear hb5 hb6 hsr hlr hcr HRS HTG
    go_wp2_with fail
    refine hK.out _ _ hm6 (fun hHeld => ?_)
    clear hK K
    (try simp only [Act.put, List.setIfInBounds_toArray, List.set_cons_zero, List.set_cons_succ])
    refine wpAnyH_takeD (i := 8) (d := some 26) (v := ?v140) rfl rfl (by kernel_rfl) (by kernel_rfl) (by kernel_rfl) (fun _ _ _ h => h) (Or.inl ⟨by rfl, ?hy140⟩) hHeld ?rest140
    case hy140 =>
      intro wS hS
      go_simp
      all_goals with_reducible rfl
    (try simp only [Act.put, List.setIfInBounds_toArray, List.set_cons_zero, List.set_cons_succ])
    refine wpAnyH_takeD (i := 9) (d := some 35) (v := ?v141) rfl rfl (by kernel_rfl) (by kernel_rfl) (by kernel_rfl) (fun _ _ _ h => h) (Or.inl ⟨by rfl, ?hy141⟩) hHeld ?rest141
    case hy141 =>
      intro wS hS
      go_simp
      all_goals with_reducible rfl
    (try simp only [Act.put, List.setIfInBounds_toArray, List.set_cons_zero, List.set_cons_succ])
    refine wpAnyH_takeD (i := 10) (d := some 36) (v := ?v142) rfl rfl (by kernel_rfl) (by kernel_rfl) (by kernel_rfl) (fun _ _ _ h => h) (Or.inl ⟨by rfl, ?hy142⟩) hHeld ?rest142
    case hy142 =>
      intro wS hS
      go_simp
      all_goals with_reducible rfl
    (try simp only [Act.put, List.setIfInBounds_toArray, List.set_cons_zero, List.set_cons_succ])
    refine wpAnyH_takeD (i := 11) (d := some 37) (v := ?v143) rfl rfl (by kernel_rfl) (by kernel_rfl) (by kernel_rfl) (fun _ _ _ h => h) (Or.inl ⟨by rfl, ?hy143⟩) hHeld ?rest143
    case hy143 =>
      intro wS hS
      go_simp
      all_goals with_reducible rfl
    (try simp only [Act.put, List.setIfInBounds_toArray, List.set_cons_zero, List.set_cons_succ])
    refine wpAnyH_takeD (i := 12) (d := some 5) (v := ?v144) rfl rfl (by kernel_rfl) (by kernel_rfl) (by kernel_rfl) (fun _ _ _ h => h) (Or.inl ⟨by rfl, ?hy144⟩) hHeld ?rest144
    case hy144 =>
      intro wS hS
      go_simp
      all_goals with_reducible rfl
    (try simp only [Act.put, List.setIfInBounds_toArray, List.set_cons_zero, List.set_cons_succ])
    refine wpAnyH_takeD (i := 13) (d := some 6) (v := ?v145) rfl rfl (by kernel_rfl) (by kernel_rfl) (by kernel_rfl) (fun _ _ _ h => h) (Or.inl ⟨by rfl, ?hy145⟩) hHeld ?rest145
    case hy145 =>
      intro wS hS
      go_simp
      all_goals with_reducible rfl
    (try simp only [Act.put, List.setIfInBounds_toArray, List.set_cons_zero, List.set_cons_succ])
    refine wpAnyH_takeD (i := 14) (d := some 4) (v := ?v146) rfl rfl (by kernel_rfl) (by kernel_rfl) (by kernel_rfl) (fun _ _ _ h => h) (Or.inl ⟨by rfl, ?hy146⟩) hHeld ?rest146
    case hy146 =>
      intro wS hS
      go_simp
      all_goals with_reducible rfl
    (try simp only [Act.put, List.setIfInBounds_toArray, List.set_cons_zero, List.set_cons_succ])
    refine wpAnyH_done (by kernel_rfl) ?_ _
    have hw6 := hw4.trans (hb06.mono hw4.size)
    have HF : BegPost w0 w m g b Ab cb (begE b) ⟨ik, ich, ibi, ira, ibl, ish⟩ (.returned (.int .i64 er)) w6 := by
      rw [HR.out]
      exact ⟨rfl, hw6, fun h => absurd h hz2.out⟩
    clear hb06 hm6 hst hHeld hm4 hw6 hw4
    go_wp2_with fail
    go_ret
    exact HF
set_option maxRecDepth 20000 in
set_option maxHeartbeats 4000000 in
theorem begin_ok (m g : Nat) (b : List UInt8) (Ab : Option Addr) (cb : Nat) (w0 w : World) (hw : Below w0.heap.size w0 w) (hm : w.heap[m]? = some (.cells (RdCells g InfoV.zero none 0 0 0 false Ab b.length cb 0 InfoV.zero none 0 0 none 0 0 0 0 none 0 0) 56 (0, 0))) (hbm : w0.heap.size ≤ m) (hB : Base w0 g Ab cb b) (hE : (getI b).1 = 0) (hz : (getG (b.drop 19)).1 = 0) :
    Calls Tryz.prog 12 #[.pointer (some ⟨m, 0, none⟩)] w (BegPost w0 w m g b Ab cb (begE b) (infoOf b)) := by
  have hE0 := hE
  have hl19 := getI_long hE
  have hGR := (getG_range (b.drop 19)).1
  have hGB := (getG_range (b.drop 19)).2
  have HR := hid (show begE b = getG (b.drop 19) by unfold begE; rw [if_neg (by rw [hE]; simp)])
  clear hE
  have hdl : (b.drop 19).length = b.length - 19 := List.length_drop
  have hlen := hB.len
  have HRS := hid (fun W hW hs => rest_any m _ 56 Ab cb 19 b W hW (show (RdCells g InfoV.zero none 0 0 0 false Ab b.length cb 19 InfoV.zero none 0 0 none 0 0 0 0 none 0 0)[11]? = some (.slice Ab b.length cb) from rfl) (show (RdCells g InfoV.zero none 0 0 0 false Ab b.length cb 19 InfoV.zero none 0 0 none 0 0 0 0 none 0 0)[12]? = some (.int .i64 ((19 : Nat) : Int)) from rfl) hs hB.cap.1 hB.cap.2 hl19)
  have HTG := hid (fun A c W (hb : Below w0.heap.size w0 W) hs h1 h2 => tagget_any g A c (b.drop 19) W (hB.tab.keep hb hB.tab.lt) hs h1 h2 (by rw [hdl]; omega) (hB.tabs.below hb))
  have hG := hid (fun W (hb : Below w0.heap.size w0 W) => igetV_any g Ab cb b W (hB.tab.keep hb hB.tab.lt) (hB.sees.below hb) hB.cap.1 hB.cap.2)
  unfold GetIPost at hG
  generalize infoOf b = iv at *
  obtain ⟨E, hE⟩ : ∃ E, E = (getI b).1 := ⟨_, rfl⟩
  rw [← hE] at hG
  obtain ⟨ik, ich, ibi, ira, ibl, ish⟩ := iv
  unfold InfoV.v at hG
  (try simp only at hG)
  have HM := hid hm
  have HW := hid hw
  rw [← hE] at hE0
  subst hE0
  obtain ⟨⟨er, nr, lr⟩, hr⟩ : ∃ r, getG (b.drop 19) = r := ⟨_, rfl⟩
  rw [hr] at hz hGR hGB HR HTG
  simp only at hz hGR hGB
  unfold GetGPost at HTG
  simp only at HTG
  rw [hdl] at hGR
  have HN := hid (show 19 + nr ≤ 1000000 by omega)
  have HBS := hid hB.sees
  generalize b.drop 19 = b19 at *
  clear hE hGR hdl hr hB hlen hl19
  subst hz
  clear hGB
  go_enter Tryz.func12, Tryz.ntmps12
  go_upto_region 1 with fail
  go_cut [3, 4] (fun x y wx => ∃ gx, x = .pointer (some ⟨gx, 0, none⟩) ∧ y = .int .i64 0 ∧ wx.heap[gx]? = some (.cells #[.int .i64 ik, .int .i64 ich, .int .i64 ibi, .int .i64 ira, .int .i64 ibl, .int .i64 ish] 27 (0, 0)) ∧ w.heap.size ≤ gx ∧ Below w.heap.size w wx)
  case first =>
    refine wp_region_held_drew (S := fun W => W.heap[m]? = some (.cells (RdCells g InfoV.zero none 0 0 0 false Ab b.length cb 0 InfoV.zero none 0 0 none 0 0 0 0 none 0 0) 56 (0, 0))) (by kernel_rfl) hm (fun hHeld => ?_)
    have hb0 : Below w.heap.size w w.drew := (Below.refl _ _).drew
    replace hm : w.drew.heap[m]? = _ := hm
    have hmlt : m < w.heap.size := (Array.getElem?_eq_some_iff.1 hm).1
    generalize w.drew = wd at *
    refine wpAnyH_takeD (i := 0) (d := some 8) (v := ?v147) rfl rfl (by kernel_rfl) (by kernel_rfl) (by kernel_rfl) (fun _ _ _ h => h) (Or.inl ⟨by rfl, ?hy147⟩) hHeld ?rest147
    case hy147 =>
      intro wS hS
      go_simp
      all_goals with_reducible rfl
    (try simp only [Act.put, List.setIfInBounds_toArray, List.set_cons_zero, List.set_cons_succ])
    refine wpAnyH_takeD (i := 1) (d := some 9) (v := ?v148) rfl rfl (by kernel_rfl) (by kernel_rfl) (by kernel_rfl) (fun _ _ _ h => h) (Or.inl ⟨by rfl, ?hy148⟩) hHeld ?rest148
    case hy148 =>
      intro wS hS
      go_simp
      all_goals with_reducible rfl
    (try simp only [Act.put, List.setIfInBounds_toArray, List.set_cons_zero, List.set_cons_succ])
    refine wpAnyH_takeD (i := 2) (d := some 10) (v := ?v149) rfl rfl (by kernel_rfl) (by kernel_rfl) (by kernel_rfl) (fun _ _ _ h => h) (Or.inl ⟨by rfl, ?hy149⟩) hHeld ?rest149
    case hy149 =>
      intro wS hS
      go_simp
      all_goals with_reducible rfl
    (try simp only [Act.put, List.setIfInBounds_toArray, List.set_cons_zero, List.set_cons_succ])
    refine wpAnyH_takeD (i := 3) (d := some 11) (v := ?v150) rfl rfl (by kernel_rfl) (by kernel_rfl) (by kernel_rfl) (fun _ _ _ h => h) (Or.inl ⟨by rfl, ?hy150⟩) hHeld ?rest150
    case hy150 =>
      intro wS hS
      go_simp
      all_goals with_reducible rfl
    (try simp only [Act.put, List.setIfInBounds_toArray, List.set_cons_zero, List.set_cons_succ])
    refine wpAnyH_takeD (i := 4) (d := some 12) (v := ?v151) rfl rfl (by kernel_rfl) (by kernel_rfl) (by kernel_rfl) (fun _ _ _ h => h) (Or.inl ⟨by rfl, ?hy151⟩) hHeld ?rest151
    case hy151 =>
      intro wS hS
      have k0 : wS.cell? ⟨m, 0, none⟩ = some (.pointer (some ⟨g, 0, none⟩)) := by rw [cell_of_row _ _ _ _ _ _ hS]; rfl
      go_simp
      all_goals with_reducible rfl
    (try simp only [Act.put, List.setIfInBounds_toArray, List.set_cons_zero, List.set_cons_succ])
    refine wpAnyH_takeD (i := 5) (d := some 13) (v := ?v152) rfl rfl (by kernel_rfl) (by kernel_rfl) (by kernel_rfl) (fun _ _ _ h => h) (Or.inl ⟨by rfl, ?hy152⟩) hHeld ?rest152
    case hy152 =>
      intro wS hS
      go_simp
      all_goals with_reducible rfl
    (try simp only [Act.put, List.setIfInBounds_toArray, List.set_cons_zero, List.set_cons_succ])
    refine wpAnyH_takeD (i := 6) (d := some 14) (v := ?v153) rfl rfl (by kernel_rfl) (by kernel_rfl) (by kernel_rfl) (fun _ _ _ h => h) (Or.inl ⟨by rfl, ?hy153⟩) hHeld ?rest153
    case hy153 =>
      intro wS hS
      go_simp
      all_goals with_reducible rfl
    (try simp only [Act.put, List.setIfInBounds_toArray, List.set_cons_zero, List.set_cons_succ])
    refine wpAnyH_takeD (i := 7) (d := some 15) (v := ?v154) rfl rfl (by kernel_rfl) (by kernel_rfl) (by kernel_rfl) (fun _ _ _ h => h) (Or.inl ⟨by rfl, ?hy154⟩) hHeld ?rest154
    case hy154 =>
      intro wS hS
      go_simp
      all_goals with_reducible rfl
    (try simp only [Act.put, List.setIfInBounds_toArray, List.set_cons_zero, List.set_cons_succ])
    refine wpAnyH_takeD (i := 8) (d := some 16) (v := ?v155) rfl rfl (by kernel_rfl) (by kernel_rfl) (by kernel_rfl) (fun _ _ _ h => h) (Or.inl ⟨by rfl, ?hy155⟩) hHeld ?rest155
    case hy155 =>
      intro wS hS
      have k11 : wS.cell? ⟨m, 11, none⟩ = some (.slice Ab b.length cb) := by rw [cell_of_row _ _ _ _ _ _ hS]; rfl
      go_simp
      all_goals with_reducible rfl
    (try simp only [Act.put, List.setIfInBounds_toArray, List.set_cons_zero, List.set_cons_succ])
    refine wpAnyH_ready (rs := [9, 13]) (by kernel_rfl) (by simp) (AllReadyH.cons rfl (fun K hK => ?_) (AllReadyH.cons rfl (fun K hK => ?_) AllReadyH.nil))
    · rw [if_pos (by rfl)]
      go_simp
      refine (hG.out _ (hw.trans (hb0.mono hw.size))).mono ?_
      rintro e w1 ⟨rfl, hbc⟩
      have hb1 := hb0.trans (hbc.mono hb0.size)
      have hm2 := (hbc.block m (Nat.lt_of_lt_of_le hmlt hb0.size)).trans hm
      go_wp2_with fail
      refine hK.out _ _ hm2 (fun hHeld => ?_)
      clear hK K
      (try simp only [Act.put, List.setIfInBounds_toArray, List.set_cons_zero, List.set_cons_succ])
      refine wpAnyH_takeD (i := 10) (d := some 7) (v := ?v156) rfl rfl (by kernel_rfl) (by kernel_rfl) (by kernel_rfl) (fun _ _ _ h => h) (Or.inl ⟨by rfl, ?hy156⟩) hHeld ?rest156
      case hy156 =>
        intro wS hS
        go_simp
        all_goals with_reducible rfl
      (try simp only [Act.put, List.setIfInBounds_toArray, List.set_cons_zero, List.set_cons_succ])
      refine wpAnyH_takeD (i := 11) (d := some 18) (v := ?v157) rfl rfl (by kernel_rfl) (by kernel_rfl) (by kernel_rfl) (fun _ _ _ h => h) (Or.inl ⟨by rfl, ?hy157⟩) hHeld ?rest157
      case hy157 =>
        intro wS hS
        go_simp
        all_goals with_reducible rfl
      (try simp only [Act.put, List.setIfInBounds_toArray, List.set_cons_zero, List.set_cons_succ])
      refine wpAnyH_takeD (i := 12) (d := some 19) (v := ?v158) rfl rfl (by kernel_rfl) (by kernel_rfl) (by kernel_rfl) (fun _ _ _ h => h) (Or.inl ⟨by rfl, ?hy158⟩) hHeld ?rest158
      case hy158 =>
        intro wS hS
        go_simp
        all_goals with_reducible rfl
      (try simp only [Act.put, List.setIfInBounds_toArray, List.set_cons_zero, List.set_cons_succ])
      refine wpAnyH_ready (rs := [13]) (by kernel_rfl) (by simp) (AllReadyH.cons rfl (fun K hK => ?_) AllReadyH.nil)
      rw [if_pos (by rfl)]
      have hba : Below w1.heap.size w1 (w1.alloc (.cells #[.int .i64 0, .int .i64 0, .int .i64 0, .int .i64 0, .int .i64 0, .int .i64 0] 27)) := (Below.refl _ _).alloc (Nat.le_refl _) _
      have hra := heap_alloc_new w1 (.cells #[.int .i64 0, .int .i64 0, .int .i64 0, .int .i64 0, .int .i64 0, .int .i64 0] 27)
      have hb2 := hb1.trans (hba.mono hb1.size)
      have hm3 := (hba.block m (Nat.lt_of_lt_of_le hmlt hb1.size)).trans hm2
      have hga := hb1.size
      go_simp
      generalize w1.heap.size = gx at *
      generalize w1.alloc (.cells #[.int .i64 0, .int .i64 0, .int .i64 0, .int .i64 0, .int .i64 0, .int .i64 0] 27) = w2 at *
      refine hK.out _ _ hm3 (fun hHeld => ?_)
      clear hK K
      (try simp only [Act.put, List.setIfInBounds_toArray, List.set_cons_zero, List.set_cons_succ])
      refine wpAnyH_ready (rs := [14]) (by kernel_rfl) (by simp) (AllReadyH.cons rfl (fun K hK => ?_) AllReadyH.nil)
      rw [if_pos (by rfl)]
      refine wp_store_row 27 (.tmp 3) (.tmp 18) rfl rfl gx rfl #[.int .i64 ik, .int .i64 ich, .int .i64 ibi, .int .i64 ira, .int .i64 ibl, .int .i64 ish] rfl 27 #[.int .i64 0, .int .i64 0, .int .i64 0, .int .i64 0, .int .i64 0, .int .i64 0] hra (by kernel_rfl) rfl (by simp [Value.oneCell']) ?_
      have hrS := setRow_heap _ gx _ #[.int .i64 ik, .int .i64 ich, .int .i64 ibi, .int .i64 ira, .int .i64 ibl, .int .i64 ish] _ _ hra
      have hmS := (setRow_other w2 gx m #[.int .i64 ik, .int .i64 ich, .int .i64 ibi, .int .i64 ira, .int .i64 ibl, .int .i64 ish] (by omega)).trans hm3
      have hbS := below_setRow hb2 hga #[.int .i64 ik, .int .i64 ich, .int .i64 ibi, .int .i64 ira, .int .i64 ibl, .int .i64 ish]
      refine hK.out _ _ hmS (fun hHeld => ?_)
      clear hK K
      (try simp only [Act.put, List.setIfInBounds_toArray, List.set_cons_zero, List.set_cons_succ])
      refine wpAnyH_takeD (i := 15) (d := some 4) (v := ?v159) rfl rfl (by kernel_rfl) (by kernel_rfl) (by kernel_rfl) (fun _ _ _ h => h) (Or.inl ⟨by rfl, ?hy159⟩) hHeld ?rest159
      case hy159 =>
        intro wS hS
        go_simp
        all_goals with_reducible rfl
      (try simp only [Act.put, List.setIfInBounds_toArray, List.set_cons_zero, List.set_cons_succ])
      refine wpAnyH_done (by kernel_rfl) ?_ _
      go_wp2_with fail
      go_meet
      exact ⟨gx, rfl, rfl, hrS, hga, hbS⟩
    · rw [if_pos (by rfl)]
      have hba : Below wd.heap.size wd (wd.alloc (.cells #[.int .i64 0, .int .i64 0, .int .i64 0, .int .i64 0, .int .i64 0, .int .i64 0] 27)) := (Below.refl _ _).alloc (Nat.le_refl _) _
      have hra := heap_alloc_new wd (.cells #[.int .i64 0, .int .i64 0, .int .i64 0, .int .i64 0, .int .i64 0, .int .i64 0] 27)
      have hb1 := hb0.trans (hba.mono hb0.size)
      have hm3 := (hba.block m (Nat.lt_of_lt_of_le hmlt hb0.size)).trans hm
      have hga := hb0.size
      go_simp
      generalize wd.heap.size = gx at *
      generalize wd.alloc (.cells #[.int .i64 0, .int .i64 0, .int .i64 0, .int .i64 0, .int .i64 0, .int .i64 0] 27) = w1 at *
      refine hK.out _ _ hm3 (fun hHeld => ?_)
      clear hK K
      (try simp only [Act.put, List.setIfInBounds_toArray, List.set_cons_zero, List.set_cons_succ])
      refine wpAnyH_ready (rs := [9]) (by kernel_rfl) (by simp) (AllReadyH.cons rfl (fun K hK => ?_) AllReadyH.nil)
      rw [if_pos (by rfl)]
      go_simp
      refine (hG.out _ (hw.trans (hb1.mono hw.size))).mono ?_
      rintro e w2 ⟨rfl, hbc⟩
      have hb2 := hb1.trans (hbc.mono hb1.size)
      have hm2 := (hbc.block m (Nat.lt_of_lt_of_le hmlt hb1.size)).trans hm3
      have hra2 := (hbc.block gx (Array.getElem?_eq_some_iff.1 hra).1).trans hra
      go_wp2_with fail
      refine hK.out _ _ hm2 (fun hHeld => ?_)
      clear hK K
      (try simp only [Act.put, List.setIfInBounds_toArray, List.set_cons_zero, List.set_cons_succ])
      refine wpAnyH_takeD (i := 10) (d := some 7) (v := ?v160) rfl rfl (by kernel_rfl) (by kernel_rfl) (by kernel_rfl) (fun _ _ _ h => h) (Or.inl ⟨by rfl, ?hy160⟩) hHeld ?rest160
      case hy160 =>
        intro wS hS
        go_simp
        all_goals with_reducible rfl
      (try simp only [Act.put, List.setIfInBounds_toArray, List.set_cons_zero, List.set_cons_succ])
      refine wpAnyH_takeD (i := 11) (d := some 18) (v := ?v161) rfl rfl (by kernel_rfl) (by kernel_rfl) (by kernel_rfl) (fun _ _ _ h => h) (Or.inl ⟨by rfl, ?hy161⟩) hHeld ?rest161
      case hy161 =>
        intro wS hS
        go_simp
        all_goals with_reducible rfl
      (try simp only [Act.put, List.setIfInBounds_toArray, List.set_cons_zero, List.set_cons_succ])
      refine wpAnyH_takeD (i := 12) (d := some 19) (v := ?v162) rfl rfl (by kernel_rfl) (by kernel_rfl) (by kernel_rfl) (fun _ _ _ h => h) (Or.inl ⟨by rfl, ?hy162⟩) hHeld ?rest162
      case hy162 =>
        intro wS hS
        go_simp
        all_goals with_reducible rfl
      (try simp only [Act.put, List.setIfInBounds_toArray, List.set_cons_zero, List.set_cons_succ])
      refine wpAnyH_ready (rs := [14]) (by kernel_rfl) (by simp) (AllReadyH.cons rfl (fun K hK => ?_) AllReadyH.nil)
      rw [if_pos (by rfl)]
      refine wp_store_row 27 (.tmp 3) (.tmp 18) rfl rfl gx rfl #[.int .i64 ik, .int .i64 ich, .int .i64 ibi, .int .i64 ira, .int .i64 ibl, .int .i64 ish] rfl 27 #[.int .i64 0, .int .i64 0, .int .i64 0, .int .i64 0, .int .i64 0, .int .i64 0] hra2 (by kernel_rfl) rfl (by simp [Value.oneCell']) ?_
      have hrS := setRow_heap _ gx _ #[.int .i64 ik, .int .i64 ich, .int .i64 ibi, .int .i64 ira, .int .i64 ibl, .int .i64 ish] _ _ hra2
      have hmS := (setRow_other w2 gx m #[.int .i64 ik, .int .i64 ich, .int .i64 ibi, .int .i64 ira, .int .i64 ibl, .int .i64 ish] (by omega)).trans hm2
      have hbS := below_setRow hb2 hga #[.int .i64 ik, .int .i64 ich, .int .i64 ibi, .int .i64 ira, .int .i64 ibl, .int .i64 ish]
      refine hK.out _ _ hmS (fun hHeld => ?_)
      clear hK K
      (try simp only [Act.put, List.setIfInBounds_toArray, List.set_cons_zero, List.set_cons_succ])
      refine wpAnyH_takeD (i := 15) (d := some 4) (v := ?v163) rfl rfl (by kernel_rfl) (by kernel_rfl) (by kernel_rfl) (fun _ _ _ h => h) (Or.inl ⟨by rfl, ?hy163⟩) hHeld ?rest163
      case hy163 =>
        intro wS hS
        go_simp
        all_goals with_reducible rfl
      (try simp only [Act.put, List.setIfInBounds_toArray, List.set_cons_zero, List.set_cons_succ])
      refine wpAnyH_done (by kernel_rfl) ?_ _
      go_wp2_with fail
      go_meet
      exact ⟨gx, rfl, rfl, hrS, hga, hbS⟩
  case rest =>
    obtain ⟨gx, rfl, rfl, hrx, hgx, hbx⟩ := hcut
    have hmw : m < w.heap.size := (Array.getElem?_eq_some_iff.1 HM.out).1
    have hmc := (hbx.block m hmw).trans HM.out
    have c12 : wc.cell? ⟨m, 12, none⟩ = some (.int .i64 0) := by rw [cell_of_row _ _ _ _ _ _ hmc]; rfl
    have f12 : wc.frozen? ⟨m, 12, none⟩ = false := frozen_of_row _ _ _ _ _ hmc
    have hm4 := heap_setCell_same wc m 12 _ 56 (.int .i64 ((19 : Nat) : Int)) hmc
    rw [RdCells_at] at hm4
    have hwc := HW.out.trans (hbx.mono HW.out.size)
    have hw4 := hwc.setCell (p := ⟨m, 12, none⟩) hbm (.int .i64 ((19 : Nat) : Int))
    have hrx4 := (heap_setCell_other wc ⟨m, 12, none⟩ gx (.int .i64 ((19 : Nat) : Int)) (by show gx ≠ m; omega)).trans hrx
    clear hG hrx hbx hmc hwc HW HM
    go_wp2_with fail
    clear c12 f12
    generalize hw4e : wc.setCell ⟨m, 12, none⟩ (.int .i64 ((19 : Nat) : Int)) = w4 at *
    clear hw4e
    refine wp_region_held_drew (S := fun W => W.heap[m]? = some (.cells (RdCells g InfoV.zero none 0 0 0 false Ab b.length cb 19 InfoV.zero none 0 0 none 0 0 0 0 none 0 0) 56 (0, 0))) (by kernel_rfl) hm4 (fun hHeld => ?_)
    have hb0 : Below w4.heap.size w4 w4.drew := (Below.refl _ _).drew
    replace hm4 : w4.drew.heap[m]? = _ := hm4
    have hmlt : m < w4.heap.size := (Array.getElem?_eq_some_iff.1 hm4).1
    generalize hwd : w4.drew = wd at *
    clear hwd
    refine wpAnyH_takeD (i := 0) (d := some 27) (v := ?v164) rfl rfl (by kernel_rfl) (by kernel_rfl) (by kernel_rfl) (fun _ _ _ h => h) (Or.inl ⟨by rfl, ?hy164⟩) hHeld ?rest164
    case hy164 =>
      intro wS hS
      go_simp
      all_goals with_reducible rfl
    (try simp only [Act.put, List.setIfInBounds_toArray, List.set_cons_zero, List.set_cons_succ])
    refine wpAnyH_takeD (i := 1) (d := some 28) (v := ?v165) rfl rfl (by kernel_rfl) (by kernel_rfl) (by kernel_rfl) (fun _ _ _ h => h) (Or.inl ⟨by rfl, ?hy165⟩) hHeld ?rest165
    case hy165 =>
      intro wS hS
      go_simp
      all_goals with_reducible rfl
    (try simp only [Act.put, List.setIfInBounds_toArray, List.set_cons_zero, List.set_cons_succ])
    refine wpAnyH_takeD (i := 2) (d := some 29) (v := ?v166) rfl rfl (by kernel_rfl) (by kernel_rfl) (by kernel_rfl) (fun _ _ _ h => h) (Or.inl ⟨by rfl, ?hy166⟩) hHeld ?rest166
    case hy166 =>
      intro wS hS
      go_simp
      all_goals with_reducible rfl
    (try simp only [Act.put, List.setIfInBounds_toArray, List.set_cons_zero, List.set_cons_succ])
    refine wpAnyH_takeD (i := 3) (d := some 30) (v := ?v167) rfl rfl (by kernel_rfl) (by kernel_rfl) (by kernel_rfl) (fun _ _ _ h => h) (Or.inl ⟨by rfl, ?hy167⟩) hHeld ?rest167
    case hy167 =>
      intro wS hS
      go_simp
      all_goals with_reducible rfl
    (try simp only [Act.put, List.setIfInBounds_toArray, List.set_cons_zero, List.set_cons_succ])
    refine wpAnyH_takeD (i := 4) (d := some 31) (v := ?v168) rfl rfl (by kernel_rfl) (by kernel_rfl) (by kernel_rfl) (fun _ _ _ h => h) (Or.inl ⟨by rfl, ?hy168⟩) hHeld ?rest168
    case hy168 =>
      intro wS hS
      have k0 : wS.cell? ⟨m, 0, none⟩ = some (.pointer (some ⟨g, 0, none⟩)) := by rw [cell_of_row _ _ _ _ _ _ hS]; rfl
      go_simp
      all_goals with_reducible rfl
    (try simp only [Act.put, List.setIfInBounds_toArray, List.set_cons_zero, List.set_cons_succ])
    refine wpAnyH_takeD (i := 5) (d := some 32) (v := ?v169) rfl rfl (by kernel_rfl) (by kernel_rfl) (by kernel_rfl) (fun _ _ _ h => h) (Or.inl ⟨by rfl, ?hy169⟩) hHeld ?rest169
    case hy169 =>
      intro wS hS
      go_simp
      all_goals with_reducible rfl
    (try simp only [Act.put, List.setIfInBounds_toArray, List.set_cons_zero, List.set_cons_succ])
    refine wpAnyH_ready (rs := [6]) (by kernel_rfl) (by simp) (AllReadyH.cons rfl (fun K hK => ?_) AllReadyH.nil)
    rw [if_pos (by rfl)]
    go_simp
    refine (HRS.out wd hm4 (HBS.out.below (hw4.trans (hb0.mono hw4.size)))).mono ?_
    rintro e w5 ⟨Ar, cr, rfl, hsr, hlr, hcr, hb5⟩
    have hm5 := (hb5.block m (Nat.lt_of_lt_of_le hmlt hb0.size)).trans hm4
    have hb05 := hb0.trans (hb5.mono hb0.size)
    go_wp2_with fail
    refine hK.out _ _ hm5 (fun hHeld => ?_)
    clear hK K
    (try simp only [Act.put, List.setIfInBounds_toArray, List.set_cons_zero, List.set_cons_succ])
    refine wpAnyH_ready (rs := [7]) (by kernel_rfl) (by simp) (AllReadyH.cons rfl (fun K hK => ?_) AllReadyH.nil)
    rw [if_pos (by rfl)]
    go_simp
    refine (HTG.out Ar cr w5 (hw4.trans (hb05.mono hw4.size)) hsr hlr hcr).mono ?_
    rintro e w6 ⟨At, ct, rfl, hst, hct, hb6⟩
    have hm6 := (hb6.block m (Nat.lt_of_lt_of_le hmlt hb05.size)).trans hm5
    have hb06 := hb05.trans (hb6.mono hb05.size)
    clear hb5 hb6 hsr hlr hcr HRS HTG
    go_wp2_with fail
    refine hK.out _ _ hm6 (fun hHeld => ?_)
    clear hK K
    (try simp only [Act.put, List.setIfInBounds_toArray, List.set_cons_zero, List.set_cons_succ])
    refine wpAnyH_takeD (i := 8) (d := some 26) (v := ?v170) rfl rfl (by kernel_rfl) (by kernel_rfl) (by kernel_rfl) (fun _ _ _ h => h) (Or.inl ⟨by rfl, ?hy170⟩) hHeld ?rest170
    case hy170 =>
      intro wS hS
      go_simp
      all_goals with_reducible rfl
    (try simp only [Act.put, List.setIfInBounds_toArray, List.set_cons_zero, List.set_cons_succ])
    refine wpAnyH_takeD (i := 9) (d := some 35) (v := ?v171) rfl rfl (by kernel_rfl) (by kernel_rfl) (by kernel_rfl) (fun _ _ _ h => h) (Or.inl ⟨by rfl, ?hy171⟩) hHeld ?rest171
    case hy171 =>
      intro wS hS
      go_simp
      all_goals with_reducible rfl
    (try simp only [Act.put, List.setIfInBounds_toArray, List.set_cons_zero, List.set_cons_succ])
    refine wpAnyH_takeD (i := 10) (d := some 36) (v := ?v172) rfl rfl (by kernel_rfl) (by kernel_rfl) (by kernel_rfl) (fun _ _ _ h => h) (Or.inl ⟨by rfl, ?hy172⟩) hHeld ?rest172
    case hy172 =>
      intro wS hS
      go_simp
      all_goals with_reducible rfl
    (try simp only [Act.put, List.setIfInBounds_toArray, List.set_cons_zero, List.set_cons_succ])
    refine wpAnyH_takeD (i := 11) (d := some 37) (v := ?v173) rfl rfl (by kernel_rfl) (by kernel_rfl) (by kernel_rfl) (fun _ _ _ h => h) (Or.inl ⟨by rfl, ?hy173⟩) hHeld ?rest173
    case hy173 =>
      intro wS hS
      go_simp
      all_goals with_reducible rfl
    (try simp only [Act.put, List.setIfInBounds_toArray, List.set_cons_zero, List.set_cons_succ])
    refine wpAnyH_takeD (i := 12) (d := some 5) (v := ?v174) rfl rfl (by kernel_rfl) (by kernel_rfl) (by kernel_rfl) (fun _ _ _ h => h) (Or.inl ⟨by rfl, ?hy174⟩) hHeld ?rest174
    case hy174 =>
      intro wS hS
      go_simp
      all_goals with_reducible rfl
    (try simp only [Act.put, List.setIfInBounds_toArray, List.set_cons_zero, List.set_cons_succ])
    refine wpAnyH_takeD (i := 13) (d := some 6) (v := ?v175) rfl rfl (by kernel_rfl) (by kernel_rfl) (by kernel_rfl) (fun _ _ _ h => h) (Or.inl ⟨by rfl, ?hy175⟩) hHeld ?rest175
    case hy175 =>
      intro wS hS
      go_simp
      all_goals with_reducible rfl
    (try simp only [Act.put, List.setIfInBounds_toArray, List.set_cons_zero, List.set_cons_succ])
    refine wpAnyH_takeD (i := 14) (d := some 4) (v := ?v176) rfl rfl (by kernel_rfl) (by kernel_rfl) (by kernel_rfl) (fun _ _ _ h => h) (Or.inl ⟨by rfl, ?hy176⟩) hHeld ?rest176
    case hy176 =>
      intro wS hS
      go_simp
      all_goals with_reducible rfl
    (try simp only [Act.put, List.setIfInBounds_toArray, List.set_cons_zero, List.set_cons_succ])
    refine wpAnyH_done (by kernel_rfl) ?_ _
    have hw6 := hw4.trans (hb06.mono hw4.size)
    have hrx6 := (hb06.block gx (Array.getElem?_eq_some_iff.1 hrx4).1).trans hrx4
    have c12 : w6.cell? ⟨m, 12, none⟩ = some (.int .i64 19) := by rw [cell_of_row _ _ _ _ _ _ hm6]; rfl
    have f12 : w6.frozen? ⟨m, 12, none⟩ = false := frozen_of_row _ _ _ _ _ hm6
    have hwr : wrap64 (19 + (nr : Int)) = (19 + (nr : Int)) := by have := HN.out; unfold wrap64; omega
    have hm7 : (w6.setCell ⟨m, 12, none⟩ (.int .i64 (19 + (nr : Int)))).heap[m]? = some (.cells (RdCells g InfoV.zero none 0 0 0 false Ab b.length cb (19 + nr) InfoV.zero none 0 0 none 0 0 0 0 none 0 0) 56 (0, 0)) := heap_setCell_same w6 m 12 _ 56 (.int .i64 (19 + (nr : Int))) hm6
    have hw7 := hw6.setCell (p := ⟨m, 12, none⟩) hbm (.int .i64 (19 + (nr : Int)))
    have hst7 := hst.butRd (but_cell m 12 (.int .i64 (19 + (nr : Int)))) (fun _ h => only_here h) hm6
    have hrx7 := (heap_setCell_other w6 ⟨m, 12, none⟩ gx (.int .i64 (19 + (nr : Int))) (by show gx ≠ m; omega)).trans hrx6
    clear hb06 hm6 hst hm4 hrx6 hw6 hw4 hrx4 hHeld
    go_wp2_with fail
    clear c12 f12 hwr
    generalize w6.setCell ⟨m, 12, none⟩ (.int .i64 (19 + (nr : Int))) = w7 at *
    refine wp_region_held_drew (S := fun W => W.heap[gx]? = some (.cells #[.int .i64 ik, .int .i64 ich, .int .i64 ibi, .int .i64 ira, .int .i64 ibl, .int .i64 ish] 27 (0, 0))) (by kernel_rfl) hrx7 (fun hHeld => ?_)
    replace hm7 : w7.drew.heap[m]? = _ := hm7
    replace hrx7 : w7.drew.heap[gx]? = _ := hrx7
    replace hw7 : Below w0.heap.size w0 w7.drew := hw7.drew
    replace hst7 : SeesT w7.drew At lr := hst7
    generalize w7.drew = w8 at *
    refine wpAnyH_takeD (i := 0) (d := some 49) (v := ?v177) rfl rfl (by kernel_rfl) (by kernel_rfl) (by kernel_rfl) (fun _ _ _ h => h) (Or.inl ⟨by rfl, ?hy177⟩) hHeld ?rest177
    case hy177 =>
      intro wS hS
      go_simp
      all_goals with_reducible rfl
    (try simp only [Act.put, List.setIfInBounds_toArray, List.set_cons_zero, List.set_cons_succ])
    refine wpAnyH_takeD (i := 1) (d := some 50) (v := ?v178) rfl rfl (by kernel_rfl) (by kernel_rfl) (by kernel_rfl) (fun _ _ _ h => h) (Or.inl ⟨by rfl, ?hy178⟩) hHeld ?rest178
    case hy178 =>
      intro wS hS
      go_simp
      all_goals with_reducible rfl
    (try simp only [Act.put, List.setIfInBounds_toArray, List.set_cons_zero, List.set_cons_succ])
    refine wpAnyH_takeD (i := 2) (d := some 51) (v := ?v179) rfl rfl (by kernel_rfl) (by kernel_rfl) (by kernel_rfl) (fun _ _ _ h => h) (Or.inl ⟨by rfl, ?hy179⟩) hHeld ?rest179
    case hy179 =>
      intro wS hS
      go_simp
      all_goals with_reducible rfl
    (try simp only [Act.put, List.setIfInBounds_toArray, List.set_cons_zero, List.set_cons_succ])
    refine wpAnyH_takeD (i := 3) (d := some 52) (v := .agg #[.int .i64 ik, .int .i64 ich, .int .i64 ibi, .int .i64 ira, .int .i64 ibl, .int .i64 ish]) rfl rfl (by kernel_rfl) (by kernel_rfl) (by kernel_rfl) (fun _ _ _ h => h) (Or.inl ⟨by rfl, ?hy180⟩) hHeld ?rest180
    case hy180 =>
      intro wS hS
      exact run_load_rowop 27 (.tmp 3) rfl gx (by rfl) #[.int .i64 ik, .int .i64 ich, .int .i64 ibi, .int .i64 ira, .int .i64 ibl, .int .i64 ish] _ _ hS _ Tryz.underlying27 rfl (by kernel_rfl)
    (try simp only [Act.put, List.setIfInBounds_toArray, List.set_cons_zero, List.set_cons_succ])
    refine wpAnyH_takeD (i := 4) (d := some 53) (v := .agg #[.int .i64 ik, .int .i64 ich, .int .i64 ibi, .int .i64 ira, .int .i64 ibl, .int .i64 ish]) rfl rfl (by kernel_rfl) (by kernel_rfl) (by kernel_rfl) (fun _ _ _ h => h) (Or.inl ⟨by rfl, ?hy181⟩) hHeld ?rest181
    case hy181 =>
      intro wS hS
      exact run_load_rowop 27 (.tmp 3) rfl gx (by rfl) #[.int .i64 ik, .int .i64 ich, .int .i64 ibi, .int .i64 ira, .int .i64 ibl, .int .i64 ish] _ _ hS _ Tryz.underlying27 rfl (by kernel_rfl)
    (try simp only [Act.put, List.setIfInBounds_toArray, List.set_cons_zero, List.set_cons_succ])
    refine wpAnyH_takeD (i := 5) (d := some 54) (v := ?v182) rfl rfl (by kernel_rfl) (by kernel_rfl) (by kernel_rfl) (fun _ _ _ h => h) (Or.inl ⟨by rfl, ?hy182⟩) hHeld ?rest182
    case hy182 =>
      intro wS hS
      go_simp
      all_goals with_reducible rfl
    (try simp only [Act.put, List.setIfInBounds_toArray, List.set_cons_zero, List.set_cons_succ])
    refine wpAnyH_takeD (i := 6) (d := some 55) (v := ?v183) rfl rfl (by kernel_rfl) (by kernel_rfl) (by kernel_rfl) (fun _ _ _ h => h) (Or.inl ⟨by rfl, ?hy183⟩) hHeld ?rest183
    case hy183 =>
      intro wS hS
      go_simp
      all_goals with_reducible rfl
    (try simp only [Act.put, List.setIfInBounds_toArray, List.set_cons_zero, List.set_cons_succ])
    refine wpAnyH_takeD (i := 7) (d := some 56) (v := ?v184) rfl rfl (by kernel_rfl) (by kernel_rfl) (by kernel_rfl) (fun _ _ _ h => h) (Or.inl ⟨by rfl, ?hy184⟩) hHeld ?rest184
    case hy184 =>
      intro wS hS
      go_simp
      all_goals with_reducible rfl
    (try simp only [Act.put, List.setIfInBounds_toArray, List.set_cons_zero, List.set_cons_succ])
    refine wpAnyH_takeD (i := 8) (d := some 57) (v := ?v185) rfl rfl (by kernel_rfl) (by kernel_rfl) (by kernel_rfl) (fun _ _ _ h => h) (Or.inl ⟨by rfl, ?hy185⟩) hHeld ?rest185
    case hy185 =>
      intro wS hS
      go_simp
      all_goals with_reducible rfl
    (try simp only [Act.put, List.setIfInBounds_toArray, List.set_cons_zero, List.set_cons_succ])
    refine wpAnyH_ready (rs := [9]) (by kernel_rfl) (by simp) (AllReadyH.cons rfl (fun K hK => ?_) AllReadyH.nil)
    rw [if_pos (by rfl)]
    refine wp_store_part 27 (.tmp 57) (.tmp 52) rfl rfl m 1 rfl #[.int .i64 ik, .int .i64 ich, .int .i64 ibi, .int .i64 ira, .int .i64 ibl, .int .i64 ish] rfl 56 (RdCells g InfoV.zero none 0 0 0 false Ab b.length cb (19 + nr) InfoV.zero none 0 0 none 0 0 0 0 none 0 0) (RdCells g ⟨ik, ich, ibi, ira, ibl, ish⟩ none 0 0 0 false Ab b.length cb (19 + nr) InfoV.zero none 0 0 none 0 0 0 0 none 0 0) hm7 (by kernel_rfl) (Nat.le_of_ble_eq_true rfl) (by simp [Value.oneCell']) rfl ?_
    have hm9 := setRow_heap w8 m _ (RdCells g ⟨ik, ich, ibi, ira, ibl, ish⟩ none 0 0 0 false Ab b.length cb (19 + nr) InfoV.zero none 0 0 none 0 0 0 0 none 0 0) _ _ hm7
    have hrx9 := (setRow_other w8 m gx (RdCells g ⟨ik, ich, ibi, ira, ibl, ish⟩ none 0 0 0 false Ab b.length cb (19 + nr) InfoV.zero none 0 0 none 0 0 0 0 none 0 0) (by omega)).trans hrx7
    have hw9 := below_setRow hw7 hbm (RdCells g ⟨ik, ich, ibi, ira, ibl, ish⟩ none 0 0 0 false Ab b.length cb (19 + nr) InfoV.zero none 0 0 none 0 0 0 0 none 0 0)
    have hst9 := hst7.butRd (but_row m (RdCells g ⟨ik, ich, ibi, ira, ibl, ish⟩ none 0 0 0 false Ab b.length cb (19 + nr) InfoV.zero none 0 0 none 0 0 0 0 none 0 0)) (fun _ h => only_here h) hm7
    clear hrx7 hw7 hst7
    generalize w8.setRow m (RdCells g ⟨ik, ich, ibi, ira, ibl, ish⟩ none 0 0 0 false Ab b.length cb (19 + nr) InfoV.zero none 0 0 none 0 0 0 0 none 0 0) = w9 at *
    refine hK.out _ _ hrx9 (fun hHeld => ?_)
    clear hK K
    (try simp only [Act.put, List.setIfInBounds_toArray, List.set_cons_zero, List.set_cons_succ])
    clear hm7
    refine wpAnyH_takeD (i := 10) (d := some 58) (v := ?v186) rfl rfl (by kernel_rfl) (by kernel_rfl) (by kernel_rfl) (fun _ _ _ h => h) (Or.inl ⟨by rfl, ?hy186⟩) hHeld ?rest186
    case hy186 =>
      intro wS hS
      go_simp
      all_goals with_reducible rfl
    (try simp only [Act.put, List.setIfInBounds_toArray, List.set_cons_zero, List.set_cons_succ])
    refine wpAnyH_takeD (i := 11) (d := some 59) (v := ?v187) rfl rfl (by kernel_rfl) (by kernel_rfl) (by kernel_rfl) (fun _ _ _ h => h) (Or.inl ⟨by rfl, ?hy187⟩) hHeld ?rest187
    case hy187 =>
      intro wS hS
      go_simp
      all_goals with_reducible rfl
    (try simp only [Act.put, List.setIfInBounds_toArray, List.set_cons_zero, List.set_cons_succ])
    refine wpAnyH_takeD (i := 12) (d := some 60) (v := ?v188) rfl rfl (by kernel_rfl) (by kernel_rfl) (by kernel_rfl) (fun _ _ _ h => h) (Or.inl ⟨by rfl, ?hy188⟩) hHeld ?rest188
    case hy188 =>
      intro wS hS
      go_simp
      all_goals with_reducible rfl
    (try simp only [Act.put, List.setIfInBounds_toArray, List.set_cons_zero, List.set_cons_succ])
    refine wpAnyH_ready (rs := [13]) (by kernel_rfl) (by simp) (AllReadyH.cons rfl (fun K hK => ?_) AllReadyH.nil)
    rw [if_pos (by rfl)]
    refine wp_store_part 27 (.tmp 60) (.tmp 53) rfl rfl m 13 rfl #[.int .i64 ik, .int .i64 ich, .int .i64 ibi, .int .i64 ira, .int .i64 ibl, .int .i64 ish] rfl 56 (RdCells g ⟨ik, ich, ibi, ira, ibl, ish⟩ none 0 0 0 false Ab b.length cb (19 + nr) InfoV.zero none 0 0 none 0 0 0 0 none 0 0) (RdCells g ⟨ik, ich, ibi, ira, ibl, ish⟩ none 0 0 0 false Ab b.length cb (19 + nr) ⟨ik, ich, ibi, ira, ibl, ish⟩ none 0 0 none 0 0 0 0 none 0 0) hm9 (by kernel_rfl) (Nat.le_of_ble_eq_true rfl) (by simp [Value.oneCell']) rfl ?_
    have hm10 := setRow_heap w9 m _ (RdCells g ⟨ik, ich, ibi, ira, ibl, ish⟩ none 0 0 0 false Ab b.length cb (19 + nr) ⟨ik, ich, ibi, ira, ibl, ish⟩ none 0 0 none 0 0 0 0 none 0 0) _ _ hm9
    have hrx10 := (setRow_other w9 m gx (RdCells g ⟨ik, ich, ibi, ira, ibl, ish⟩ none 0 0 0 false Ab b.length cb (19 + nr) ⟨ik, ich, ibi, ira, ibl, ish⟩ none 0 0 none 0 0 0 0 none 0 0) (by omega)).trans hrx9
    have hw10 := below_setRow hw9 hbm (RdCells g ⟨ik, ich, ibi, ira, ibl, ish⟩ none 0 0 0 false Ab b.length cb (19 + nr) ⟨ik, ich, ibi, ira, ibl, ish⟩ none 0 0 none 0 0 0 0 none 0 0)
    have hst10 := hst9.butRd (but_row m (RdCells g ⟨ik, ich, ibi, ira, ibl, ish⟩ none 0 0 0 false Ab b.length cb (19 + nr) ⟨ik, ich, ibi, ira, ibl, ish⟩ none 0 0 none 0 0 0 0 none 0 0)) (fun _ h => only_here h) hm9
    clear hrx9 hw9 hst9
    generalize w9.setRow m (RdCells g ⟨ik, ich, ibi, ira, ibl, ish⟩ none 0 0 0 false Ab b.length cb (19 + nr) ⟨ik, ich, ibi, ira, ibl, ish⟩ none 0 0 none 0 0 0 0 none 0 0) = w10 at *
    refine hK.out _ _ hrx10 (fun hHeld => ?_)
    clear hK K
    (try simp only [Act.put, List.setIfInBounds_toArray, List.set_cons_zero, List.set_cons_succ])
    clear hm9
    refine wpAnyH_takeD (i := 14) (d := some 61) (v := ?v189) rfl rfl (by kernel_rfl) (by kernel_rfl) (by kernel_rfl) (fun _ _ _ h => h) (Or.inl ⟨by rfl, ?hy189⟩) hHeld ?rest189
    case hy189 =>
      intro wS hS
      go_simp
      all_goals with_reducible rfl
    (try simp only [Act.put, List.setIfInBounds_toArray, List.set_cons_zero, List.set_cons_succ])
    refine wpAnyH_takeD (i := 15) (d := some 62) (v := ?v190) rfl rfl (by kernel_rfl) (by kernel_rfl) (by kernel_rfl) (fun _ _ _ h => h) (Or.inl ⟨by rfl, ?hy190⟩) hHeld ?rest190
    case hy190 =>
      intro wS hS
      go_simp
      all_goals with_reducible rfl
    (try simp only [Act.put, List.setIfInBounds_toArray, List.set_cons_zero, List.set_cons_succ])
    refine wpAnyH_takeD (i := 16) (d := some 63) (v := ?v191) rfl rfl (by kernel_rfl) (by kernel_rfl) (by kernel_rfl) (fun _ _ _ h => h) (Or.inl ⟨by rfl, ?hy191⟩) hHeld ?rest191
    case hy191 =>
      intro wS hS
      go_simp
      all_goals with_reducible rfl
    (try simp only [Act.put, List.setIfInBounds_toArray, List.set_cons_zero, List.set_cons_succ])
    refine wpAnyH_ready (rs := [17]) (by kernel_rfl) (by simp) (AllReadyH.cons rfl (fun K hK => ?_) AllReadyH.nil)
    rw [if_pos (by rfl)]
    have c19 : w10.cell? ⟨m, 19, none⟩ = some (.slice none 0 0) := by rw [cell_of_row _ _ _ _ _ _ hm10]; rfl
    have f19 : w10.frozen? ⟨m, 19, none⟩ = false := frozen_of_row _ _ _ _ _ hm10
    have hm11 := heap_setCell_same w10 m 19 _ 56 (.slice At lr.length ct) hm10
    rw [RdCells_tags] at hm11
    have hrx11 := (heap_setCell_other w10 ⟨m, 19, none⟩ gx (.slice At lr.length ct) (by show gx ≠ m; omega)).trans hrx10
    have hw11 := hw10.setCell (p := ⟨m, 19, none⟩) hbm (.slice At lr.length ct)
    have hst11 := hst10.butRd (but_cell m 19 (.slice At lr.length ct)) (fun _ h => only_here h) hm10
    clear hrx10 hw10 hst10 hm10
    go_simp
    generalize w10.setCell ⟨m, 19, none⟩ (.slice At lr.length ct) = w11 at *
    refine hK.out _ _ hrx11 (fun hHeld => ?_)
    clear hK K
    (try simp only [Act.put, List.setIfInBounds_toArray, List.set_cons_zero, List.set_cons_succ])
    refine wpAnyH_done (by kernel_rfl) ?_ _
    have HF : BegPost w0 w m g b Ab cb (begE b) ⟨ik, ich, ibi, ira, ibl, ish⟩ (.returned (.int .i64 0)) w11 := by
      rw [HR.out]
      exact ⟨rfl, hw11, fun _ => ⟨At, ct, hm11, hst11, hct⟩⟩
    clear c19 f19 hw11 hst11 hm11 hrx11 hHeld
    go_wp2_with fail
    go_ret
    exact HF
theorem begin_any (m g : Nat) (b : List UInt8) (Ab : Option Addr) (cb : Nat) (w0 w : World) (hw : Below w0.heap.size w0 w) (hm : w.heap[m]? = some (.cells (RdCells g InfoV.zero none 0 0 0 false Ab b.length cb 0 InfoV.zero none 0 0 none 0 0 0 0 none 0 0) 56 (0, 0))) (hbm : w0.heap.size ≤ m) (hB : Base w0 g Ab cb b) :
    Calls Tryz.prog 12 #[.pointer (some ⟨m, 0, none⟩)] w (BegPost w0 w m g b Ab cb (begE b) (infoOf b)) := by
  by_cases hE : (getI b).1 = 0
  · by_cases hz : (getG (b.drop 19)).1 = 0
    · exact begin_ok m g b Ab cb w0 w hw hm hbm hB hE hz
    · exact begin_bad m g b Ab cb w0 w hw hm hbm hB hE hz
  · exact begin_info m g b Ab cb w0 w hw hm hbm hB hE
end Go.Proofs.YtkmhmehofipehaaGreatDoor
