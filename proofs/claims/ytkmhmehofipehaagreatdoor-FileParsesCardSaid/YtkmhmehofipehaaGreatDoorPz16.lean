/- A file read: a block. -/
import Derived.Test.YtkmhmehofipehaaGreatDoorPz15
import Derived.Deep.DeepCutAuto
namespace Go.Proofs.YtkmhmehofipehaaGreatDoor
set_option linter.unusedVariables false
open Go.RowKit
def BlkPost (w0 w1 : World) (m g : Nat) (i : InfoV) (Ab : Option Addr) (cb : Nat) (b : List UInt8) (At : Option Addr) (nt ct : Nat) (s : PS) (L : List BlkM) (e : Ending) (w' : World) : Prop :=
  e = .returned (.int .i64 (blkE i b s)) ∧ Below w0.heap.size w0 w' ∧ (blkE i b s = 0 → ∃ x : BlkM, Rdr w0 w1 w' m g i Ab cb b At nt ct (s.next i (openH (b.drop s.at_))) (L ++ [x]))
theorem zeroH_nob (j : Nat) (z : Int) : (#[.int .i64 0, .int .i64 0, .int .i64 0, .int .i64 0, .int .i64 0, .bool false, .int .u32 0, .int .i64 0] : Array Value)[j]? ≠ some (.int .u8 z) := by
  intro h
  have hk : j < 8 := (Array.getElem?_eq_some_iff.1 h).1
  obtain rfl | rfl | rfl | rfl | rfl | rfl | rfl | rfl : j = 0 ∨ j = 1 ∨ j = 2 ∨ j = 3 ∨ j = 4 ∨ j = 5 ∨ j = 6 ∨ j = 7 := by omega
  all_goals (simp at h)
theorem SeesB.butZero {w : World} {A : Option Addr} {l : List UInt8} {q : Nat} {t : TypeId} {fr : Nat × Nat} (h : SeesB w A l) (hq : w.heap[q]? = some (.cells #[.int .i64 0, .int .i64 0, .int .i64 0, .int .i64 0, .int .i64 0, .bool false, .int .u32 0, .int .i64 0] t fr)) (cs : Array Value) : SeesB (w.setRow q cs) A l := by
  by_cases hl : l = []
  · exact SeesB.none_of (w := w) hl
  · refine h.but (but_row q cs) (fun _ a ha hr => ?_)
    obtain ⟨a', ha', hc⟩ := h.at (List.length_pos_iff.2 hl)
    rw [ha] at ha'
    injection ha' with ha'
    subst ha'
    have hr2 : a.block = q := hr
    obtain ⟨ab, ao, ai⟩ := a
    simp only at hr2
    subst hr2
    have e : (Addr.add ⟨ab, ao, ai⟩ 0) = ⟨ab, ao, ai⟩ := rfl
    rw [e] at hc
    simp only [World.cell?, hq] at hc
    cases ai with
    | none => exact zeroH_nob _ _ hc
    | some y => simp at hc
set_option maxRecDepth 20000 in
set_option maxHeartbeats 8000000 in
theorem block_end (m g : Nat) (i : InfoV) (Ab : Option Addr) (cb : Nat) (b : List UInt8) (At : Option Addr) (nt ct : Nat) (s : PS) (L : List BlkM) (w0 w1 w : World) (hR : Rdr w0 w1 w m g i Ab cb b At nt ct s L) (hs : s.ok b) (hB : Base w0 g Ab cb b) (hbm : w0.heap.size ≤ m) (hbi : 8 ≤ i.bi ∧ i.bi ≤ 24) (he : b.length ≤ s.at_) :
    Calls Tryz.prog 14 #[.pointer (some ⟨m, 0, none⟩)] w (BlkPost w0 w1 m g i Ab cb b At nt ct s L) := by
  obtain ⟨Ap, cp, Ak, ck, hm, hp, hk, hpay, hbl, hw, hbut⟩ := hR
  have hat := hs.at_
  have HRS := hid (fun W (hW : W.heap[m]? = some (.cells (RdCells g i Ap s.pl.length cp s.cnt s.short Ab b.length cb s.at_ i At nt ct Ak L.length ck 0 0 none 0 0) 56 (0, 0))) (hb : Below w0.heap.size w0 W) => rest_any m _ 56 Ab cb s.at_ b W hW rfl rfl (hB.sees.below hb) hB.cap.1 hB.cap.2 hat)
  have hdl : (b.drop s.at_).length = b.length - s.at_ := List.length_drop
  have hlen := hB.len
  have HE := hid (show blkE i b s = 10 by unfold blkE; rw [if_pos he])
  have d0 : ((b.drop s.at_).length == 0) = true := by rw [hdl]; simp; omega
  have d0' : (((b.drop s.at_).length : Int) == 0) = true := by rw [hdl]; simp; omega
  have d0'' : decide (((b.drop s.at_).length : Int) = 0) = true := by rw [hdl]; simp; omega
  generalize b.drop s.at_ = bd at *
  clear hs hB hdl hp hk hpay hbl hbut he hat hlen
  go_enter Tryz.func14, Tryz.ntmps14
  go_wp2_with fail
  refine (HRS.out w hm hw).mono ?_
  rintro e w2 ⟨A2, c2, rfl, hs2, hc2, hcm2, hb2⟩
  have HF := hid (show BlkPost w0 w1 m g i Ab cb b At nt ct s L (.returned (.int .i64 10)) w2 from by unfold BlkPost; rw [HE.out]; exact ⟨rfl, hw.trans (hb2.mono hw.size), fun h => absurd h (by decide)⟩)
  clear HE hs2 hb2 hm hw HRS
  go_wp2_with fail
  go_ret
  exact HF.out
set_option maxRecDepth 20000 in
set_option maxHeartbeats 8000000 in
theorem block_open (m g : Nat) (i : InfoV) (Ab : Option Addr) (cb : Nat) (b : List UInt8) (At : Option Addr) (nt ct : Nat) (s : PS) (L : List BlkM) (w0 w1 w : World) (hR : Rdr w0 w1 w m g i Ab cb b At nt ct s L) (hs : s.ok b) (hB : Base w0 g Ab cb b) (hbm : w0.heap.size ≤ m) (hbi : 8 ≤ i.bi ∧ i.bi ≤ 24) (hpos : s.at_ < b.length) (he : (openH (b.drop s.at_)).1 ≠ 0) :
    Calls Tryz.prog 14 #[.pointer (some ⟨m, 0, none⟩)] w (BlkPost w0 w1 m g i Ab cb b At nt ct s L) := by
  obtain ⟨Ap, cp, Ak, ck, hm, hp, hk, hpay, hbl, hw, hbut⟩ := hR
  have hat := hs.at_
  have HRS := hid (fun W (hW : W.heap[m]? = some (.cells (RdCells g i Ap s.pl.length cp s.cnt s.short Ab b.length cb s.at_ i At nt ct Ak L.length ck 0 0 none 0 0) 56 (0, 0))) (hb : Below w0.heap.size w0 W) => rest_any m _ 56 Ab cb s.at_ b W hW rfl rfl (hB.sees.below hb) hB.cap.1 hB.cap.2 hat)
  have hdl : (b.drop s.at_).length = b.length - s.at_ := List.length_drop
  have hlen := hB.len
  have HOP := hid (fun A c W (hb : Below w0.heap.size w0 W) hs h1 h2 => hopenF_any g A c (b.drop s.at_) W hs h1 h2 (by rw [hdl]; omega) (hB.tab.keep hb hB.tab.lt))
  have hpos : s.at_ < b.length := by omega
  have d0 : ((b.drop s.at_).length == 0) = false := by rw [hdl]; simp; omega
  have d0' : (((b.drop s.at_).length : Int) == 0) = false := by rw [hdl]; simp; omega
  have d0'' : decide (((b.drop s.at_).length : Int) = 0) = false := by rw [hdl]; simp; omega
  obtain ⟨⟨E, h, P, S⟩, hr⟩ : ∃ r, openH (b.drop s.at_) = r := ⟨_, rfl⟩
  rw [hr] at HOP he
  simp only at he
  unfold OpenPostF at HOP
  simp only at HOP
  have HE := hid (show blkE i b s = E by unfold blkE; rw [if_neg (by omega), hr, if_pos he])
  have hE1 := hid he
  have dE : (E != 0) = true := by simpa using he
  obtain ⟨zk, zidx, zlen, zstp, zbnd, zlst, zlnk, zsiz⟩ := h
  unfold HeadV.cells at HOP
  (try simp only at HOP)
  generalize b.drop s.at_ = bd at *
  clear hs hB hdl hp hk hpay hbl hbut he hat hlen hpos hr
  go_enter Tryz.func14, Tryz.ntmps14
  go_wp2_with fail
  refine (HRS.out w hm hw).mono ?_
  rintro e w2 ⟨A2, c2, rfl, hs2, hc2, hcm2, hb2⟩
  go_upto_region 3 with fail
  go_cut [3, 4, 5, 6] (fun x y z q wx => ∃ gx A c, x = .pointer (some ⟨gx, 0, none⟩) ∧ y = .slice A P.length c ∧ z = .int .u32 S ∧ q = .int .i64 E ∧ wx.heap[gx]? = some (.cells #[.int .i64 zk, .int .i64 zidx, .int .i64 zlen, .int .i64 zstp, .int .i64 zbnd, .bool zlst, .int .u32 zlnk, .int .i64 zsiz] 67 (0, 0)) ∧ w.heap.size ≤ gx ∧ SeesB wx A P ∧ P.length ≤ c ∧ c ≤ maxLen ∧ (∀ a, A = some a → w.heap.size ≤ a.block) ∧ Below w.heap.size w wx)
  case first =>
    have hm2 := (hb2.block m (Array.getElem?_eq_some_iff.1 hm).1).trans hm
    refine wp_region_held_drew (S := fun W => W.heap[m]? = some (.cells (RdCells g i Ap s.pl.length cp s.cnt s.short Ab b.length cb s.at_ i At nt ct Ak L.length ck 0 0 none 0 0) 56 (0, 0))) (by kernel_rfl) hm2 (fun hHeld => ?_)
    have hb0 : Below w.heap.size w w2.drew := hb2.drew
    replace hm2 : w2.drew.heap[m]? = _ := hm2
    have hmlt : m < w.heap.size := (Array.getElem?_eq_some_iff.1 hm).1
    clear hs2 hm hb2
    generalize w2.drew = wd at *
    refine wpAnyH_takeD (i := 0) (d := some 13) (v := ?v100) rfl rfl (by kernel_rfl) (by kernel_rfl) (by kernel_rfl) (fun _ _ _ h => h) (Or.inl ⟨by rfl, ?hy100⟩) hHeld ?rest100
    case hy100 =>
      intro wS hS
      go_simp
      all_goals with_reducible rfl
    (try simp only [Act.put, List.setIfInBounds_toArray, List.set_cons_zero, List.set_cons_succ])
    refine wpAnyH_takeD (i := 1) (d := some 14) (v := ?v101) rfl rfl (by kernel_rfl) (by kernel_rfl) (by kernel_rfl) (fun _ _ _ h => h) (Or.inl ⟨by rfl, ?hy101⟩) hHeld ?rest101
    case hy101 =>
      intro wS hS
      go_simp
      all_goals with_reducible rfl
    (try simp only [Act.put, List.setIfInBounds_toArray, List.set_cons_zero, List.set_cons_succ])
    refine wpAnyH_takeD (i := 2) (d := some 15) (v := ?v102) rfl rfl (by kernel_rfl) (by kernel_rfl) (by kernel_rfl) (fun _ _ _ h => h) (Or.inl ⟨by rfl, ?hy102⟩) hHeld ?rest102
    case hy102 =>
      intro wS hS
      go_simp
      all_goals with_reducible rfl
    (try simp only [Act.put, List.setIfInBounds_toArray, List.set_cons_zero, List.set_cons_succ])
    refine wpAnyH_takeD (i := 3) (d := some 16) (v := ?v103) rfl rfl (by kernel_rfl) (by kernel_rfl) (by kernel_rfl) (fun _ _ _ h => h) (Or.inl ⟨by rfl, ?hy103⟩) hHeld ?rest103
    case hy103 =>
      intro wS hS
      go_simp
      all_goals with_reducible rfl
    (try simp only [Act.put, List.setIfInBounds_toArray, List.set_cons_zero, List.set_cons_succ])
    refine wpAnyH_takeD (i := 4) (d := some 17) (v := ?v104) rfl rfl (by kernel_rfl) (by kernel_rfl) (by kernel_rfl) (fun _ _ _ h => h) (Or.inl ⟨by rfl, ?hy104⟩) hHeld ?rest104
    case hy104 =>
      intro wS hS
      have k0 : wS.cell? ⟨m, 0, none⟩ = some (.pointer (some ⟨g, 0, none⟩)) := by rw [cell_of_row _ _ _ _ _ _ hS]; rfl
      go_simp
      all_goals with_reducible rfl
    (try simp only [Act.put, List.setIfInBounds_toArray, List.set_cons_zero, List.set_cons_succ])
    refine wpAnyH_takeD (i := 5) (d := some 18) (v := ?v105) rfl rfl (by kernel_rfl) (by kernel_rfl) (by kernel_rfl) (fun _ _ _ h => h) (Or.inl ⟨by rfl, ?hy105⟩) hHeld ?rest105
    case hy105 =>
      intro wS hS
      go_simp
      all_goals with_reducible rfl
    (try simp only [Act.put, List.setIfInBounds_toArray, List.set_cons_zero, List.set_cons_succ])
    refine wpAnyH_ready (rs := [6, 13]) (by kernel_rfl) (by simp) (AllReadyH.cons rfl (fun K hK => ?_) (AllReadyH.cons rfl (fun K hK => ?_) AllReadyH.nil))
    · rw [if_pos (by rfl)]
      go_simp
      refine (HRS.out wd hm2 (hw.trans (hb0.mono hw.size))).mono ?_
      rintro e x1c ⟨Ar, cr, rfl, hsr, hlr, hcr, hbc⟩
      have hmx1c := (hbc.block m (Nat.lt_of_lt_of_le hmlt hb0.size)).trans hm2
      have hbx1c := hb0.trans (hbc.mono hb0.size)
      clear hbc
      go_wp2_with fail
      refine hK.out _ _ hmx1c (fun hHeld => ?_)
      clear hK K
      (try simp only [Act.put, List.setIfInBounds_toArray, List.set_cons_zero, List.set_cons_succ])
      refine wpAnyH_ready (rs := [7, 13]) (by kernel_rfl) (by simp) (AllReadyH.cons rfl (fun K hK => ?_) (AllReadyH.cons rfl (fun K hK => ?_) AllReadyH.nil))
      · rw [if_pos (by rfl)]
        go_simp
        refine (HOP.out Ar cr x1c (hw.trans (hbx1c.mono hw.size)) hsr hlr hcr).mono ?_
        rintro e x2c ⟨A, c, rfl, hsa, hca, hcma, hbc, hfa⟩
        have hmx2c := (hbc.block m (Nat.lt_of_lt_of_le hmlt hbx1c.size)).trans hmx1c
        have hbx2c := hbx1c.trans (hbc.mono hbx1c.size)
        replace hfa : ∀ a, A = some a → w.heap.size ≤ a.block := fun a ha => Nat.le_trans hbx1c.size (hfa a ha)
        clear hbc
        go_wp2_with fail
        refine hK.out _ _ hmx2c (fun hHeld => ?_)
        clear hK K
        (try simp only [Act.put, List.setIfInBounds_toArray, List.set_cons_zero, List.set_cons_succ])
        refine wpAnyH_takeD (i := 8) (d := some 12) (v := ?v106) rfl rfl (by kernel_rfl) (by kernel_rfl) (by kernel_rfl) (fun _ _ _ h => h) (Or.inl ⟨by rfl, ?hy106⟩) hHeld ?rest106
        case hy106 =>
          intro wS hS
          go_simp
          all_goals with_reducible rfl
        (try simp only [Act.put, List.setIfInBounds_toArray, List.set_cons_zero, List.set_cons_succ])
        refine wpAnyH_takeD (i := 9) (d := some 21) (v := ?v107) rfl rfl (by kernel_rfl) (by kernel_rfl) (by kernel_rfl) (fun _ _ _ h => h) (Or.inl ⟨by rfl, ?hy107⟩) hHeld ?rest107
        case hy107 =>
          intro wS hS
          go_simp
          all_goals with_reducible rfl
        (try simp only [Act.put, List.setIfInBounds_toArray, List.set_cons_zero, List.set_cons_succ])
        refine wpAnyH_takeD (i := 10) (d := some 22) (v := ?v108) rfl rfl (by kernel_rfl) (by kernel_rfl) (by kernel_rfl) (fun _ _ _ h => h) (Or.inl ⟨by rfl, ?hy108⟩) hHeld ?rest108
        case hy108 =>
          intro wS hS
          go_simp
          all_goals with_reducible rfl
        (try simp only [Act.put, List.setIfInBounds_toArray, List.set_cons_zero, List.set_cons_succ])
        refine wpAnyH_takeD (i := 11) (d := some 23) (v := ?v109) rfl rfl (by kernel_rfl) (by kernel_rfl) (by kernel_rfl) (fun _ _ _ h => h) (Or.inl ⟨by rfl, ?hy109⟩) hHeld ?rest109
        case hy109 =>
          intro wS hS
          go_simp
          all_goals with_reducible rfl
        (try simp only [Act.put, List.setIfInBounds_toArray, List.set_cons_zero, List.set_cons_succ])
        refine wpAnyH_takeD (i := 12) (d := some 24) (v := ?v110) rfl rfl (by kernel_rfl) (by kernel_rfl) (by kernel_rfl) (fun _ _ _ h => h) (Or.inl ⟨by rfl, ?hy110⟩) hHeld ?rest110
        case hy110 =>
          intro wS hS
          go_simp
          all_goals with_reducible rfl
        (try simp only [Act.put, List.setIfInBounds_toArray, List.set_cons_zero, List.set_cons_succ])
        refine wpAnyH_ready (rs := [13]) (by kernel_rfl) (by simp) (AllReadyH.cons rfl (fun K hK => ?_) AllReadyH.nil)
        rw [if_pos (by rfl)]
        have hba : Below x2c.heap.size x2c (x2c.alloc (.cells #[.int .i64 0, .int .i64 0, .int .i64 0, .int .i64 0, .int .i64 0, .bool false, .int .u32 0, .int .i64 0] 67)) := (Below.refl _ _).alloc (Nat.le_refl _) _
        have hra := heap_alloc_new x2c (.cells #[.int .i64 0, .int .i64 0, .int .i64 0, .int .i64 0, .int .i64 0, .bool false, .int .u32 0, .int .i64 0] 67)
        have hbx3a := hbx2c.trans (hba.mono hbx2c.size)
        have hmx3a := (hba.block m (Nat.lt_of_lt_of_le hmlt hbx2c.size)).trans hmx2c
        have hga := hbx2c.size
        replace hsa := hsa.below hba
        clear hba
        go_simp
        generalize x2c.heap.size = gx at *
        generalize x2c.alloc (.cells #[.int .i64 0, .int .i64 0, .int .i64 0, .int .i64 0, .int .i64 0, .bool false, .int .u32 0, .int .i64 0] 67) = x3a at *
        refine hK.out _ _ hmx3a (fun hHeld => ?_)
        clear hK K
        (try simp only [Act.put, List.setIfInBounds_toArray, List.set_cons_zero, List.set_cons_succ])
        refine wpAnyH_ready (rs := [14]) (by kernel_rfl) (by simp) (AllReadyH.cons rfl (fun K hK => ?_) AllReadyH.nil)
        rw [if_pos (by rfl)]
        refine wp_store_row 67 (.tmp 3) (.tmp 21) rfl rfl gx rfl #[.int .i64 zk, .int .i64 zidx, .int .i64 zlen, .int .i64 zstp, .int .i64 zbnd, .bool zlst, .int .u32 zlnk, .int .i64 zsiz] rfl 67 #[.int .i64 0, .int .i64 0, .int .i64 0, .int .i64 0, .int .i64 0, .bool false, .int .u32 0, .int .i64 0] hra (by kernel_rfl) rfl (by simp [Value.oneCell']) ?_
        have hrS := setRow_heap _ gx _ #[.int .i64 zk, .int .i64 zidx, .int .i64 zlen, .int .i64 zstp, .int .i64 zbnd, .bool zlst, .int .u32 zlnk, .int .i64 zsiz] _ _ hra
        have hmS := (setRow_other x3a gx m #[.int .i64 zk, .int .i64 zidx, .int .i64 zlen, .int .i64 zstp, .int .i64 zbnd, .bool zlst, .int .u32 zlnk, .int .i64 zsiz] (by omega)).trans hmx3a
        have hbS := below_setRow hbx3a hga #[.int .i64 zk, .int .i64 zidx, .int .i64 zlen, .int .i64 zstp, .int .i64 zbnd, .bool zlst, .int .u32 zlnk, .int .i64 zsiz]
        have hsS := hsa.butZero hra #[.int .i64 zk, .int .i64 zidx, .int .i64 zlen, .int .i64 zstp, .int .i64 zbnd, .bool zlst, .int .u32 zlnk, .int .i64 zsiz]
        refine hK.out _ _ hmS (fun hHeld => ?_)
        clear hK K
        (try simp only [Act.put, List.setIfInBounds_toArray, List.set_cons_zero, List.set_cons_succ])
        refine wpAnyH_takeD (i := 15) (d := some 4) (v := ?v111) rfl rfl (by kernel_rfl) (by kernel_rfl) (by kernel_rfl) (fun _ _ _ h => h) (Or.inl ⟨by rfl, ?hy111⟩) hHeld ?rest111
        case hy111 =>
          intro wS hS
          go_simp
          all_goals with_reducible rfl
        (try simp only [Act.put, List.setIfInBounds_toArray, List.set_cons_zero, List.set_cons_succ])
        refine wpAnyH_takeD (i := 16) (d := some 5) (v := ?v112) rfl rfl (by kernel_rfl) (by kernel_rfl) (by kernel_rfl) (fun _ _ _ h => h) (Or.inl ⟨by rfl, ?hy112⟩) hHeld ?rest112
        case hy112 =>
          intro wS hS
          go_simp
          all_goals with_reducible rfl
        (try simp only [Act.put, List.setIfInBounds_toArray, List.set_cons_zero, List.set_cons_succ])
        refine wpAnyH_takeD (i := 17) (d := some 6) (v := ?v113) rfl rfl (by kernel_rfl) (by kernel_rfl) (by kernel_rfl) (fun _ _ _ h => h) (Or.inl ⟨by rfl, ?hy113⟩) hHeld ?rest113
        case hy113 =>
          intro wS hS
          go_simp
          all_goals with_reducible rfl
        (try simp only [Act.put, List.setIfInBounds_toArray, List.set_cons_zero, List.set_cons_succ])
        refine wpAnyH_done (by kernel_rfl) ?_ _
        go_wp2_with fail
        go_meet
        exact ⟨gx, A, c, rfl, rfl, rfl, rfl, hrS, hga, hsS, hca, hcma, hfa, hbS⟩
      · rw [if_pos (by rfl)]
        have hba : Below x1c.heap.size x1c (x1c.alloc (.cells #[.int .i64 0, .int .i64 0, .int .i64 0, .int .i64 0, .int .i64 0, .bool false, .int .u32 0, .int .i64 0] 67)) := (Below.refl _ _).alloc (Nat.le_refl _) _
        have hra := heap_alloc_new x1c (.cells #[.int .i64 0, .int .i64 0, .int .i64 0, .int .i64 0, .int .i64 0, .bool false, .int .u32 0, .int .i64 0] 67)
        have hbx2a := hbx1c.trans (hba.mono hbx1c.size)
        have hmx2a := (hba.block m (Nat.lt_of_lt_of_le hmlt hbx1c.size)).trans hmx1c
        have hga := hbx1c.size
        replace hsr := hsr.below hba
        clear hba
        go_simp
        generalize x1c.heap.size = gx at *
        generalize x1c.alloc (.cells #[.int .i64 0, .int .i64 0, .int .i64 0, .int .i64 0, .int .i64 0, .bool false, .int .u32 0, .int .i64 0] 67) = x2a at *
        refine hK.out _ _ hmx2a (fun hHeld => ?_)
        clear hK K
        (try simp only [Act.put, List.setIfInBounds_toArray, List.set_cons_zero, List.set_cons_succ])
        refine wpAnyH_ready (rs := [7]) (by kernel_rfl) (by simp) (AllReadyH.cons rfl (fun K hK => ?_) AllReadyH.nil)
        rw [if_pos (by rfl)]
        go_simp
        refine (HOP.out Ar cr x2a (hw.trans (hbx2a.mono hw.size)) hsr hlr hcr).mono ?_
        rintro e x5c ⟨A, c, rfl, hsa, hca, hcma, hbc, hfa⟩
        have hmx5c := (hbc.block m (Nat.lt_of_lt_of_le hmlt hbx2a.size)).trans hmx2a
        have hbx5c := hbx2a.trans (hbc.mono hbx2a.size)
        have hrx5c := (hbc.block gx (Array.getElem?_eq_some_iff.1 hra).1).trans hra
        replace hfa : ∀ a, A = some a → w.heap.size ≤ a.block := fun a ha => Nat.le_trans hbx2a.size (hfa a ha)
        clear hbc
        go_wp2_with fail
        refine hK.out _ _ hmx5c (fun hHeld => ?_)
        clear hK K
        (try simp only [Act.put, List.setIfInBounds_toArray, List.set_cons_zero, List.set_cons_succ])
        refine wpAnyH_takeD (i := 8) (d := some 12) (v := ?v114) rfl rfl (by kernel_rfl) (by kernel_rfl) (by kernel_rfl) (fun _ _ _ h => h) (Or.inl ⟨by rfl, ?hy114⟩) hHeld ?rest114
        case hy114 =>
          intro wS hS
          go_simp
          all_goals with_reducible rfl
        (try simp only [Act.put, List.setIfInBounds_toArray, List.set_cons_zero, List.set_cons_succ])
        refine wpAnyH_takeD (i := 9) (d := some 21) (v := ?v115) rfl rfl (by kernel_rfl) (by kernel_rfl) (by kernel_rfl) (fun _ _ _ h => h) (Or.inl ⟨by rfl, ?hy115⟩) hHeld ?rest115
        case hy115 =>
          intro wS hS
          go_simp
          all_goals with_reducible rfl
        (try simp only [Act.put, List.setIfInBounds_toArray, List.set_cons_zero, List.set_cons_succ])
        refine wpAnyH_takeD (i := 10) (d := some 22) (v := ?v116) rfl rfl (by kernel_rfl) (by kernel_rfl) (by kernel_rfl) (fun _ _ _ h => h) (Or.inl ⟨by rfl, ?hy116⟩) hHeld ?rest116
        case hy116 =>
          intro wS hS
          go_simp
          all_goals with_reducible rfl
        (try simp only [Act.put, List.setIfInBounds_toArray, List.set_cons_zero, List.set_cons_succ])
        refine wpAnyH_takeD (i := 11) (d := some 23) (v := ?v117) rfl rfl (by kernel_rfl) (by kernel_rfl) (by kernel_rfl) (fun _ _ _ h => h) (Or.inl ⟨by rfl, ?hy117⟩) hHeld ?rest117
        case hy117 =>
          intro wS hS
          go_simp
          all_goals with_reducible rfl
        (try simp only [Act.put, List.setIfInBounds_toArray, List.set_cons_zero, List.set_cons_succ])
        refine wpAnyH_takeD (i := 12) (d := some 24) (v := ?v118) rfl rfl (by kernel_rfl) (by kernel_rfl) (by kernel_rfl) (fun _ _ _ h => h) (Or.inl ⟨by rfl, ?hy118⟩) hHeld ?rest118
        case hy118 =>
          intro wS hS
          go_simp
          all_goals with_reducible rfl
        (try simp only [Act.put, List.setIfInBounds_toArray, List.set_cons_zero, List.set_cons_succ])
        refine wpAnyH_ready (rs := [14]) (by kernel_rfl) (by simp) (AllReadyH.cons rfl (fun K hK => ?_) AllReadyH.nil)
        rw [if_pos (by rfl)]
        refine wp_store_row 67 (.tmp 3) (.tmp 21) rfl rfl gx rfl #[.int .i64 zk, .int .i64 zidx, .int .i64 zlen, .int .i64 zstp, .int .i64 zbnd, .bool zlst, .int .u32 zlnk, .int .i64 zsiz] rfl 67 #[.int .i64 0, .int .i64 0, .int .i64 0, .int .i64 0, .int .i64 0, .bool false, .int .u32 0, .int .i64 0] hrx5c (by kernel_rfl) rfl (by simp [Value.oneCell']) ?_
        have hrS := setRow_heap _ gx _ #[.int .i64 zk, .int .i64 zidx, .int .i64 zlen, .int .i64 zstp, .int .i64 zbnd, .bool zlst, .int .u32 zlnk, .int .i64 zsiz] _ _ hrx5c
        have hmS := (setRow_other x5c gx m #[.int .i64 zk, .int .i64 zidx, .int .i64 zlen, .int .i64 zstp, .int .i64 zbnd, .bool zlst, .int .u32 zlnk, .int .i64 zsiz] (by omega)).trans hmx5c
        have hbS := below_setRow hbx5c hga #[.int .i64 zk, .int .i64 zidx, .int .i64 zlen, .int .i64 zstp, .int .i64 zbnd, .bool zlst, .int .u32 zlnk, .int .i64 zsiz]
        have hsS := hsa.butZero hrx5c #[.int .i64 zk, .int .i64 zidx, .int .i64 zlen, .int .i64 zstp, .int .i64 zbnd, .bool zlst, .int .u32 zlnk, .int .i64 zsiz]
        refine hK.out _ _ hmS (fun hHeld => ?_)
        clear hK K
        (try simp only [Act.put, List.setIfInBounds_toArray, List.set_cons_zero, List.set_cons_succ])
        refine wpAnyH_takeD (i := 15) (d := some 4) (v := ?v119) rfl rfl (by kernel_rfl) (by kernel_rfl) (by kernel_rfl) (fun _ _ _ h => h) (Or.inl ⟨by rfl, ?hy119⟩) hHeld ?rest119
        case hy119 =>
          intro wS hS
          go_simp
          all_goals with_reducible rfl
        (try simp only [Act.put, List.setIfInBounds_toArray, List.set_cons_zero, List.set_cons_succ])
        refine wpAnyH_takeD (i := 16) (d := some 5) (v := ?v120) rfl rfl (by kernel_rfl) (by kernel_rfl) (by kernel_rfl) (fun _ _ _ h => h) (Or.inl ⟨by rfl, ?hy120⟩) hHeld ?rest120
        case hy120 =>
          intro wS hS
          go_simp
          all_goals with_reducible rfl
        (try simp only [Act.put, List.setIfInBounds_toArray, List.set_cons_zero, List.set_cons_succ])
        refine wpAnyH_takeD (i := 17) (d := some 6) (v := ?v121) rfl rfl (by kernel_rfl) (by kernel_rfl) (by kernel_rfl) (fun _ _ _ h => h) (Or.inl ⟨by rfl, ?hy121⟩) hHeld ?rest121
        case hy121 =>
          intro wS hS
          go_simp
          all_goals with_reducible rfl
        (try simp only [Act.put, List.setIfInBounds_toArray, List.set_cons_zero, List.set_cons_succ])
        refine wpAnyH_done (by kernel_rfl) ?_ _
        go_wp2_with fail
        go_meet
        exact ⟨gx, A, c, rfl, rfl, rfl, rfl, hrS, hga, hsS, hca, hcma, hfa, hbS⟩
    · rw [if_pos (by rfl)]
      have hba : Below wd.heap.size wd (wd.alloc (.cells #[.int .i64 0, .int .i64 0, .int .i64 0, .int .i64 0, .int .i64 0, .bool false, .int .u32 0, .int .i64 0] 67)) := (Below.refl _ _).alloc (Nat.le_refl _) _
      have hra := heap_alloc_new wd (.cells #[.int .i64 0, .int .i64 0, .int .i64 0, .int .i64 0, .int .i64 0, .bool false, .int .u32 0, .int .i64 0] 67)
      have hbx1a := hb0.trans (hba.mono hb0.size)
      have hmx1a := (hba.block m (Nat.lt_of_lt_of_le hmlt hb0.size)).trans hm2
      have hga := hb0.size
      clear hba
      go_simp
      generalize wd.heap.size = gx at *
      generalize wd.alloc (.cells #[.int .i64 0, .int .i64 0, .int .i64 0, .int .i64 0, .int .i64 0, .bool false, .int .u32 0, .int .i64 0] 67) = x1a at *
      refine hK.out _ _ hmx1a (fun hHeld => ?_)
      clear hK K
      (try simp only [Act.put, List.setIfInBounds_toArray, List.set_cons_zero, List.set_cons_succ])
      refine wpAnyH_ready (rs := [6]) (by kernel_rfl) (by simp) (AllReadyH.cons rfl (fun K hK => ?_) AllReadyH.nil)
      rw [if_pos (by rfl)]
      go_simp
      refine (HRS.out x1a hmx1a (hw.trans (hbx1a.mono hw.size))).mono ?_
      rintro e x7c ⟨Ar, cr, rfl, hsr, hlr, hcr, hbc⟩
      have hmx7c := (hbc.block m (Nat.lt_of_lt_of_le hmlt hbx1a.size)).trans hmx1a
      have hbx7c := hbx1a.trans (hbc.mono hbx1a.size)
      have hrx7c := (hbc.block gx (Array.getElem?_eq_some_iff.1 hra).1).trans hra
      clear hbc
      go_wp2_with fail
      refine hK.out _ _ hmx7c (fun hHeld => ?_)
      clear hK K
      (try simp only [Act.put, List.setIfInBounds_toArray, List.set_cons_zero, List.set_cons_succ])
      refine wpAnyH_ready (rs := [7]) (by kernel_rfl) (by simp) (AllReadyH.cons rfl (fun K hK => ?_) AllReadyH.nil)
      rw [if_pos (by rfl)]
      go_simp
      refine (HOP.out Ar cr x7c (hw.trans (hbx7c.mono hw.size)) hsr hlr hcr).mono ?_
      rintro e x8c ⟨A, c, rfl, hsa, hca, hcma, hbc, hfa⟩
      have hmx8c := (hbc.block m (Nat.lt_of_lt_of_le hmlt hbx7c.size)).trans hmx7c
      have hbx8c := hbx7c.trans (hbc.mono hbx7c.size)
      have hrx8c := (hbc.block gx (Array.getElem?_eq_some_iff.1 hrx7c).1).trans hrx7c
      replace hfa : ∀ a, A = some a → w.heap.size ≤ a.block := fun a ha => Nat.le_trans hbx7c.size (hfa a ha)
      clear hbc
      go_wp2_with fail
      refine hK.out _ _ hmx8c (fun hHeld => ?_)
      clear hK K
      (try simp only [Act.put, List.setIfInBounds_toArray, List.set_cons_zero, List.set_cons_succ])
      refine wpAnyH_takeD (i := 8) (d := some 12) (v := ?v122) rfl rfl (by kernel_rfl) (by kernel_rfl) (by kernel_rfl) (fun _ _ _ h => h) (Or.inl ⟨by rfl, ?hy122⟩) hHeld ?rest122
      case hy122 =>
        intro wS hS
        go_simp
        all_goals with_reducible rfl
      (try simp only [Act.put, List.setIfInBounds_toArray, List.set_cons_zero, List.set_cons_succ])
      refine wpAnyH_takeD (i := 9) (d := some 21) (v := ?v123) rfl rfl (by kernel_rfl) (by kernel_rfl) (by kernel_rfl) (fun _ _ _ h => h) (Or.inl ⟨by rfl, ?hy123⟩) hHeld ?rest123
      case hy123 =>
        intro wS hS
        go_simp
        all_goals with_reducible rfl
      (try simp only [Act.put, List.setIfInBounds_toArray, List.set_cons_zero, List.set_cons_succ])
      refine wpAnyH_takeD (i := 10) (d := some 22) (v := ?v124) rfl rfl (by kernel_rfl) (by kernel_rfl) (by kernel_rfl) (fun _ _ _ h => h) (Or.inl ⟨by rfl, ?hy124⟩) hHeld ?rest124
      case hy124 =>
        intro wS hS
        go_simp
        all_goals with_reducible rfl
      (try simp only [Act.put, List.setIfInBounds_toArray, List.set_cons_zero, List.set_cons_succ])
      refine wpAnyH_takeD (i := 11) (d := some 23) (v := ?v125) rfl rfl (by kernel_rfl) (by kernel_rfl) (by kernel_rfl) (fun _ _ _ h => h) (Or.inl ⟨by rfl, ?hy125⟩) hHeld ?rest125
      case hy125 =>
        intro wS hS
        go_simp
        all_goals with_reducible rfl
      (try simp only [Act.put, List.setIfInBounds_toArray, List.set_cons_zero, List.set_cons_succ])
      refine wpAnyH_takeD (i := 12) (d := some 24) (v := ?v126) rfl rfl (by kernel_rfl) (by kernel_rfl) (by kernel_rfl) (fun _ _ _ h => h) (Or.inl ⟨by rfl, ?hy126⟩) hHeld ?rest126
      case hy126 =>
        intro wS hS
        go_simp
        all_goals with_reducible rfl
      (try simp only [Act.put, List.setIfInBounds_toArray, List.set_cons_zero, List.set_cons_succ])
      refine wpAnyH_ready (rs := [14]) (by kernel_rfl) (by simp) (AllReadyH.cons rfl (fun K hK => ?_) AllReadyH.nil)
      rw [if_pos (by rfl)]
      refine wp_store_row 67 (.tmp 3) (.tmp 21) rfl rfl gx rfl #[.int .i64 zk, .int .i64 zidx, .int .i64 zlen, .int .i64 zstp, .int .i64 zbnd, .bool zlst, .int .u32 zlnk, .int .i64 zsiz] rfl 67 #[.int .i64 0, .int .i64 0, .int .i64 0, .int .i64 0, .int .i64 0, .bool false, .int .u32 0, .int .i64 0] hrx8c (by kernel_rfl) rfl (by simp [Value.oneCell']) ?_
      have hrS := setRow_heap _ gx _ #[.int .i64 zk, .int .i64 zidx, .int .i64 zlen, .int .i64 zstp, .int .i64 zbnd, .bool zlst, .int .u32 zlnk, .int .i64 zsiz] _ _ hrx8c
      have hmS := (setRow_other x8c gx m #[.int .i64 zk, .int .i64 zidx, .int .i64 zlen, .int .i64 zstp, .int .i64 zbnd, .bool zlst, .int .u32 zlnk, .int .i64 zsiz] (by omega)).trans hmx8c
      have hbS := below_setRow hbx8c hga #[.int .i64 zk, .int .i64 zidx, .int .i64 zlen, .int .i64 zstp, .int .i64 zbnd, .bool zlst, .int .u32 zlnk, .int .i64 zsiz]
      have hsS := hsa.butZero hrx8c #[.int .i64 zk, .int .i64 zidx, .int .i64 zlen, .int .i64 zstp, .int .i64 zbnd, .bool zlst, .int .u32 zlnk, .int .i64 zsiz]
      refine hK.out _ _ hmS (fun hHeld => ?_)
      clear hK K
      (try simp only [Act.put, List.setIfInBounds_toArray, List.set_cons_zero, List.set_cons_succ])
      refine wpAnyH_takeD (i := 15) (d := some 4) (v := ?v127) rfl rfl (by kernel_rfl) (by kernel_rfl) (by kernel_rfl) (fun _ _ _ h => h) (Or.inl ⟨by rfl, ?hy127⟩) hHeld ?rest127
      case hy127 =>
        intro wS hS
        go_simp
        all_goals with_reducible rfl
      (try simp only [Act.put, List.setIfInBounds_toArray, List.set_cons_zero, List.set_cons_succ])
      refine wpAnyH_takeD (i := 16) (d := some 5) (v := ?v128) rfl rfl (by kernel_rfl) (by kernel_rfl) (by kernel_rfl) (fun _ _ _ h => h) (Or.inl ⟨by rfl, ?hy128⟩) hHeld ?rest128
      case hy128 =>
        intro wS hS
        go_simp
        all_goals with_reducible rfl
      (try simp only [Act.put, List.setIfInBounds_toArray, List.set_cons_zero, List.set_cons_succ])
      refine wpAnyH_takeD (i := 17) (d := some 6) (v := ?v129) rfl rfl (by kernel_rfl) (by kernel_rfl) (by kernel_rfl) (fun _ _ _ h => h) (Or.inl ⟨by rfl, ?hy129⟩) hHeld ?rest129
      case hy129 =>
        intro wS hS
        go_simp
        all_goals with_reducible rfl
      (try simp only [Act.put, List.setIfInBounds_toArray, List.set_cons_zero, List.set_cons_succ])
      refine wpAnyH_done (by kernel_rfl) ?_ _
      go_wp2_with fail
      go_meet
      exact ⟨gx, A, c, rfl, rfl, rfl, rfl, hrS, hga, hsS, hca, hcma, hfa, hbS⟩
  case rest =>
    obtain ⟨gx, A, c, rfl, rfl, rfl, rfl, hrx, hgx, hsx, hcx, hcmx, hfx, hbx⟩ := hcut
    have HF := hid (show BlkPost w0 w1 m g i Ab cb b At nt ct s L (.returned (.int .i64 E)) wc from by unfold BlkPost; rw [HE.out]; exact ⟨rfl, hw.trans (hbx.mono hw.size), fun h => absurd h hE1.out⟩)
    clear HE hs2 hb2 hm hw HRS HOP hrx hsx hbx
    go_wp2_with fail
    go_ret
    exact HF.out
set_option maxRecDepth 20000 in
set_option maxHeartbeats 8000000 in
theorem block_next (m g : Nat) (i : InfoV) (Ab : Option Addr) (cb : Nat) (b : List UInt8) (At : Option Addr) (nt ct : Nat) (s : PS) (L : List BlkM) (w0 w1 w : World) (hR : Rdr w0 w1 w m g i Ab cb b At nt ct s L) (hs : s.ok b) (hB : Base w0 g Ab cb b) (hbm : w0.heap.size ≤ m) (hbi : 8 ≤ i.bi ∧ i.bi ≤ 24) (hpos : s.at_ < b.length) (he : (openH (b.drop s.at_)).1 = 0) (hne : nextE i (openH (b.drop s.at_)).2.1 s.pl.length s.short ≠ 0) :
    Calls Tryz.prog 14 #[.pointer (some ⟨m, 0, none⟩)] w (BlkPost w0 w1 m g i Ab cb b At nt ct s L) := by
  obtain ⟨Ap, cp, Ak, ck, hm, hp, hk, hpay, hbl, hw, hbut⟩ := hR
  have hat := hs.at_
  have HRS := hid (fun W (hW : W.heap[m]? = some (.cells (RdCells g i Ap s.pl.length cp s.cnt s.short Ab b.length cb s.at_ i At nt ct Ak L.length ck 0 0 none 0 0) 56 (0, 0))) (hb : Below w0.heap.size w0 W) => rest_any m _ 56 Ab cb s.at_ b W hW rfl rfl (hB.sees.below hb) hB.cap.1 hB.cap.2 hat)
  have hdl : (b.drop s.at_).length = b.length - s.at_ := List.length_drop
  have hlen := hB.len
  have HOP := hid (fun A c W (hb : Below w0.heap.size w0 W) hs h1 h2 => hopenF_any g A c (b.drop s.at_) W hs h1 h2 (by rw [hdl]; omega) (hB.tab.keep hb hB.tab.lt))
  have hpos : s.at_ < b.length := by omega
  have d0 : ((b.drop s.at_).length == 0) = false := by rw [hdl]; simp; omega
  have d0' : (((b.drop s.at_).length : Int) == 0) = false := by rw [hdl]; simp; omega
  have d0'' : decide (((b.drop s.at_).length : Int) = 0) = false := by rw [hdl]; simp; omega
  obtain ⟨⟨E, h, P, S⟩, hr⟩ : ∃ r, openH (b.drop s.at_) = r := ⟨_, rfl⟩
  rw [hr] at HOP he
  simp only at he
  unfold OpenPostF at HOP
  simp only at HOP
  rw [hr] at hne
  simp only at hne
  subst he
  have HE := hid (show blkE i b s = nextE i h s.pl.length s.short by unfold blkE; rw [if_neg (by omega), hr, if_neg (by simp)])
  obtain ⟨nE, hnE⟩ : ∃ nE, nE = nextE i h s.pl.length s.short := ⟨_, rfl⟩
  have HN := hid (fun W (hW : W.heap[m]? = some (.cells (RdCells g i Ap s.pl.length cp s.cnt s.short Ab b.length cb s.at_ i At nt ct Ak L.length ck 0 0 none 0 0) 56 (0, 0))) => mnext_bad m _ 56 i h (s.at_ : Int) s.pl.length cp Ap s.short W hbi hW rfl rfl rfl rfl rfl rfl rfl rfl hne)
  rw [← hnE] at HN HE hne
  have hE1 := hid hne
  have dE : (nE != 0) = true := by simpa using hne
  obtain ⟨zk, zidx, zlen, zstp, zbnd, zlst, zlnk, zsiz⟩ := h
  unfold HeadV.cells at HOP
  unfold HeadV.v at HN
  (try simp only at HOP)
  (try simp only at HN)
  generalize b.drop s.at_ = bd at *
  clear hs hB hdl hp hk hpay hbl hbut hat hlen hpos hr hnE hne
  go_enter Tryz.func14, Tryz.ntmps14
  go_wp2_with fail
  refine (HRS.out w hm hw).mono ?_
  rintro e w2 ⟨A2, c2, rfl, hs2, hc2, hcm2, hb2⟩
  go_upto_region 3 with fail
  go_cut [3, 4, 5, 6] (fun x y z q wx => ∃ gx A c, x = .pointer (some ⟨gx, 0, none⟩) ∧ y = .slice A P.length c ∧ z = .int .u32 S ∧ q = .int .i64 0 ∧ wx.heap[gx]? = some (.cells #[.int .i64 zk, .int .i64 zidx, .int .i64 zlen, .int .i64 zstp, .int .i64 zbnd, .bool zlst, .int .u32 zlnk, .int .i64 zsiz] 67 (0, 0)) ∧ w.heap.size ≤ gx ∧ SeesB wx A P ∧ P.length ≤ c ∧ c ≤ maxLen ∧ (∀ a, A = some a → w.heap.size ≤ a.block) ∧ Below w.heap.size w wx)
  case first =>
    have hm2 := (hb2.block m (Array.getElem?_eq_some_iff.1 hm).1).trans hm
    refine wp_region_held_drew (S := fun W => W.heap[m]? = some (.cells (RdCells g i Ap s.pl.length cp s.cnt s.short Ab b.length cb s.at_ i At nt ct Ak L.length ck 0 0 none 0 0) 56 (0, 0))) (by kernel_rfl) hm2 (fun hHeld => ?_)
    have hb0 : Below w.heap.size w w2.drew := hb2.drew
    replace hm2 : w2.drew.heap[m]? = _ := hm2
    have hmlt : m < w.heap.size := (Array.getElem?_eq_some_iff.1 hm).1
    clear hs2 hm hb2
    generalize w2.drew = wd at *
    refine wpAnyH_takeD (i := 0) (d := some 13) (v := ?v130) rfl rfl (by kernel_rfl) (by kernel_rfl) (by kernel_rfl) (fun _ _ _ h => h) (Or.inl ⟨by rfl, ?hy130⟩) hHeld ?rest130
    case hy130 =>
      intro wS hS
      go_simp
      all_goals with_reducible rfl
    (try simp only [Act.put, List.setIfInBounds_toArray, List.set_cons_zero, List.set_cons_succ])
    refine wpAnyH_takeD (i := 1) (d := some 14) (v := ?v131) rfl rfl (by kernel_rfl) (by kernel_rfl) (by kernel_rfl) (fun _ _ _ h => h) (Or.inl ⟨by rfl, ?hy131⟩) hHeld ?rest131
    case hy131 =>
      intro wS hS
      go_simp
      all_goals with_reducible rfl
    (try simp only [Act.put, List.setIfInBounds_toArray, List.set_cons_zero, List.set_cons_succ])
    refine wpAnyH_takeD (i := 2) (d := some 15) (v := ?v132) rfl rfl (by kernel_rfl) (by kernel_rfl) (by kernel_rfl) (fun _ _ _ h => h) (Or.inl ⟨by rfl, ?hy132⟩) hHeld ?rest132
    case hy132 =>
      intro wS hS
      go_simp
      all_goals with_reducible rfl
    (try simp only [Act.put, List.setIfInBounds_toArray, List.set_cons_zero, List.set_cons_succ])
    refine wpAnyH_takeD (i := 3) (d := some 16) (v := ?v133) rfl rfl (by kernel_rfl) (by kernel_rfl) (by kernel_rfl) (fun _ _ _ h => h) (Or.inl ⟨by rfl, ?hy133⟩) hHeld ?rest133
    case hy133 =>
      intro wS hS
      go_simp
      all_goals with_reducible rfl
    (try simp only [Act.put, List.setIfInBounds_toArray, List.set_cons_zero, List.set_cons_succ])
    refine wpAnyH_takeD (i := 4) (d := some 17) (v := ?v134) rfl rfl (by kernel_rfl) (by kernel_rfl) (by kernel_rfl) (fun _ _ _ h => h) (Or.inl ⟨by rfl, ?hy134⟩) hHeld ?rest134
    case hy134 =>
      intro wS hS
      have k0 : wS.cell? ⟨m, 0, none⟩ = some (.pointer (some ⟨g, 0, none⟩)) := by rw [cell_of_row _ _ _ _ _ _ hS]; rfl
      go_simp
      all_goals with_reducible rfl
    (try simp only [Act.put, List.setIfInBounds_toArray, List.set_cons_zero, List.set_cons_succ])
    refine wpAnyH_takeD (i := 5) (d := some 18) (v := ?v135) rfl rfl (by kernel_rfl) (by kernel_rfl) (by kernel_rfl) (fun _ _ _ h => h) (Or.inl ⟨by rfl, ?hy135⟩) hHeld ?rest135
    case hy135 =>
      intro wS hS
      go_simp
      all_goals with_reducible rfl
    (try simp only [Act.put, List.setIfInBounds_toArray, List.set_cons_zero, List.set_cons_succ])
    refine wpAnyH_ready (rs := [6, 13]) (by kernel_rfl) (by simp) (AllReadyH.cons rfl (fun K hK => ?_) (AllReadyH.cons rfl (fun K hK => ?_) AllReadyH.nil))
    · rw [if_pos (by rfl)]
      go_simp
      refine (HRS.out wd hm2 (hw.trans (hb0.mono hw.size))).mono ?_
      rintro e x1c ⟨Ar, cr, rfl, hsr, hlr, hcr, hbc⟩
      have hmx1c := (hbc.block m (Nat.lt_of_lt_of_le hmlt hb0.size)).trans hm2
      have hbx1c := hb0.trans (hbc.mono hb0.size)
      clear hbc
      go_wp2_with fail
      refine hK.out _ _ hmx1c (fun hHeld => ?_)
      clear hK K
      (try simp only [Act.put, List.setIfInBounds_toArray, List.set_cons_zero, List.set_cons_succ])
      refine wpAnyH_ready (rs := [7, 13]) (by kernel_rfl) (by simp) (AllReadyH.cons rfl (fun K hK => ?_) (AllReadyH.cons rfl (fun K hK => ?_) AllReadyH.nil))
      · rw [if_pos (by rfl)]
        go_simp
        refine (HOP.out Ar cr x1c (hw.trans (hbx1c.mono hw.size)) hsr hlr hcr).mono ?_
        rintro e x2c ⟨A, c, rfl, hsa, hca, hcma, hbc, hfa⟩
        have hmx2c := (hbc.block m (Nat.lt_of_lt_of_le hmlt hbx1c.size)).trans hmx1c
        have hbx2c := hbx1c.trans (hbc.mono hbx1c.size)
        replace hfa : ∀ a, A = some a → w.heap.size ≤ a.block := fun a ha => Nat.le_trans hbx1c.size (hfa a ha)
        clear hbc
        go_wp2_with fail
        refine hK.out _ _ hmx2c (fun hHeld => ?_)
        clear hK K
        (try simp only [Act.put, List.setIfInBounds_toArray, List.set_cons_zero, List.set_cons_succ])
        refine wpAnyH_takeD (i := 8) (d := some 12) (v := ?v136) rfl rfl (by kernel_rfl) (by kernel_rfl) (by kernel_rfl) (fun _ _ _ h => h) (Or.inl ⟨by rfl, ?hy136⟩) hHeld ?rest136
        case hy136 =>
          intro wS hS
          go_simp
          all_goals with_reducible rfl
        (try simp only [Act.put, List.setIfInBounds_toArray, List.set_cons_zero, List.set_cons_succ])
        refine wpAnyH_takeD (i := 9) (d := some 21) (v := ?v137) rfl rfl (by kernel_rfl) (by kernel_rfl) (by kernel_rfl) (fun _ _ _ h => h) (Or.inl ⟨by rfl, ?hy137⟩) hHeld ?rest137
        case hy137 =>
          intro wS hS
          go_simp
          all_goals with_reducible rfl
        (try simp only [Act.put, List.setIfInBounds_toArray, List.set_cons_zero, List.set_cons_succ])
        refine wpAnyH_takeD (i := 10) (d := some 22) (v := ?v138) rfl rfl (by kernel_rfl) (by kernel_rfl) (by kernel_rfl) (fun _ _ _ h => h) (Or.inl ⟨by rfl, ?hy138⟩) hHeld ?rest138
        case hy138 =>
          intro wS hS
          go_simp
          all_goals with_reducible rfl
        (try simp only [Act.put, List.setIfInBounds_toArray, List.set_cons_zero, List.set_cons_succ])
        refine wpAnyH_takeD (i := 11) (d := some 23) (v := ?v139) rfl rfl (by kernel_rfl) (by kernel_rfl) (by kernel_rfl) (fun _ _ _ h => h) (Or.inl ⟨by rfl, ?hy139⟩) hHeld ?rest139
        case hy139 =>
          intro wS hS
          go_simp
          all_goals with_reducible rfl
        (try simp only [Act.put, List.setIfInBounds_toArray, List.set_cons_zero, List.set_cons_succ])
        refine wpAnyH_takeD (i := 12) (d := some 24) (v := ?v140) rfl rfl (by kernel_rfl) (by kernel_rfl) (by kernel_rfl) (fun _ _ _ h => h) (Or.inl ⟨by rfl, ?hy140⟩) hHeld ?rest140
        case hy140 =>
          intro wS hS
          go_simp
          all_goals with_reducible rfl
        (try simp only [Act.put, List.setIfInBounds_toArray, List.set_cons_zero, List.set_cons_succ])
        refine wpAnyH_ready (rs := [13]) (by kernel_rfl) (by simp) (AllReadyH.cons rfl (fun K hK => ?_) AllReadyH.nil)
        rw [if_pos (by rfl)]
        have hba : Below x2c.heap.size x2c (x2c.alloc (.cells #[.int .i64 0, .int .i64 0, .int .i64 0, .int .i64 0, .int .i64 0, .bool false, .int .u32 0, .int .i64 0] 67)) := (Below.refl _ _).alloc (Nat.le_refl _) _
        have hra := heap_alloc_new x2c (.cells #[.int .i64 0, .int .i64 0, .int .i64 0, .int .i64 0, .int .i64 0, .bool false, .int .u32 0, .int .i64 0] 67)
        have hbx3a := hbx2c.trans (hba.mono hbx2c.size)
        have hmx3a := (hba.block m (Nat.lt_of_lt_of_le hmlt hbx2c.size)).trans hmx2c
        have hga := hbx2c.size
        replace hsa := hsa.below hba
        clear hba
        go_simp
        generalize x2c.heap.size = gx at *
        generalize x2c.alloc (.cells #[.int .i64 0, .int .i64 0, .int .i64 0, .int .i64 0, .int .i64 0, .bool false, .int .u32 0, .int .i64 0] 67) = x3a at *
        refine hK.out _ _ hmx3a (fun hHeld => ?_)
        clear hK K
        (try simp only [Act.put, List.setIfInBounds_toArray, List.set_cons_zero, List.set_cons_succ])
        refine wpAnyH_ready (rs := [14]) (by kernel_rfl) (by simp) (AllReadyH.cons rfl (fun K hK => ?_) AllReadyH.nil)
        rw [if_pos (by rfl)]
        refine wp_store_row 67 (.tmp 3) (.tmp 21) rfl rfl gx rfl #[.int .i64 zk, .int .i64 zidx, .int .i64 zlen, .int .i64 zstp, .int .i64 zbnd, .bool zlst, .int .u32 zlnk, .int .i64 zsiz] rfl 67 #[.int .i64 0, .int .i64 0, .int .i64 0, .int .i64 0, .int .i64 0, .bool false, .int .u32 0, .int .i64 0] hra (by kernel_rfl) rfl (by simp [Value.oneCell']) ?_
        have hrS := setRow_heap _ gx _ #[.int .i64 zk, .int .i64 zidx, .int .i64 zlen, .int .i64 zstp, .int .i64 zbnd, .bool zlst, .int .u32 zlnk, .int .i64 zsiz] _ _ hra
        have hmS := (setRow_other x3a gx m #[.int .i64 zk, .int .i64 zidx, .int .i64 zlen, .int .i64 zstp, .int .i64 zbnd, .bool zlst, .int .u32 zlnk, .int .i64 zsiz] (by omega)).trans hmx3a
        have hbS := below_setRow hbx3a hga #[.int .i64 zk, .int .i64 zidx, .int .i64 zlen, .int .i64 zstp, .int .i64 zbnd, .bool zlst, .int .u32 zlnk, .int .i64 zsiz]
        have hsS := hsa.butZero hra #[.int .i64 zk, .int .i64 zidx, .int .i64 zlen, .int .i64 zstp, .int .i64 zbnd, .bool zlst, .int .u32 zlnk, .int .i64 zsiz]
        refine hK.out _ _ hmS (fun hHeld => ?_)
        clear hK K
        (try simp only [Act.put, List.setIfInBounds_toArray, List.set_cons_zero, List.set_cons_succ])
        refine wpAnyH_takeD (i := 15) (d := some 4) (v := ?v141) rfl rfl (by kernel_rfl) (by kernel_rfl) (by kernel_rfl) (fun _ _ _ h => h) (Or.inl ⟨by rfl, ?hy141⟩) hHeld ?rest141
        case hy141 =>
          intro wS hS
          go_simp
          all_goals with_reducible rfl
        (try simp only [Act.put, List.setIfInBounds_toArray, List.set_cons_zero, List.set_cons_succ])
        refine wpAnyH_takeD (i := 16) (d := some 5) (v := ?v142) rfl rfl (by kernel_rfl) (by kernel_rfl) (by kernel_rfl) (fun _ _ _ h => h) (Or.inl ⟨by rfl, ?hy142⟩) hHeld ?rest142
        case hy142 =>
          intro wS hS
          go_simp
          all_goals with_reducible rfl
        (try simp only [Act.put, List.setIfInBounds_toArray, List.set_cons_zero, List.set_cons_succ])
        refine wpAnyH_takeD (i := 17) (d := some 6) (v := ?v143) rfl rfl (by kernel_rfl) (by kernel_rfl) (by kernel_rfl) (fun _ _ _ h => h) (Or.inl ⟨by rfl, ?hy143⟩) hHeld ?rest143
        case hy143 =>
          intro wS hS
          go_simp
          all_goals with_reducible rfl
        (try simp only [Act.put, List.setIfInBounds_toArray, List.set_cons_zero, List.set_cons_succ])
        refine wpAnyH_done (by kernel_rfl) ?_ _
        go_wp2_with fail
        go_meet
        exact ⟨gx, A, c, rfl, rfl, rfl, rfl, hrS, hga, hsS, hca, hcma, hfa, hbS⟩
      · rw [if_pos (by rfl)]
        have hba : Below x1c.heap.size x1c (x1c.alloc (.cells #[.int .i64 0, .int .i64 0, .int .i64 0, .int .i64 0, .int .i64 0, .bool false, .int .u32 0, .int .i64 0] 67)) := (Below.refl _ _).alloc (Nat.le_refl _) _
        have hra := heap_alloc_new x1c (.cells #[.int .i64 0, .int .i64 0, .int .i64 0, .int .i64 0, .int .i64 0, .bool false, .int .u32 0, .int .i64 0] 67)
        have hbx2a := hbx1c.trans (hba.mono hbx1c.size)
        have hmx2a := (hba.block m (Nat.lt_of_lt_of_le hmlt hbx1c.size)).trans hmx1c
        have hga := hbx1c.size
        replace hsr := hsr.below hba
        clear hba
        go_simp
        generalize x1c.heap.size = gx at *
        generalize x1c.alloc (.cells #[.int .i64 0, .int .i64 0, .int .i64 0, .int .i64 0, .int .i64 0, .bool false, .int .u32 0, .int .i64 0] 67) = x2a at *
        refine hK.out _ _ hmx2a (fun hHeld => ?_)
        clear hK K
        (try simp only [Act.put, List.setIfInBounds_toArray, List.set_cons_zero, List.set_cons_succ])
        refine wpAnyH_ready (rs := [7]) (by kernel_rfl) (by simp) (AllReadyH.cons rfl (fun K hK => ?_) AllReadyH.nil)
        rw [if_pos (by rfl)]
        go_simp
        refine (HOP.out Ar cr x2a (hw.trans (hbx2a.mono hw.size)) hsr hlr hcr).mono ?_
        rintro e x5c ⟨A, c, rfl, hsa, hca, hcma, hbc, hfa⟩
        have hmx5c := (hbc.block m (Nat.lt_of_lt_of_le hmlt hbx2a.size)).trans hmx2a
        have hbx5c := hbx2a.trans (hbc.mono hbx2a.size)
        have hrx5c := (hbc.block gx (Array.getElem?_eq_some_iff.1 hra).1).trans hra
        replace hfa : ∀ a, A = some a → w.heap.size ≤ a.block := fun a ha => Nat.le_trans hbx2a.size (hfa a ha)
        clear hbc
        go_wp2_with fail
        refine hK.out _ _ hmx5c (fun hHeld => ?_)
        clear hK K
        (try simp only [Act.put, List.setIfInBounds_toArray, List.set_cons_zero, List.set_cons_succ])
        refine wpAnyH_takeD (i := 8) (d := some 12) (v := ?v144) rfl rfl (by kernel_rfl) (by kernel_rfl) (by kernel_rfl) (fun _ _ _ h => h) (Or.inl ⟨by rfl, ?hy144⟩) hHeld ?rest144
        case hy144 =>
          intro wS hS
          go_simp
          all_goals with_reducible rfl
        (try simp only [Act.put, List.setIfInBounds_toArray, List.set_cons_zero, List.set_cons_succ])
        refine wpAnyH_takeD (i := 9) (d := some 21) (v := ?v145) rfl rfl (by kernel_rfl) (by kernel_rfl) (by kernel_rfl) (fun _ _ _ h => h) (Or.inl ⟨by rfl, ?hy145⟩) hHeld ?rest145
        case hy145 =>
          intro wS hS
          go_simp
          all_goals with_reducible rfl
        (try simp only [Act.put, List.setIfInBounds_toArray, List.set_cons_zero, List.set_cons_succ])
        refine wpAnyH_takeD (i := 10) (d := some 22) (v := ?v146) rfl rfl (by kernel_rfl) (by kernel_rfl) (by kernel_rfl) (fun _ _ _ h => h) (Or.inl ⟨by rfl, ?hy146⟩) hHeld ?rest146
        case hy146 =>
          intro wS hS
          go_simp
          all_goals with_reducible rfl
        (try simp only [Act.put, List.setIfInBounds_toArray, List.set_cons_zero, List.set_cons_succ])
        refine wpAnyH_takeD (i := 11) (d := some 23) (v := ?v147) rfl rfl (by kernel_rfl) (by kernel_rfl) (by kernel_rfl) (fun _ _ _ h => h) (Or.inl ⟨by rfl, ?hy147⟩) hHeld ?rest147
        case hy147 =>
          intro wS hS
          go_simp
          all_goals with_reducible rfl
        (try simp only [Act.put, List.setIfInBounds_toArray, List.set_cons_zero, List.set_cons_succ])
        refine wpAnyH_takeD (i := 12) (d := some 24) (v := ?v148) rfl rfl (by kernel_rfl) (by kernel_rfl) (by kernel_rfl) (fun _ _ _ h => h) (Or.inl ⟨by rfl, ?hy148⟩) hHeld ?rest148
        case hy148 =>
          intro wS hS
          go_simp
          all_goals with_reducible rfl
        (try simp only [Act.put, List.setIfInBounds_toArray, List.set_cons_zero, List.set_cons_succ])
        refine wpAnyH_ready (rs := [14]) (by kernel_rfl) (by simp) (AllReadyH.cons rfl (fun K hK => ?_) AllReadyH.nil)
        rw [if_pos (by rfl)]
        refine wp_store_row 67 (.tmp 3) (.tmp 21) rfl rfl gx rfl #[.int .i64 zk, .int .i64 zidx, .int .i64 zlen, .int .i64 zstp, .int .i64 zbnd, .bool zlst, .int .u32 zlnk, .int .i64 zsiz] rfl 67 #[.int .i64 0, .int .i64 0, .int .i64 0, .int .i64 0, .int .i64 0, .bool false, .int .u32 0, .int .i64 0] hrx5c (by kernel_rfl) rfl (by simp [Value.oneCell']) ?_
        have hrS := setRow_heap _ gx _ #[.int .i64 zk, .int .i64 zidx, .int .i64 zlen, .int .i64 zstp, .int .i64 zbnd, .bool zlst, .int .u32 zlnk, .int .i64 zsiz] _ _ hrx5c
        have hmS := (setRow_other x5c gx m #[.int .i64 zk, .int .i64 zidx, .int .i64 zlen, .int .i64 zstp, .int .i64 zbnd, .bool zlst, .int .u32 zlnk, .int .i64 zsiz] (by omega)).trans hmx5c
        have hbS := below_setRow hbx5c hga #[.int .i64 zk, .int .i64 zidx, .int .i64 zlen, .int .i64 zstp, .int .i64 zbnd, .bool zlst, .int .u32 zlnk, .int .i64 zsiz]
        have hsS := hsa.butZero hrx5c #[.int .i64 zk, .int .i64 zidx, .int .i64 zlen, .int .i64 zstp, .int .i64 zbnd, .bool zlst, .int .u32 zlnk, .int .i64 zsiz]
        refine hK.out _ _ hmS (fun hHeld => ?_)
        clear hK K
        (try simp only [Act.put, List.setIfInBounds_toArray, List.set_cons_zero, List.set_cons_succ])
        refine wpAnyH_takeD (i := 15) (d := some 4) (v := ?v149) rfl rfl (by kernel_rfl) (by kernel_rfl) (by kernel_rfl) (fun _ _ _ h => h) (Or.inl ⟨by rfl, ?hy149⟩) hHeld ?rest149
        case hy149 =>
          intro wS hS
          go_simp
          all_goals with_reducible rfl
        (try simp only [Act.put, List.setIfInBounds_toArray, List.set_cons_zero, List.set_cons_succ])
        refine wpAnyH_takeD (i := 16) (d := some 5) (v := ?v150) rfl rfl (by kernel_rfl) (by kernel_rfl) (by kernel_rfl) (fun _ _ _ h => h) (Or.inl ⟨by rfl, ?hy150⟩) hHeld ?rest150
        case hy150 =>
          intro wS hS
          go_simp
          all_goals with_reducible rfl
        (try simp only [Act.put, List.setIfInBounds_toArray, List.set_cons_zero, List.set_cons_succ])
        refine wpAnyH_takeD (i := 17) (d := some 6) (v := ?v151) rfl rfl (by kernel_rfl) (by kernel_rfl) (by kernel_rfl) (fun _ _ _ h => h) (Or.inl ⟨by rfl, ?hy151⟩) hHeld ?rest151
        case hy151 =>
          intro wS hS
          go_simp
          all_goals with_reducible rfl
        (try simp only [Act.put, List.setIfInBounds_toArray, List.set_cons_zero, List.set_cons_succ])
        refine wpAnyH_done (by kernel_rfl) ?_ _
        go_wp2_with fail
        go_meet
        exact ⟨gx, A, c, rfl, rfl, rfl, rfl, hrS, hga, hsS, hca, hcma, hfa, hbS⟩
    · rw [if_pos (by rfl)]
      have hba : Below wd.heap.size wd (wd.alloc (.cells #[.int .i64 0, .int .i64 0, .int .i64 0, .int .i64 0, .int .i64 0, .bool false, .int .u32 0, .int .i64 0] 67)) := (Below.refl _ _).alloc (Nat.le_refl _) _
      have hra := heap_alloc_new wd (.cells #[.int .i64 0, .int .i64 0, .int .i64 0, .int .i64 0, .int .i64 0, .bool false, .int .u32 0, .int .i64 0] 67)
      have hbx1a := hb0.trans (hba.mono hb0.size)
      have hmx1a := (hba.block m (Nat.lt_of_lt_of_le hmlt hb0.size)).trans hm2
      have hga := hb0.size
      clear hba
      go_simp
      generalize wd.heap.size = gx at *
      generalize wd.alloc (.cells #[.int .i64 0, .int .i64 0, .int .i64 0, .int .i64 0, .int .i64 0, .bool false, .int .u32 0, .int .i64 0] 67) = x1a at *
      refine hK.out _ _ hmx1a (fun hHeld => ?_)
      clear hK K
      (try simp only [Act.put, List.setIfInBounds_toArray, List.set_cons_zero, List.set_cons_succ])
      refine wpAnyH_ready (rs := [6]) (by kernel_rfl) (by simp) (AllReadyH.cons rfl (fun K hK => ?_) AllReadyH.nil)
      rw [if_pos (by rfl)]
      go_simp
      refine (HRS.out x1a hmx1a (hw.trans (hbx1a.mono hw.size))).mono ?_
      rintro e x7c ⟨Ar, cr, rfl, hsr, hlr, hcr, hbc⟩
      have hmx7c := (hbc.block m (Nat.lt_of_lt_of_le hmlt hbx1a.size)).trans hmx1a
      have hbx7c := hbx1a.trans (hbc.mono hbx1a.size)
      have hrx7c := (hbc.block gx (Array.getElem?_eq_some_iff.1 hra).1).trans hra
      clear hbc
      go_wp2_with fail
      refine hK.out _ _ hmx7c (fun hHeld => ?_)
      clear hK K
      (try simp only [Act.put, List.setIfInBounds_toArray, List.set_cons_zero, List.set_cons_succ])
      refine wpAnyH_ready (rs := [7]) (by kernel_rfl) (by simp) (AllReadyH.cons rfl (fun K hK => ?_) AllReadyH.nil)
      rw [if_pos (by rfl)]
      go_simp
      refine (HOP.out Ar cr x7c (hw.trans (hbx7c.mono hw.size)) hsr hlr hcr).mono ?_
      rintro e x8c ⟨A, c, rfl, hsa, hca, hcma, hbc, hfa⟩
      have hmx8c := (hbc.block m (Nat.lt_of_lt_of_le hmlt hbx7c.size)).trans hmx7c
      have hbx8c := hbx7c.trans (hbc.mono hbx7c.size)
      have hrx8c := (hbc.block gx (Array.getElem?_eq_some_iff.1 hrx7c).1).trans hrx7c
      replace hfa : ∀ a, A = some a → w.heap.size ≤ a.block := fun a ha => Nat.le_trans hbx7c.size (hfa a ha)
      clear hbc
      go_wp2_with fail
      refine hK.out _ _ hmx8c (fun hHeld => ?_)
      clear hK K
      (try simp only [Act.put, List.setIfInBounds_toArray, List.set_cons_zero, List.set_cons_succ])
      refine wpAnyH_takeD (i := 8) (d := some 12) (v := ?v152) rfl rfl (by kernel_rfl) (by kernel_rfl) (by kernel_rfl) (fun _ _ _ h => h) (Or.inl ⟨by rfl, ?hy152⟩) hHeld ?rest152
      case hy152 =>
        intro wS hS
        go_simp
        all_goals with_reducible rfl
      (try simp only [Act.put, List.setIfInBounds_toArray, List.set_cons_zero, List.set_cons_succ])
      refine wpAnyH_takeD (i := 9) (d := some 21) (v := ?v153) rfl rfl (by kernel_rfl) (by kernel_rfl) (by kernel_rfl) (fun _ _ _ h => h) (Or.inl ⟨by rfl, ?hy153⟩) hHeld ?rest153
      case hy153 =>
        intro wS hS
        go_simp
        all_goals with_reducible rfl
      (try simp only [Act.put, List.setIfInBounds_toArray, List.set_cons_zero, List.set_cons_succ])
      refine wpAnyH_takeD (i := 10) (d := some 22) (v := ?v154) rfl rfl (by kernel_rfl) (by kernel_rfl) (by kernel_rfl) (fun _ _ _ h => h) (Or.inl ⟨by rfl, ?hy154⟩) hHeld ?rest154
      case hy154 =>
        intro wS hS
        go_simp
        all_goals with_reducible rfl
      (try simp only [Act.put, List.setIfInBounds_toArray, List.set_cons_zero, List.set_cons_succ])
      refine wpAnyH_takeD (i := 11) (d := some 23) (v := ?v155) rfl rfl (by kernel_rfl) (by kernel_rfl) (by kernel_rfl) (fun _ _ _ h => h) (Or.inl ⟨by rfl, ?hy155⟩) hHeld ?rest155
      case hy155 =>
        intro wS hS
        go_simp
        all_goals with_reducible rfl
      (try simp only [Act.put, List.setIfInBounds_toArray, List.set_cons_zero, List.set_cons_succ])
      refine wpAnyH_takeD (i := 12) (d := some 24) (v := ?v156) rfl rfl (by kernel_rfl) (by kernel_rfl) (by kernel_rfl) (fun _ _ _ h => h) (Or.inl ⟨by rfl, ?hy156⟩) hHeld ?rest156
      case hy156 =>
        intro wS hS
        go_simp
        all_goals with_reducible rfl
      (try simp only [Act.put, List.setIfInBounds_toArray, List.set_cons_zero, List.set_cons_succ])
      refine wpAnyH_ready (rs := [14]) (by kernel_rfl) (by simp) (AllReadyH.cons rfl (fun K hK => ?_) AllReadyH.nil)
      rw [if_pos (by rfl)]
      refine wp_store_row 67 (.tmp 3) (.tmp 21) rfl rfl gx rfl #[.int .i64 zk, .int .i64 zidx, .int .i64 zlen, .int .i64 zstp, .int .i64 zbnd, .bool zlst, .int .u32 zlnk, .int .i64 zsiz] rfl 67 #[.int .i64 0, .int .i64 0, .int .i64 0, .int .i64 0, .int .i64 0, .bool false, .int .u32 0, .int .i64 0] hrx8c (by kernel_rfl) rfl (by simp [Value.oneCell']) ?_
      have hrS := setRow_heap _ gx _ #[.int .i64 zk, .int .i64 zidx, .int .i64 zlen, .int .i64 zstp, .int .i64 zbnd, .bool zlst, .int .u32 zlnk, .int .i64 zsiz] _ _ hrx8c
      have hmS := (setRow_other x8c gx m #[.int .i64 zk, .int .i64 zidx, .int .i64 zlen, .int .i64 zstp, .int .i64 zbnd, .bool zlst, .int .u32 zlnk, .int .i64 zsiz] (by omega)).trans hmx8c
      have hbS := below_setRow hbx8c hga #[.int .i64 zk, .int .i64 zidx, .int .i64 zlen, .int .i64 zstp, .int .i64 zbnd, .bool zlst, .int .u32 zlnk, .int .i64 zsiz]
      have hsS := hsa.butZero hrx8c #[.int .i64 zk, .int .i64 zidx, .int .i64 zlen, .int .i64 zstp, .int .i64 zbnd, .bool zlst, .int .u32 zlnk, .int .i64 zsiz]
      refine hK.out _ _ hmS (fun hHeld => ?_)
      clear hK K
      (try simp only [Act.put, List.setIfInBounds_toArray, List.set_cons_zero, List.set_cons_succ])
      refine wpAnyH_takeD (i := 15) (d := some 4) (v := ?v157) rfl rfl (by kernel_rfl) (by kernel_rfl) (by kernel_rfl) (fun _ _ _ h => h) (Or.inl ⟨by rfl, ?hy157⟩) hHeld ?rest157
      case hy157 =>
        intro wS hS
        go_simp
        all_goals with_reducible rfl
      (try simp only [Act.put, List.setIfInBounds_toArray, List.set_cons_zero, List.set_cons_succ])
      refine wpAnyH_takeD (i := 16) (d := some 5) (v := ?v158) rfl rfl (by kernel_rfl) (by kernel_rfl) (by kernel_rfl) (fun _ _ _ h => h) (Or.inl ⟨by rfl, ?hy158⟩) hHeld ?rest158
      case hy158 =>
        intro wS hS
        go_simp
        all_goals with_reducible rfl
      (try simp only [Act.put, List.setIfInBounds_toArray, List.set_cons_zero, List.set_cons_succ])
      refine wpAnyH_takeD (i := 17) (d := some 6) (v := ?v159) rfl rfl (by kernel_rfl) (by kernel_rfl) (by kernel_rfl) (fun _ _ _ h => h) (Or.inl ⟨by rfl, ?hy159⟩) hHeld ?rest159
      case hy159 =>
        intro wS hS
        go_simp
        all_goals with_reducible rfl
      (try simp only [Act.put, List.setIfInBounds_toArray, List.set_cons_zero, List.set_cons_succ])
      refine wpAnyH_done (by kernel_rfl) ?_ _
      go_wp2_with fail
      go_meet
      exact ⟨gx, A, c, rfl, rfl, rfl, rfl, hrS, hga, hsS, hca, hcma, hfa, hbS⟩
  case rest =>
    obtain ⟨gx, A, c, rfl, rfl, rfl, rfl, hrx, hgx, hsx, hcx, hcmx, hfx, hbx⟩ := hcut
    have hmlt : m < w.heap.size := (Array.getElem?_eq_some_iff.1 hm).1
    have hmc := (hbx.block m hmlt).trans hm
    have hwc := hw.trans (hbx.mono hw.size)
    clear hs2 hb2 hm hw HRS HOP
    go_wp2_with fail
    go_upto_region 6 with fail
    have hS12 : wc.cell? ⟨m, 12, none⟩ = some (.int .i64 (s.at_ : Int)) := by rw [cell_of_row _ _ _ _ _ _ hmc]; rfl
    refine wp_region_held_drew (S := fun W => W.cell? ⟨m, 12, none⟩ = some (.int .i64 (s.at_ : Int)) ∧ W.heap[gx]? = some (.cells #[.int .i64 zk, .int .i64 zidx, .int .i64 zlen, .int .i64 zstp, .int .i64 zbnd, .bool zlst, .int .u32 zlnk, .int .i64 zsiz] 67 (0, 0))) (by kernel_rfl) ⟨hS12, hrx⟩ (fun hHeld => ?_)
    clear hS12
    replace hmc : wc.drew.heap[m]? = _ := hmc
    replace hrx : wc.drew.heap[gx]? = _ := hrx
    replace hwc : Below w0.heap.size w0 wc.drew := hwc.drew
    generalize wc.drew = w3 at *
    refine wpAnyH_takeD (i := 0) (d := some 28) (v := ?v160) rfl rfl (by kernel_rfl) (by kernel_rfl) (by kernel_rfl) (fun _ _ _ h => h) (Or.inl ⟨by rfl, ?hy160⟩) hHeld ?rest160
    case hy160 =>
      intro wS hS
      go_simp
      all_goals with_reducible rfl
    (try simp only [Act.put, List.setIfInBounds_toArray, List.set_cons_zero, List.set_cons_succ])
    refine wpAnyH_takeD (i := 1) (d := some 29) (v := ?v161) rfl rfl (by kernel_rfl) (by kernel_rfl) (by kernel_rfl) (fun _ _ _ h => h) (Or.inl ⟨by rfl, ?hy161⟩) hHeld ?rest161
    case hy161 =>
      intro wS hS
      go_simp
      all_goals with_reducible rfl
    (try simp only [Act.put, List.setIfInBounds_toArray, List.set_cons_zero, List.set_cons_succ])
    refine wpAnyH_takeD (i := 2) (d := some 30) (v := ?v162) rfl rfl (by kernel_rfl) (by kernel_rfl) (by kernel_rfl) (fun _ _ _ h => h) (Or.inl ⟨by rfl, ?hy162⟩) hHeld ?rest162
    case hy162 =>
      intro wS hS
      go_simp
      all_goals with_reducible rfl
    (try simp only [Act.put, List.setIfInBounds_toArray, List.set_cons_zero, List.set_cons_succ])
    refine wpAnyH_takeD (i := 3) (d := some 31) (v := .agg #[.int .i64 zk, .int .i64 zidx, .int .i64 zlen, .int .i64 zstp, .int .i64 zbnd, .bool zlst, .int .u32 zlnk, .int .i64 zsiz]) rfl rfl (by kernel_rfl) (by kernel_rfl) (by kernel_rfl) (fun _ _ _ h => h) (Or.inl ⟨by rfl, ?hy163⟩) hHeld ?rest163
    case hy163 =>
      intro wS hS
      exact run_load_rowop 67 (.tmp 3) rfl gx (by rfl) #[.int .i64 zk, .int .i64 zidx, .int .i64 zlen, .int .i64 zstp, .int .i64 zbnd, .bool zlst, .int .u32 zlnk, .int .i64 zsiz] _ _ hS.2 _ Tryz.underlying67 rfl (by kernel_rfl)
    (try simp only [Act.put, List.setIfInBounds_toArray, List.set_cons_zero, List.set_cons_succ])
    refine wpAnyH_takeD (i := 4) (d := some 32) (v := ?v164) rfl rfl (by kernel_rfl) (by kernel_rfl) (by kernel_rfl) (fun _ _ _ h => h) (Or.inl ⟨by rfl, ?hy164⟩) hHeld ?rest164
    case hy164 =>
      intro wS hS
      go_simp
      all_goals with_reducible rfl
    (try simp only [Act.put, List.setIfInBounds_toArray, List.set_cons_zero, List.set_cons_succ])
    refine wpAnyH_takeD (i := 5) (d := some 33) (v := ?v165) rfl rfl (by kernel_rfl) (by kernel_rfl) (by kernel_rfl) (fun _ _ _ h => h) (Or.inl ⟨by rfl, ?hy165⟩) hHeld ?rest165
    case hy165 =>
      intro wS hS
      go_simp
      all_goals with_reducible rfl
    (try simp only [Act.put, List.setIfInBounds_toArray, List.set_cons_zero, List.set_cons_succ])
    refine wpAnyH_takeD (i := 6) (d := some 34) (v := ?v166) rfl rfl (by kernel_rfl) (by kernel_rfl) (by kernel_rfl) (fun _ _ _ h => h) (Or.inl ⟨by rfl, ?hy166⟩) hHeld ?rest166
    case hy166 =>
      intro wS hS
      go_simp
      all_goals with_reducible rfl
    (try simp only [Act.put, List.setIfInBounds_toArray, List.set_cons_zero, List.set_cons_succ])
    refine wpAnyH_takeD (i := 7) (d := some 35) (v := ?v167) rfl rfl (by kernel_rfl) (by kernel_rfl) (by kernel_rfl) (fun _ _ _ h => h) (Or.inl ⟨by rfl, ?hy167⟩) hHeld ?rest167
    case hy167 =>
      intro wS hS
      have k12 := hS.1
      go_simp
      all_goals with_reducible rfl
    (try simp only [Act.put, List.setIfInBounds_toArray, List.set_cons_zero, List.set_cons_succ])
    refine wpAnyH_ready (rs := [8]) (by kernel_rfl) (by simp) (AllReadyH.cons rfl (fun K hK => ?_) AllReadyH.nil)
    rw [if_pos (by rfl)]
    go_simp
    refine (HN.out w3 hmc).mono ?_
    rintro e w4 ⟨rfl, hb4⟩
    have hm4 := (hb4.block m (Array.getElem?_eq_some_iff.1 hmc).1).trans hmc
    have hr4 := (hb4.block gx (Array.getElem?_eq_some_iff.1 hrx).1).trans hrx
    have hw4 := hwc.trans (hb4.mono hwc.size)
    have hS4 : w4.cell? ⟨m, 12, none⟩ = some (.int .i64 (s.at_ : Int)) := by rw [cell_of_row _ _ _ _ _ _ hm4]; rfl
    clear hb4 HN
    go_wp2_with fail
    refine hK.out _ _ ⟨hS4, hr4⟩ (fun hHeld => ?_)
    clear hK K
    (try simp only [Act.put, List.setIfInBounds_toArray, List.set_cons_zero, List.set_cons_succ])
    refine wpAnyH_takeD (i := 9) (d := some 7) (v := ?v168) rfl rfl (by kernel_rfl) (by kernel_rfl) (by kernel_rfl) (fun _ _ _ h => h) (Or.inl ⟨by rfl, ?hy168⟩) hHeld ?rest168
    case hy168 =>
      intro wS hS
      go_simp
      all_goals with_reducible rfl
    (try simp only [Act.put, List.setIfInBounds_toArray, List.set_cons_zero, List.set_cons_succ])
    refine wpAnyH_done (by kernel_rfl) ?_ _
    have HF := hid (show BlkPost w0 w1 m g i Ab cb b At nt ct s L (.returned (.int .i64 nE)) w4 from by unfold BlkPost; rw [HE.out]; exact ⟨rfl, hw4, fun h => absurd h hE1.out⟩)
    clear HE hm4 hr4 hw4 hwc hmc hrx hsx hbx hHeld hS4
    go_wp2_with fail
    go_ret
    exact HF.out
/-- what one block more makes of a reader -/
theorem Rdr.more {w0 w1 w w3 w11 : World} {m g : Nat} {i : InfoV} {Ab : Option Addr} {cb : Nat} {b : List UInt8} {At : Option Addr} {nt ct : Nat} {s : PS} {L : List BlkM} {Ap : Option Addr} {cp : Nat} {Ak : Option Addr} {ck : Nat} {r : Int × HeadV × List UInt8 × Int} {N : Nat} {A : Option Addr} {c : Nat}
    (hmlt : m < w.heap.size) (hbm : w0.heap.size ≤ m) (hp : w.ownsRow w1.heap.size 3 1 (.slice Ap s.pl.length cp) s.pl.length (s.pl.map intV)) (hk : w.ownsRow w1.heap.size 78 11 (.slice Ak L.length ck) L.length (flatM L))
    (hpay : Pays w m (.slice Ap s.pl.length cp) (.slice Ak L.length ck) L) (hbl : s.bl = L.map BlkM.plain) (hw : Below w0.heap.size w0 w) (hbut : But (fun n => n = m ∨ w1.heap.size ≤ n) w1 w) (hw1 : w0.heap.size ≤ w1.heap.size)
    (hb3 : Below w.heap.size w w3) (hs3 : SeesB w3 A r.2.2.1) (hc : r.2.2.1.length ≤ c) (hcm : c ≤ maxLen) (hf : ∀ a, A = some a → w.heap.size ≤ a.block) (hN : r.2.1.siz = (N : Nat))
    {Aq : Option Addr} {cq : Nat} {Ak2 : Option Addr} {ck2 : Nat} (hm : w11.heap[m]? = some (.cells (RdCells g i Aq (s.pl.length + 1) cq (s.cnt + r.2.1.len) (decide (r.2.1.len < i.bl)) Ab b.length cb (s.at_ + (36 + N)) i At nt ct Ak2 (L.length + 1) ck2 0 0 none 0 0) 56 (0, 0)))
    (hp11 : w11.ownsRow w1.heap.size 3 1 (.slice Aq (s.pl.length + 1) cq) (s.pl.length + 1) ((s.pl ++ [(s.at_ : Int)]).map intV)) (hk11 : w11.ownsRow w1.heap.size 78 11 (.slice Ak2 (L.length + 1) ck2) (L.length + 1) (flatM (L ++ [⟨r.2.1, A, c, r.2.2.1, r.2.2.2, s.at_⟩])))
    (hB : But (fun n => n = m ∨ (Value.slice Ap s.pl.length cp).ownBlock = some n ∨ (Value.slice Ak L.length ck).ownBlock = some n) w3 w11) (hmp : Moved w3 (.slice Ap s.pl.length cp) (.slice Aq (s.pl.length + 1) cq)) (hmk : Moved w3 (.slice Ak L.length ck) (.slice Ak2 (L.length + 1) ck2)) :
    Rdr w0 w1 w11 m g i Ab cb b At nt ct (s.next i r) (L ++ [⟨r.2.1, A, c, r.2.2.1, r.2.2.2, s.at_⟩]) := by
  have e1 : (s.next i r).pl.length = s.pl.length + 1 := by simp [PS.next]
  have e2 : (L ++ [(⟨r.2.1, A, c, r.2.2.1, r.2.2.2, s.at_⟩ : BlkM)]).length = L.length + 1 := by simp
  have e3 : (s.next i r).at_ = s.at_ + (36 + N) := by unfold PS.next; rw [hN]; rfl
  have hR3 : ∀ n, (n = m ∨ (Value.slice Ap s.pl.length cp).ownBlock = some n ∨ (Value.slice Ak L.length ck).ownBlock = some n) → n < w.heap.size := by
    intro n hn
    rcases hn with rfl | h | h
    · exact hmlt
    · exact own_lt hp h
    · exact own_lt hk h
  have hR4 : ∀ n, (n = m ∨ (Value.slice Ap s.pl.length cp).ownBlock = some n ∨ (Value.slice Ak L.length ck).ownBlock = some n) → n = m ∨ w1.heap.size ≤ n := by
    intro n hn
    rcases hn with rfl | h | h
    · exact .inl rfl
    · exact .inr (own_base hp h)
    · exact .inr (own_base hk h)
  refine ⟨Aq, cq, Ak2, ck2, ?_, ?_, ?_, ?_, ?_, ?_, ?_⟩
  · rw [e1, e2, e3]; exact hm
  · rw [e1]; exact hp11
  · rw [e2]; exact hk11
  · rw [e1, e2]
    intro x hx
    rcases List.mem_append.1 hx with hx | hx
    · exact (hpay.below hb3).but hB (fun n hn => by rcases hn with h | h | h <;> simp [h]) hmp hmk x hx
    · rw [List.mem_singleton.1 hx]
      refine ⟨hs3.but hB (fun hl a ha hr => ?_), hc, hcm, fun hl a ha => ?_⟩
      · have := hR3 _ hr
        have := hf a ha
        omega
      · have q1 := hf a ha
        have q2 := hs3.lt hl ha
        refine ⟨by omega, ?_, ?_⟩
        · intro h5
          rcases hmp with h6 | ⟨k, h6, h7⟩
          · rw [h6] at h5
            have := hR3 _ (.inr (.inl h5))
            omega
          · rw [h6] at h5
            injection h5 with h5
            omega
        · intro h5
          rcases hmk with h6 | ⟨k, h6, h7⟩
          · rw [h6] at h5
            have := hR3 _ (.inr (.inr h5))
            omega
          · rw [h6] at h5
            injection h5 with h5
            omega
  · unfold PS.next
    simp only [hbl, List.map_append, List.map_cons, List.map_nil, BlkM.plain]
  · exact But.below (hw.trans (hb3.mono hw.size)) hB (fun n hn => by rcases hR4 n hn with h | h <;> omega) (hw.trans (hb3.mono hw.size)).size
  · exact (hbut.trans (But.of_below (R := fun _ => False) hb3) (fun n h => h.elim)).trans hB (fun n hn => .inl (hR4 n hn))
set_option maxRecDepth 20000 in
set_option maxHeartbeats 8000000 in
theorem block_ok (m g : Nat) (i : InfoV) (Ab : Option Addr) (cb : Nat) (b : List UInt8) (At : Option Addr) (nt ct : Nat) (s : PS) (L : List BlkM) (w0 w1 w : World) (hR : Rdr w0 w1 w m g i Ab cb b At nt ct s L) (hs : s.ok b) (hB : Base w0 g Ab cb b) (hbm : w0.heap.size ≤ m) (hbi : 8 ≤ i.bi ∧ i.bi ≤ 24) (hw1 : w0.heap.size ≤ w1.heap.size) (hpos : s.at_ < b.length) (he : (openH (b.drop s.at_)).1 = 0) (hne : nextE i (openH (b.drop s.at_)).2.1 s.pl.length s.short = 0) :
    Calls Tryz.prog 14 #[.pointer (some ⟨m, 0, none⟩)] w (BlkPost w0 w1 m g i Ab cb b At nt ct s L) := by
  obtain ⟨Ap, cp, Ak, ck, hm, hp, hk, hpay, hbl, hw, hbut⟩ := hR
  have hat := hs.at_
  have HRS := hid (fun W (hW : W.heap[m]? = some (.cells (RdCells g i Ap s.pl.length cp s.cnt s.short Ab b.length cb s.at_ i At nt ct Ak L.length ck 0 0 none 0 0) 56 (0, 0))) (hb : Below w0.heap.size w0 W) => rest_any m _ 56 Ab cb s.at_ b W hW rfl rfl (hB.sees.below hb) hB.cap.1 hB.cap.2 hat)
  have hdl : (b.drop s.at_).length = b.length - s.at_ := List.length_drop
  have hlen := hB.len
  have HOP := hid (fun A c W (hb : Below w0.heap.size w0 W) hs h1 h2 => hopenF_any g A c (b.drop s.at_) W hs h1 h2 (by rw [hdl]; omega) (hB.tab.keep hb hB.tab.lt))
  have hmlt : m < w.heap.size := (Array.getElem?_eq_some_iff.1 hm).1
  have hsok := hs.next (i := i) (show blkE i b s = 0 by unfold blkE; rw [if_neg (by omega), if_neg (by rw [he]; simp)]; exact hne)
  obtain ⟨hzs, hzr, hz0⟩ := openH_fine he
  have hzl := openH_len he
  have hpl36 := hs.at36
  have hcn := hs.cnt
  have hnm := hs.num
  have hpos : s.at_ < b.length := by omega
  have d0 : ((b.drop s.at_).length == 0) = false := by rw [hdl]; simp; omega
  have d0' : (((b.drop s.at_).length : Int) == 0) = false := by rw [hdl]; simp; omega
  have d0'' : decide (((b.drop s.at_).length : Int) = 0) = false := by rw [hdl]; simp; omega
  obtain ⟨⟨E, h, P, S⟩, hr⟩ : ∃ r, openH (b.drop s.at_) = r := ⟨_, rfl⟩
  rw [hr] at HOP he
  simp only at he
  unfold OpenPostF at HOP
  simp only at HOP
  rw [hr] at hne hsok hzs hzr hz0 hzl
  simp only at hne hzs hzr hz0 hzl
  subst he
  have HE := hid (show blkE i b s = 0 by unfold blkE; rw [if_neg (by omega), hr, if_neg (by simp)]; exact hne)
  have hLl : L.length = s.pl.length := by rw [hnm, hbl, List.length_map]
  have HLL := hid (show L.length + 1 ≤ 100001 by omega)
  obtain ⟨N, hN⟩ := Int.eq_ofNat_of_zero_le hz0
  rw [hdl] at hzs
  have HN := hid (fun W (hW : W.heap[m]? = some (.cells (RdCells g i Ap s.pl.length cp s.cnt s.short Ab b.length cb s.at_ i At nt ct Ak L.length ck 0 0 none 0 0) 56 (0, 0))) hown hbase => mnext_ok m _ 56 i h (s.at_ : Int) s.pl.length cp Ap s.short W hbi hW rfl rfl rfl rfl rfl rfl rfl rfl s.cnt rfl w1.heap.size s.pl rfl hown hbase (by decide) (by omega) (by omega) (by omega) hne)
  have HLG0 := fun W => hlong_any h.k h.idx h.len h.stp h.bnd h.lst h.lnk h.siz W
  unfold longH at HLG0
  rw [if_pos hzr] at HLG0
  have HLG := hid HLG0
  have hwrq : IntKind.i64.wrap ((s.at_ : Int) + (36 + (N : Int))) = (s.at_ : Int) + (36 + (N : Int)) := by rw [IntWalk.i64_left]; unfold wrap64; omega
  have hwrp : wrap64 ((s.at_ : Int) + (36 + (N : Int))) = (s.at_ : Int) + (36 + (N : Int)) := by unfold wrap64; omega
  have HFIN0 : ∀ (A : Option Addr) (c : Nat) (w3 : World), Below w.heap.size w w3 → SeesB w3 A P → P.length ≤ c → c ≤ maxLen → (∀ a, A = some a → w.heap.size ≤ a.block) → ∀ (Aq : Option Addr) (cq : Nat) (Ak2 : Option Addr) (ck2 : Nat) (w11 : World),
      w11.heap[m]? = some (.cells (RdCells g i Aq (s.pl.length + 1) cq (s.cnt + h.len) (decide (h.len < i.bl)) Ab b.length cb (s.at_ + (36 + N)) i At nt ct Ak2 (L.length + 1) ck2 0 0 none 0 0) 56 (0, 0)) →
      w11.ownsRow w1.heap.size 3 1 (.slice Aq (s.pl.length + 1) cq) (s.pl.length + 1) ((s.pl ++ [(s.at_ : Int)]).map intV) → w11.ownsRow w1.heap.size 78 11 (.slice Ak2 (L.length + 1) ck2) (L.length + 1) (flatM (L ++ [⟨h, A, c, P, S, s.at_⟩])) →
      But (fun n => n = m ∨ (Value.slice Ap s.pl.length cp).ownBlock = some n ∨ (Value.slice Ak L.length ck).ownBlock = some n) w3 w11 → Moved w3 (.slice Ap s.pl.length cp) (.slice Aq (s.pl.length + 1) cq) → Moved w3 (.slice Ak L.length ck) (.slice Ak2 (L.length + 1) ck2) → BlkPost w0 w1 m g i Ab cb b At nt ct s L (.returned (.int .i64 0)) w11 := by
    intro A c w3 hb3 hs3 hc hcm hf Aq cq Ak2 ck2 w11 h1 h2 h3 h4 h5 h6
    have hmore := Rdr.more (r := (0, h, P, S)) (w11 := w11) (g := g) (i := i) (Ab := Ab) (cb := cb) (b := b) (At := At) (nt := nt) (ct := ct) hmlt hbm hp hk hpay hbl hw hbut hw1 hb3 hs3 hc hcm hf hN h1 h2 h3 h4 h5 h6
    unfold BlkPost
    rw [HE.out, hr]
    exact ⟨rfl, hmore.choose_spec.choose_spec.choose_spec.choose_spec.2.2.2.2.2.1, fun _ => ⟨_, hmore⟩⟩
  have HFIN := hid HFIN0
  clear HFIN0
  have HB1 := hid hbut.size
  have HW := hid hw
  have HP := hid hp
  have HK := hid hk
  obtain ⟨zk, zidx, zlen, zstp, zbnd, zlst, zlnk, zsiz⟩ := h
  unfold HeadV.cells at HOP
  unfold HeadV.v MNext at HN
  (try simp only at HOP)
  (try simp only at HN)
  (try simp only at HLG)
  (try simp only at HFIN)
  simp only at hN
  subst hN
  have HAT := hid (show True from trivial)
  generalize b.drop s.at_ = bd at *
  clear hs hB hdl hp hk hpay hbl hbut hat hlen hpos hr hne hsok hzs hzr hz0 hzl hpl36 hcn hnm hLl HLG0 HE HAT
  go_enter Tryz.func14, Tryz.ntmps14
  go_wp2_with fail
  refine (HRS.out w hm hw).mono ?_
  rintro e w2 ⟨A2, c2, rfl, hs2, hc2, hcm2, hb2⟩
  go_upto_region 3 with fail
  go_cut [3, 4, 5, 6] (fun x y z q wx => ∃ gx A c, x = .pointer (some ⟨gx, 0, none⟩) ∧ y = .slice A P.length c ∧ z = .int .u32 S ∧ q = .int .i64 0 ∧ wx.heap[gx]? = some (.cells #[.int .i64 zk, .int .i64 zidx, .int .i64 zlen, .int .i64 zstp, .int .i64 zbnd, .bool zlst, .int .u32 zlnk, .int .i64 (N : Nat)] 67 (0, 0)) ∧ w.heap.size ≤ gx ∧ SeesB wx A P ∧ P.length ≤ c ∧ c ≤ maxLen ∧ (∀ a, A = some a → w.heap.size ≤ a.block) ∧ Below w.heap.size w wx)
  case first =>
    have hm2 := (hb2.block m (Array.getElem?_eq_some_iff.1 hm).1).trans hm
    refine wp_region_held_drew (S := fun W => W.heap[m]? = some (.cells (RdCells g i Ap s.pl.length cp s.cnt s.short Ab b.length cb s.at_ i At nt ct Ak L.length ck 0 0 none 0 0) 56 (0, 0))) (by kernel_rfl) hm2 (fun hHeld => ?_)
    have hb0 : Below w.heap.size w w2.drew := hb2.drew
    replace hm2 : w2.drew.heap[m]? = _ := hm2
    have hmlt : m < w.heap.size := (Array.getElem?_eq_some_iff.1 hm).1
    clear hs2 hm hb2
    generalize w2.drew = wd at *
    refine wpAnyH_takeD (i := 0) (d := some 13) (v := ?v169) rfl rfl (by kernel_rfl) (by kernel_rfl) (by kernel_rfl) (fun _ _ _ h => h) (Or.inl ⟨by rfl, ?hy169⟩) hHeld ?rest169
    case hy169 =>
      intro wS hS
      go_simp
      all_goals with_reducible rfl
    (try simp only [Act.put, List.setIfInBounds_toArray, List.set_cons_zero, List.set_cons_succ])
    refine wpAnyH_takeD (i := 1) (d := some 14) (v := ?v170) rfl rfl (by kernel_rfl) (by kernel_rfl) (by kernel_rfl) (fun _ _ _ h => h) (Or.inl ⟨by rfl, ?hy170⟩) hHeld ?rest170
    case hy170 =>
      intro wS hS
      go_simp
      all_goals with_reducible rfl
    (try simp only [Act.put, List.setIfInBounds_toArray, List.set_cons_zero, List.set_cons_succ])
    refine wpAnyH_takeD (i := 2) (d := some 15) (v := ?v171) rfl rfl (by kernel_rfl) (by kernel_rfl) (by kernel_rfl) (fun _ _ _ h => h) (Or.inl ⟨by rfl, ?hy171⟩) hHeld ?rest171
    case hy171 =>
      intro wS hS
      go_simp
      all_goals with_reducible rfl
    (try simp only [Act.put, List.setIfInBounds_toArray, List.set_cons_zero, List.set_cons_succ])
    refine wpAnyH_takeD (i := 3) (d := some 16) (v := ?v172) rfl rfl (by kernel_rfl) (by kernel_rfl) (by kernel_rfl) (fun _ _ _ h => h) (Or.inl ⟨by rfl, ?hy172⟩) hHeld ?rest172
    case hy172 =>
      intro wS hS
      go_simp
      all_goals with_reducible rfl
    (try simp only [Act.put, List.setIfInBounds_toArray, List.set_cons_zero, List.set_cons_succ])
    refine wpAnyH_takeD (i := 4) (d := some 17) (v := ?v173) rfl rfl (by kernel_rfl) (by kernel_rfl) (by kernel_rfl) (fun _ _ _ h => h) (Or.inl ⟨by rfl, ?hy173⟩) hHeld ?rest173
    case hy173 =>
      intro wS hS
      have k0 : wS.cell? ⟨m, 0, none⟩ = some (.pointer (some ⟨g, 0, none⟩)) := by rw [cell_of_row _ _ _ _ _ _ hS]; rfl
      go_simp
      all_goals with_reducible rfl
    (try simp only [Act.put, List.setIfInBounds_toArray, List.set_cons_zero, List.set_cons_succ])
    refine wpAnyH_takeD (i := 5) (d := some 18) (v := ?v174) rfl rfl (by kernel_rfl) (by kernel_rfl) (by kernel_rfl) (fun _ _ _ h => h) (Or.inl ⟨by rfl, ?hy174⟩) hHeld ?rest174
    case hy174 =>
      intro wS hS
      go_simp
      all_goals with_reducible rfl
    (try simp only [Act.put, List.setIfInBounds_toArray, List.set_cons_zero, List.set_cons_succ])
    refine wpAnyH_ready (rs := [6, 13]) (by kernel_rfl) (by simp) (AllReadyH.cons rfl (fun K hK => ?_) (AllReadyH.cons rfl (fun K hK => ?_) AllReadyH.nil))
    · rw [if_pos (by rfl)]
      go_simp
      refine (HRS.out wd hm2 (hw.trans (hb0.mono hw.size))).mono ?_
      rintro e x1c ⟨Ar, cr, rfl, hsr, hlr, hcr, hbc⟩
      have hmx1c := (hbc.block m (Nat.lt_of_lt_of_le hmlt hb0.size)).trans hm2
      have hbx1c := hb0.trans (hbc.mono hb0.size)
      clear hbc
      go_wp2_with fail
      refine hK.out _ _ hmx1c (fun hHeld => ?_)
      clear hK K
      (try simp only [Act.put, List.setIfInBounds_toArray, List.set_cons_zero, List.set_cons_succ])
      refine wpAnyH_ready (rs := [7, 13]) (by kernel_rfl) (by simp) (AllReadyH.cons rfl (fun K hK => ?_) (AllReadyH.cons rfl (fun K hK => ?_) AllReadyH.nil))
      · rw [if_pos (by rfl)]
        go_simp
        refine (HOP.out Ar cr x1c (hw.trans (hbx1c.mono hw.size)) hsr hlr hcr).mono ?_
        rintro e x2c ⟨A, c, rfl, hsa, hca, hcma, hbc, hfa⟩
        have hmx2c := (hbc.block m (Nat.lt_of_lt_of_le hmlt hbx1c.size)).trans hmx1c
        have hbx2c := hbx1c.trans (hbc.mono hbx1c.size)
        replace hfa : ∀ a, A = some a → w.heap.size ≤ a.block := fun a ha => Nat.le_trans hbx1c.size (hfa a ha)
        clear hbc
        go_wp2_with fail
        refine hK.out _ _ hmx2c (fun hHeld => ?_)
        clear hK K
        (try simp only [Act.put, List.setIfInBounds_toArray, List.set_cons_zero, List.set_cons_succ])
        refine wpAnyH_takeD (i := 8) (d := some 12) (v := ?v175) rfl rfl (by kernel_rfl) (by kernel_rfl) (by kernel_rfl) (fun _ _ _ h => h) (Or.inl ⟨by rfl, ?hy175⟩) hHeld ?rest175
        case hy175 =>
          intro wS hS
          go_simp
          all_goals with_reducible rfl
        (try simp only [Act.put, List.setIfInBounds_toArray, List.set_cons_zero, List.set_cons_succ])
        refine wpAnyH_takeD (i := 9) (d := some 21) (v := ?v176) rfl rfl (by kernel_rfl) (by kernel_rfl) (by kernel_rfl) (fun _ _ _ h => h) (Or.inl ⟨by rfl, ?hy176⟩) hHeld ?rest176
        case hy176 =>
          intro wS hS
          go_simp
          all_goals with_reducible rfl
        (try simp only [Act.put, List.setIfInBounds_toArray, List.set_cons_zero, List.set_cons_succ])
        refine wpAnyH_takeD (i := 10) (d := some 22) (v := ?v177) rfl rfl (by kernel_rfl) (by kernel_rfl) (by kernel_rfl) (fun _ _ _ h => h) (Or.inl ⟨by rfl, ?hy177⟩) hHeld ?rest177
        case hy177 =>
          intro wS hS
          go_simp
          all_goals with_reducible rfl
        (try simp only [Act.put, List.setIfInBounds_toArray, List.set_cons_zero, List.set_cons_succ])
        refine wpAnyH_takeD (i := 11) (d := some 23) (v := ?v178) rfl rfl (by kernel_rfl) (by kernel_rfl) (by kernel_rfl) (fun _ _ _ h => h) (Or.inl ⟨by rfl, ?hy178⟩) hHeld ?rest178
        case hy178 =>
          intro wS hS
          go_simp
          all_goals with_reducible rfl
        (try simp only [Act.put, List.setIfInBounds_toArray, List.set_cons_zero, List.set_cons_succ])
        refine wpAnyH_takeD (i := 12) (d := some 24) (v := ?v179) rfl rfl (by kernel_rfl) (by kernel_rfl) (by kernel_rfl) (fun _ _ _ h => h) (Or.inl ⟨by rfl, ?hy179⟩) hHeld ?rest179
        case hy179 =>
          intro wS hS
          go_simp
          all_goals with_reducible rfl
        (try simp only [Act.put, List.setIfInBounds_toArray, List.set_cons_zero, List.set_cons_succ])
        refine wpAnyH_ready (rs := [13]) (by kernel_rfl) (by simp) (AllReadyH.cons rfl (fun K hK => ?_) AllReadyH.nil)
        rw [if_pos (by rfl)]
        have hba : Below x2c.heap.size x2c (x2c.alloc (.cells #[.int .i64 0, .int .i64 0, .int .i64 0, .int .i64 0, .int .i64 0, .bool false, .int .u32 0, .int .i64 0] 67)) := (Below.refl _ _).alloc (Nat.le_refl _) _
        have hra := heap_alloc_new x2c (.cells #[.int .i64 0, .int .i64 0, .int .i64 0, .int .i64 0, .int .i64 0, .bool false, .int .u32 0, .int .i64 0] 67)
        have hbx3a := hbx2c.trans (hba.mono hbx2c.size)
        have hmx3a := (hba.block m (Nat.lt_of_lt_of_le hmlt hbx2c.size)).trans hmx2c
        have hga := hbx2c.size
        replace hsa := hsa.below hba
        clear hba
        go_simp
        generalize x2c.heap.size = gx at *
        generalize x2c.alloc (.cells #[.int .i64 0, .int .i64 0, .int .i64 0, .int .i64 0, .int .i64 0, .bool false, .int .u32 0, .int .i64 0] 67) = x3a at *
        refine hK.out _ _ hmx3a (fun hHeld => ?_)
        clear hK K
        (try simp only [Act.put, List.setIfInBounds_toArray, List.set_cons_zero, List.set_cons_succ])
        refine wpAnyH_ready (rs := [14]) (by kernel_rfl) (by simp) (AllReadyH.cons rfl (fun K hK => ?_) AllReadyH.nil)
        rw [if_pos (by rfl)]
        refine wp_store_row 67 (.tmp 3) (.tmp 21) rfl rfl gx rfl #[.int .i64 zk, .int .i64 zidx, .int .i64 zlen, .int .i64 zstp, .int .i64 zbnd, .bool zlst, .int .u32 zlnk, .int .i64 (N : Nat)] rfl 67 #[.int .i64 0, .int .i64 0, .int .i64 0, .int .i64 0, .int .i64 0, .bool false, .int .u32 0, .int .i64 0] hra (by kernel_rfl) rfl (by simp [Value.oneCell']) ?_
        have hrS := setRow_heap _ gx _ #[.int .i64 zk, .int .i64 zidx, .int .i64 zlen, .int .i64 zstp, .int .i64 zbnd, .bool zlst, .int .u32 zlnk, .int .i64 (N : Nat)] _ _ hra
        have hmS := (setRow_other x3a gx m #[.int .i64 zk, .int .i64 zidx, .int .i64 zlen, .int .i64 zstp, .int .i64 zbnd, .bool zlst, .int .u32 zlnk, .int .i64 (N : Nat)] (by omega)).trans hmx3a
        have hbS := below_setRow hbx3a hga #[.int .i64 zk, .int .i64 zidx, .int .i64 zlen, .int .i64 zstp, .int .i64 zbnd, .bool zlst, .int .u32 zlnk, .int .i64 (N : Nat)]
        have hsS := hsa.butZero hra #[.int .i64 zk, .int .i64 zidx, .int .i64 zlen, .int .i64 zstp, .int .i64 zbnd, .bool zlst, .int .u32 zlnk, .int .i64 (N : Nat)]
        refine hK.out _ _ hmS (fun hHeld => ?_)
        clear hK K
        (try simp only [Act.put, List.setIfInBounds_toArray, List.set_cons_zero, List.set_cons_succ])
        refine wpAnyH_takeD (i := 15) (d := some 4) (v := ?v180) rfl rfl (by kernel_rfl) (by kernel_rfl) (by kernel_rfl) (fun _ _ _ h => h) (Or.inl ⟨by rfl, ?hy180⟩) hHeld ?rest180
        case hy180 =>
          intro wS hS
          go_simp
          all_goals with_reducible rfl
        (try simp only [Act.put, List.setIfInBounds_toArray, List.set_cons_zero, List.set_cons_succ])
        refine wpAnyH_takeD (i := 16) (d := some 5) (v := ?v181) rfl rfl (by kernel_rfl) (by kernel_rfl) (by kernel_rfl) (fun _ _ _ h => h) (Or.inl ⟨by rfl, ?hy181⟩) hHeld ?rest181
        case hy181 =>
          intro wS hS
          go_simp
          all_goals with_reducible rfl
        (try simp only [Act.put, List.setIfInBounds_toArray, List.set_cons_zero, List.set_cons_succ])
        refine wpAnyH_takeD (i := 17) (d := some 6) (v := ?v182) rfl rfl (by kernel_rfl) (by kernel_rfl) (by kernel_rfl) (fun _ _ _ h => h) (Or.inl ⟨by rfl, ?hy182⟩) hHeld ?rest182
        case hy182 =>
          intro wS hS
          go_simp
          all_goals with_reducible rfl
        (try simp only [Act.put, List.setIfInBounds_toArray, List.set_cons_zero, List.set_cons_succ])
        refine wpAnyH_done (by kernel_rfl) ?_ _
        go_wp2_with fail
        go_meet
        exact ⟨gx, A, c, rfl, rfl, rfl, rfl, hrS, hga, hsS, hca, hcma, hfa, hbS⟩
      · rw [if_pos (by rfl)]
        have hba : Below x1c.heap.size x1c (x1c.alloc (.cells #[.int .i64 0, .int .i64 0, .int .i64 0, .int .i64 0, .int .i64 0, .bool false, .int .u32 0, .int .i64 0] 67)) := (Below.refl _ _).alloc (Nat.le_refl _) _
        have hra := heap_alloc_new x1c (.cells #[.int .i64 0, .int .i64 0, .int .i64 0, .int .i64 0, .int .i64 0, .bool false, .int .u32 0, .int .i64 0] 67)
        have hbx2a := hbx1c.trans (hba.mono hbx1c.size)
        have hmx2a := (hba.block m (Nat.lt_of_lt_of_le hmlt hbx1c.size)).trans hmx1c
        have hga := hbx1c.size
        replace hsr := hsr.below hba
        clear hba
        go_simp
        generalize x1c.heap.size = gx at *
        generalize x1c.alloc (.cells #[.int .i64 0, .int .i64 0, .int .i64 0, .int .i64 0, .int .i64 0, .bool false, .int .u32 0, .int .i64 0] 67) = x2a at *
        refine hK.out _ _ hmx2a (fun hHeld => ?_)
        clear hK K
        (try simp only [Act.put, List.setIfInBounds_toArray, List.set_cons_zero, List.set_cons_succ])
        refine wpAnyH_ready (rs := [7]) (by kernel_rfl) (by simp) (AllReadyH.cons rfl (fun K hK => ?_) AllReadyH.nil)
        rw [if_pos (by rfl)]
        go_simp
        refine (HOP.out Ar cr x2a (hw.trans (hbx2a.mono hw.size)) hsr hlr hcr).mono ?_
        rintro e x5c ⟨A, c, rfl, hsa, hca, hcma, hbc, hfa⟩
        have hmx5c := (hbc.block m (Nat.lt_of_lt_of_le hmlt hbx2a.size)).trans hmx2a
        have hbx5c := hbx2a.trans (hbc.mono hbx2a.size)
        have hrx5c := (hbc.block gx (Array.getElem?_eq_some_iff.1 hra).1).trans hra
        replace hfa : ∀ a, A = some a → w.heap.size ≤ a.block := fun a ha => Nat.le_trans hbx2a.size (hfa a ha)
        clear hbc
        go_wp2_with fail
        refine hK.out _ _ hmx5c (fun hHeld => ?_)
        clear hK K
        (try simp only [Act.put, List.setIfInBounds_toArray, List.set_cons_zero, List.set_cons_succ])
        refine wpAnyH_takeD (i := 8) (d := some 12) (v := ?v183) rfl rfl (by kernel_rfl) (by kernel_rfl) (by kernel_rfl) (fun _ _ _ h => h) (Or.inl ⟨by rfl, ?hy183⟩) hHeld ?rest183
        case hy183 =>
          intro wS hS
          go_simp
          all_goals with_reducible rfl
        (try simp only [Act.put, List.setIfInBounds_toArray, List.set_cons_zero, List.set_cons_succ])
        refine wpAnyH_takeD (i := 9) (d := some 21) (v := ?v184) rfl rfl (by kernel_rfl) (by kernel_rfl) (by kernel_rfl) (fun _ _ _ h => h) (Or.inl ⟨by rfl, ?hy184⟩) hHeld ?rest184
        case hy184 =>
          intro wS hS
          go_simp
          all_goals with_reducible rfl
        (try simp only [Act.put, List.setIfInBounds_toArray, List.set_cons_zero, List.set_cons_succ])
        refine wpAnyH_takeD (i := 10) (d := some 22) (v := ?v185) rfl rfl (by kernel_rfl) (by kernel_rfl) (by kernel_rfl) (fun _ _ _ h => h) (Or.inl ⟨by rfl, ?hy185⟩) hHeld ?rest185
        case hy185 =>
          intro wS hS
          go_simp
          all_goals with_reducible rfl
        (try simp only [Act.put, List.setIfInBounds_toArray, List.set_cons_zero, List.set_cons_succ])
        refine wpAnyH_takeD (i := 11) (d := some 23) (v := ?v186) rfl rfl (by kernel_rfl) (by kernel_rfl) (by kernel_rfl) (fun _ _ _ h => h) (Or.inl ⟨by rfl, ?hy186⟩) hHeld ?rest186
        case hy186 =>
          intro wS hS
          go_simp
          all_goals with_reducible rfl
        (try simp only [Act.put, List.setIfInBounds_toArray, List.set_cons_zero, List.set_cons_succ])
        refine wpAnyH_takeD (i := 12) (d := some 24) (v := ?v187) rfl rfl (by kernel_rfl) (by kernel_rfl) (by kernel_rfl) (fun _ _ _ h => h) (Or.inl ⟨by rfl, ?hy187⟩) hHeld ?rest187
        case hy187 =>
          intro wS hS
          go_simp
          all_goals with_reducible rfl
        (try simp only [Act.put, List.setIfInBounds_toArray, List.set_cons_zero, List.set_cons_succ])
        refine wpAnyH_ready (rs := [14]) (by kernel_rfl) (by simp) (AllReadyH.cons rfl (fun K hK => ?_) AllReadyH.nil)
        rw [if_pos (by rfl)]
        refine wp_store_row 67 (.tmp 3) (.tmp 21) rfl rfl gx rfl #[.int .i64 zk, .int .i64 zidx, .int .i64 zlen, .int .i64 zstp, .int .i64 zbnd, .bool zlst, .int .u32 zlnk, .int .i64 (N : Nat)] rfl 67 #[.int .i64 0, .int .i64 0, .int .i64 0, .int .i64 0, .int .i64 0, .bool false, .int .u32 0, .int .i64 0] hrx5c (by kernel_rfl) rfl (by simp [Value.oneCell']) ?_
        have hrS := setRow_heap _ gx _ #[.int .i64 zk, .int .i64 zidx, .int .i64 zlen, .int .i64 zstp, .int .i64 zbnd, .bool zlst, .int .u32 zlnk, .int .i64 (N : Nat)] _ _ hrx5c
        have hmS := (setRow_other x5c gx m #[.int .i64 zk, .int .i64 zidx, .int .i64 zlen, .int .i64 zstp, .int .i64 zbnd, .bool zlst, .int .u32 zlnk, .int .i64 (N : Nat)] (by omega)).trans hmx5c
        have hbS := below_setRow hbx5c hga #[.int .i64 zk, .int .i64 zidx, .int .i64 zlen, .int .i64 zstp, .int .i64 zbnd, .bool zlst, .int .u32 zlnk, .int .i64 (N : Nat)]
        have hsS := hsa.butZero hrx5c #[.int .i64 zk, .int .i64 zidx, .int .i64 zlen, .int .i64 zstp, .int .i64 zbnd, .bool zlst, .int .u32 zlnk, .int .i64 (N : Nat)]
        refine hK.out _ _ hmS (fun hHeld => ?_)
        clear hK K
        (try simp only [Act.put, List.setIfInBounds_toArray, List.set_cons_zero, List.set_cons_succ])
        refine wpAnyH_takeD (i := 15) (d := some 4) (v := ?v188) rfl rfl (by kernel_rfl) (by kernel_rfl) (by kernel_rfl) (fun _ _ _ h => h) (Or.inl ⟨by rfl, ?hy188⟩) hHeld ?rest188
        case hy188 =>
          intro wS hS
          go_simp
          all_goals with_reducible rfl
        (try simp only [Act.put, List.setIfInBounds_toArray, List.set_cons_zero, List.set_cons_succ])
        refine wpAnyH_takeD (i := 16) (d := some 5) (v := ?v189) rfl rfl (by kernel_rfl) (by kernel_rfl) (by kernel_rfl) (fun _ _ _ h => h) (Or.inl ⟨by rfl, ?hy189⟩) hHeld ?rest189
        case hy189 =>
          intro wS hS
          go_simp
          all_goals with_reducible rfl
        (try simp only [Act.put, List.setIfInBounds_toArray, List.set_cons_zero, List.set_cons_succ])
        refine wpAnyH_takeD (i := 17) (d := some 6) (v := ?v190) rfl rfl (by kernel_rfl) (by kernel_rfl) (by kernel_rfl) (fun _ _ _ h => h) (Or.inl ⟨by rfl, ?hy190⟩) hHeld ?rest190
        case hy190 =>
          intro wS hS
          go_simp
          all_goals with_reducible rfl
        (try simp only [Act.put, List.setIfInBounds_toArray, List.set_cons_zero, List.set_cons_succ])
        refine wpAnyH_done (by kernel_rfl) ?_ _
        go_wp2_with fail
        go_meet
        exact ⟨gx, A, c, rfl, rfl, rfl, rfl, hrS, hga, hsS, hca, hcma, hfa, hbS⟩
    · rw [if_pos (by rfl)]
      have hba : Below wd.heap.size wd (wd.alloc (.cells #[.int .i64 0, .int .i64 0, .int .i64 0, .int .i64 0, .int .i64 0, .bool false, .int .u32 0, .int .i64 0] 67)) := (Below.refl _ _).alloc (Nat.le_refl _) _
      have hra := heap_alloc_new wd (.cells #[.int .i64 0, .int .i64 0, .int .i64 0, .int .i64 0, .int .i64 0, .bool false, .int .u32 0, .int .i64 0] 67)
      have hbx1a := hb0.trans (hba.mono hb0.size)
      have hmx1a := (hba.block m (Nat.lt_of_lt_of_le hmlt hb0.size)).trans hm2
      have hga := hb0.size
      clear hba
      go_simp
      generalize wd.heap.size = gx at *
      generalize wd.alloc (.cells #[.int .i64 0, .int .i64 0, .int .i64 0, .int .i64 0, .int .i64 0, .bool false, .int .u32 0, .int .i64 0] 67) = x1a at *
      refine hK.out _ _ hmx1a (fun hHeld => ?_)
      clear hK K
      (try simp only [Act.put, List.setIfInBounds_toArray, List.set_cons_zero, List.set_cons_succ])
      refine wpAnyH_ready (rs := [6]) (by kernel_rfl) (by simp) (AllReadyH.cons rfl (fun K hK => ?_) AllReadyH.nil)
      rw [if_pos (by rfl)]
      go_simp
      refine (HRS.out x1a hmx1a (hw.trans (hbx1a.mono hw.size))).mono ?_
      rintro e x7c ⟨Ar, cr, rfl, hsr, hlr, hcr, hbc⟩
      have hmx7c := (hbc.block m (Nat.lt_of_lt_of_le hmlt hbx1a.size)).trans hmx1a
      have hbx7c := hbx1a.trans (hbc.mono hbx1a.size)
      have hrx7c := (hbc.block gx (Array.getElem?_eq_some_iff.1 hra).1).trans hra
      clear hbc
      go_wp2_with fail
      refine hK.out _ _ hmx7c (fun hHeld => ?_)
      clear hK K
      (try simp only [Act.put, List.setIfInBounds_toArray, List.set_cons_zero, List.set_cons_succ])
      refine wpAnyH_ready (rs := [7]) (by kernel_rfl) (by simp) (AllReadyH.cons rfl (fun K hK => ?_) AllReadyH.nil)
      rw [if_pos (by rfl)]
      go_simp
      refine (HOP.out Ar cr x7c (hw.trans (hbx7c.mono hw.size)) hsr hlr hcr).mono ?_
      rintro e x8c ⟨A, c, rfl, hsa, hca, hcma, hbc, hfa⟩
      have hmx8c := (hbc.block m (Nat.lt_of_lt_of_le hmlt hbx7c.size)).trans hmx7c
      have hbx8c := hbx7c.trans (hbc.mono hbx7c.size)
      have hrx8c := (hbc.block gx (Array.getElem?_eq_some_iff.1 hrx7c).1).trans hrx7c
      replace hfa : ∀ a, A = some a → w.heap.size ≤ a.block := fun a ha => Nat.le_trans hbx7c.size (hfa a ha)
      clear hbc
      go_wp2_with fail
      refine hK.out _ _ hmx8c (fun hHeld => ?_)
      clear hK K
      (try simp only [Act.put, List.setIfInBounds_toArray, List.set_cons_zero, List.set_cons_succ])
      refine wpAnyH_takeD (i := 8) (d := some 12) (v := ?v191) rfl rfl (by kernel_rfl) (by kernel_rfl) (by kernel_rfl) (fun _ _ _ h => h) (Or.inl ⟨by rfl, ?hy191⟩) hHeld ?rest191
      case hy191 =>
        intro wS hS
        go_simp
        all_goals with_reducible rfl
      (try simp only [Act.put, List.setIfInBounds_toArray, List.set_cons_zero, List.set_cons_succ])
      refine wpAnyH_takeD (i := 9) (d := some 21) (v := ?v192) rfl rfl (by kernel_rfl) (by kernel_rfl) (by kernel_rfl) (fun _ _ _ h => h) (Or.inl ⟨by rfl, ?hy192⟩) hHeld ?rest192
      case hy192 =>
        intro wS hS
        go_simp
        all_goals with_reducible rfl
      (try simp only [Act.put, List.setIfInBounds_toArray, List.set_cons_zero, List.set_cons_succ])
      refine wpAnyH_takeD (i := 10) (d := some 22) (v := ?v193) rfl rfl (by kernel_rfl) (by kernel_rfl) (by kernel_rfl) (fun _ _ _ h => h) (Or.inl ⟨by rfl, ?hy193⟩) hHeld ?rest193
      case hy193 =>
        intro wS hS
        go_simp
        all_goals with_reducible rfl
      (try simp only [Act.put, List.setIfInBounds_toArray, List.set_cons_zero, List.set_cons_succ])
      refine wpAnyH_takeD (i := 11) (d := some 23) (v := ?v194) rfl rfl (by kernel_rfl) (by kernel_rfl) (by kernel_rfl) (fun _ _ _ h => h) (Or.inl ⟨by rfl, ?hy194⟩) hHeld ?rest194
      case hy194 =>
        intro wS hS
        go_simp
        all_goals with_reducible rfl
      (try simp only [Act.put, List.setIfInBounds_toArray, List.set_cons_zero, List.set_cons_succ])
      refine wpAnyH_takeD (i := 12) (d := some 24) (v := ?v195) rfl rfl (by kernel_rfl) (by kernel_rfl) (by kernel_rfl) (fun _ _ _ h => h) (Or.inl ⟨by rfl, ?hy195⟩) hHeld ?rest195
      case hy195 =>
        intro wS hS
        go_simp
        all_goals with_reducible rfl
      (try simp only [Act.put, List.setIfInBounds_toArray, List.set_cons_zero, List.set_cons_succ])
      refine wpAnyH_ready (rs := [14]) (by kernel_rfl) (by simp) (AllReadyH.cons rfl (fun K hK => ?_) AllReadyH.nil)
      rw [if_pos (by rfl)]
      refine wp_store_row 67 (.tmp 3) (.tmp 21) rfl rfl gx rfl #[.int .i64 zk, .int .i64 zidx, .int .i64 zlen, .int .i64 zstp, .int .i64 zbnd, .bool zlst, .int .u32 zlnk, .int .i64 (N : Nat)] rfl 67 #[.int .i64 0, .int .i64 0, .int .i64 0, .int .i64 0, .int .i64 0, .bool false, .int .u32 0, .int .i64 0] hrx8c (by kernel_rfl) rfl (by simp [Value.oneCell']) ?_
      have hrS := setRow_heap _ gx _ #[.int .i64 zk, .int .i64 zidx, .int .i64 zlen, .int .i64 zstp, .int .i64 zbnd, .bool zlst, .int .u32 zlnk, .int .i64 (N : Nat)] _ _ hrx8c
      have hmS := (setRow_other x8c gx m #[.int .i64 zk, .int .i64 zidx, .int .i64 zlen, .int .i64 zstp, .int .i64 zbnd, .bool zlst, .int .u32 zlnk, .int .i64 (N : Nat)] (by omega)).trans hmx8c
      have hbS := below_setRow hbx8c hga #[.int .i64 zk, .int .i64 zidx, .int .i64 zlen, .int .i64 zstp, .int .i64 zbnd, .bool zlst, .int .u32 zlnk, .int .i64 (N : Nat)]
      have hsS := hsa.butZero hrx8c #[.int .i64 zk, .int .i64 zidx, .int .i64 zlen, .int .i64 zstp, .int .i64 zbnd, .bool zlst, .int .u32 zlnk, .int .i64 (N : Nat)]
      refine hK.out _ _ hmS (fun hHeld => ?_)
      clear hK K
      (try simp only [Act.put, List.setIfInBounds_toArray, List.set_cons_zero, List.set_cons_succ])
      refine wpAnyH_takeD (i := 15) (d := some 4) (v := ?v196) rfl rfl (by kernel_rfl) (by kernel_rfl) (by kernel_rfl) (fun _ _ _ h => h) (Or.inl ⟨by rfl, ?hy196⟩) hHeld ?rest196
      case hy196 =>
        intro wS hS
        go_simp
        all_goals with_reducible rfl
      (try simp only [Act.put, List.setIfInBounds_toArray, List.set_cons_zero, List.set_cons_succ])
      refine wpAnyH_takeD (i := 16) (d := some 5) (v := ?v197) rfl rfl (by kernel_rfl) (by kernel_rfl) (by kernel_rfl) (fun _ _ _ h => h) (Or.inl ⟨by rfl, ?hy197⟩) hHeld ?rest197
      case hy197 =>
        intro wS hS
        go_simp
        all_goals with_reducible rfl
      (try simp only [Act.put, List.setIfInBounds_toArray, List.set_cons_zero, List.set_cons_succ])
      refine wpAnyH_takeD (i := 17) (d := some 6) (v := ?v198) rfl rfl (by kernel_rfl) (by kernel_rfl) (by kernel_rfl) (fun _ _ _ h => h) (Or.inl ⟨by rfl, ?hy198⟩) hHeld ?rest198
      case hy198 =>
        intro wS hS
        go_simp
        all_goals with_reducible rfl
      (try simp only [Act.put, List.setIfInBounds_toArray, List.set_cons_zero, List.set_cons_succ])
      refine wpAnyH_done (by kernel_rfl) ?_ _
      go_wp2_with fail
      go_meet
      exact ⟨gx, A, c, rfl, rfl, rfl, rfl, hrS, hga, hsS, hca, hcma, hfa, hbS⟩
  case rest =>
    obtain ⟨gx, A, c, rfl, rfl, rfl, rfl, hrx, hgx, hsx, hcx, hcmx, hfx, hbx⟩ := hcut
    have hmc := (hbx.block m hmlt).trans hm
    have hwc := HW.out.trans (hbx.mono HW.out.size)
    have hgm : gx ≠ m := by omega
    clear hs2 hb2 hm HRS HOP
    go_wp2_with fail
    go_upto_region 6 with fail
    have hS12 : wc.cell? ⟨m, 12, none⟩ = some (.int .i64 (s.at_ : Int)) := by rw [cell_of_row _ _ _ _ _ _ hmc]; rfl
    refine wp_region_held_drew (S := fun W => W.cell? ⟨m, 12, none⟩ = some (.int .i64 (s.at_ : Int)) ∧ W.heap[gx]? = some (.cells #[.int .i64 zk, .int .i64 zidx, .int .i64 zlen, .int .i64 zstp, .int .i64 zbnd, .bool zlst, .int .u32 zlnk, .int .i64 (N : Nat)] 67 (0, 0))) (by kernel_rfl) ⟨hS12, hrx⟩ (fun hHeld => ?_)
    clear hS12
    have hsx0 : SeesB wc.drew A P := hsx
    replace hmc : wc.drew.heap[m]? = _ := hmc
    replace hrx : wc.drew.heap[gx]? = _ := hrx
    replace hwc : Below w0.heap.size w0 wc.drew := hwc.drew
    replace hbx : Below w.heap.size w wc.drew := hbx.drew
    generalize wc.drew = w3 at *
    refine wpAnyH_takeD (i := 0) (d := some 28) (v := ?v199) rfl rfl (by kernel_rfl) (by kernel_rfl) (by kernel_rfl) (fun _ _ _ h => h) (Or.inl ⟨by rfl, ?hy199⟩) hHeld ?rest199
    case hy199 =>
      intro wS hS
      go_simp
      all_goals with_reducible rfl
    (try simp only [Act.put, List.setIfInBounds_toArray, List.set_cons_zero, List.set_cons_succ])
    refine wpAnyH_takeD (i := 1) (d := some 29) (v := ?v200) rfl rfl (by kernel_rfl) (by kernel_rfl) (by kernel_rfl) (fun _ _ _ h => h) (Or.inl ⟨by rfl, ?hy200⟩) hHeld ?rest200
    case hy200 =>
      intro wS hS
      go_simp
      all_goals with_reducible rfl
    (try simp only [Act.put, List.setIfInBounds_toArray, List.set_cons_zero, List.set_cons_succ])
    refine wpAnyH_takeD (i := 2) (d := some 30) (v := ?v201) rfl rfl (by kernel_rfl) (by kernel_rfl) (by kernel_rfl) (fun _ _ _ h => h) (Or.inl ⟨by rfl, ?hy201⟩) hHeld ?rest201
    case hy201 =>
      intro wS hS
      go_simp
      all_goals with_reducible rfl
    (try simp only [Act.put, List.setIfInBounds_toArray, List.set_cons_zero, List.set_cons_succ])
    refine wpAnyH_takeD (i := 3) (d := some 31) (v := .agg #[.int .i64 zk, .int .i64 zidx, .int .i64 zlen, .int .i64 zstp, .int .i64 zbnd, .bool zlst, .int .u32 zlnk, .int .i64 (N : Nat)]) rfl rfl (by kernel_rfl) (by kernel_rfl) (by kernel_rfl) (fun _ _ _ h => h) (Or.inl ⟨by rfl, ?hy202⟩) hHeld ?rest202
    case hy202 =>
      intro wS hS
      exact run_load_rowop 67 (.tmp 3) rfl gx (by rfl) #[.int .i64 zk, .int .i64 zidx, .int .i64 zlen, .int .i64 zstp, .int .i64 zbnd, .bool zlst, .int .u32 zlnk, .int .i64 (N : Nat)] _ _ hS.2 _ Tryz.underlying67 rfl (by kernel_rfl)
    (try simp only [Act.put, List.setIfInBounds_toArray, List.set_cons_zero, List.set_cons_succ])
    refine wpAnyH_takeD (i := 4) (d := some 32) (v := ?v203) rfl rfl (by kernel_rfl) (by kernel_rfl) (by kernel_rfl) (fun _ _ _ h => h) (Or.inl ⟨by rfl, ?hy203⟩) hHeld ?rest203
    case hy203 =>
      intro wS hS
      go_simp
      all_goals with_reducible rfl
    (try simp only [Act.put, List.setIfInBounds_toArray, List.set_cons_zero, List.set_cons_succ])
    refine wpAnyH_takeD (i := 5) (d := some 33) (v := ?v204) rfl rfl (by kernel_rfl) (by kernel_rfl) (by kernel_rfl) (fun _ _ _ h => h) (Or.inl ⟨by rfl, ?hy204⟩) hHeld ?rest204
    case hy204 =>
      intro wS hS
      go_simp
      all_goals with_reducible rfl
    (try simp only [Act.put, List.setIfInBounds_toArray, List.set_cons_zero, List.set_cons_succ])
    refine wpAnyH_takeD (i := 6) (d := some 34) (v := ?v205) rfl rfl (by kernel_rfl) (by kernel_rfl) (by kernel_rfl) (fun _ _ _ h => h) (Or.inl ⟨by rfl, ?hy205⟩) hHeld ?rest205
    case hy205 =>
      intro wS hS
      go_simp
      all_goals with_reducible rfl
    (try simp only [Act.put, List.setIfInBounds_toArray, List.set_cons_zero, List.set_cons_succ])
    refine wpAnyH_takeD (i := 7) (d := some 35) (v := ?v206) rfl rfl (by kernel_rfl) (by kernel_rfl) (by kernel_rfl) (fun _ _ _ h => h) (Or.inl ⟨by rfl, ?hy206⟩) hHeld ?rest206
    case hy206 =>
      intro wS hS
      have k12 := hS.1
      go_simp
      all_goals with_reducible rfl
    (try simp only [Act.put, List.setIfInBounds_toArray, List.set_cons_zero, List.set_cons_succ])
    refine wpAnyH_ready (rs := [8]) (by kernel_rfl) (by simp) (AllReadyH.cons rfl (fun K hK => ?_) AllReadyH.nil)
    rw [if_pos (by rfl)]
    go_simp
    have hpc := own_keepF HP.out hbx
    have hkc := own_keepF HK.out hbx
    have hb13 : w1.heap.size ≤ w3.heap.size := Nat.le_trans HB1.out hbx.size
    refine (HN.out w3 hmc hpc hb13).mono ?_
    rintro e w4 ⟨rfl, Aq, cq, hm4, hp4, hB34, hmvp⟩
    replace hm4 : w4.heap[m]? = some (.cells (RdCells g i Aq (s.pl.length + 1) cq (s.cnt + zlen) (decide (zlen < i.bl)) Ab b.length cb s.at_ i At nt ct Ak L.length ck 0 0 none 0 0) 56 (0, 0)) := hm4
    have hr4 := (hB34.block gx (Array.getElem?_eq_some_iff.1 hrx).1 (fun h => h.elim hgm (own_other hpc hrx (by decide)))).trans hrx
    have hk4 := own_but hkc hB34 (fun k hk h => h.elim (fun h2 => own_other hkc hmc (by decide) (by rw [← h2]; exact hk)) (own_apart hkc hpc (by decide) k hk))
    have hB4 : But (fun n => n = m ∨ (Value.slice Ap s.pl.length cp).ownBlock = some n ∨ (Value.slice Ak L.length ck).ownBlock = some n) w3 w4 := (But.refl _ _).trans hB34 (fun n h => .inl (h.elim .inl (fun h => .inr (.inl h))))
    have hb14 : w1.heap.size ≤ w4.heap.size := Nat.le_trans hb13 hB34.size
    replace HFIN := hid (HFIN.out A c w3 hbx hsx0 hcx hcmx hfx)
    clear hB34 HN hmc hrx hpc hkc hb13 hsx hsx0 hbx hwc hfx HP HK HB1 HW
    have hS4 : w4.cell? ⟨m, 12, none⟩ = some (.int .i64 (s.at_ : Int)) := by rw [cell_of_row _ _ _ _ _ _ hm4]; rfl
    go_wp2_with fail
    refine hK.out _ _ ⟨hS4, hr4⟩ (fun hHeld => ?_)
    clear hK K
    (try simp only [Act.put, List.setIfInBounds_toArray, List.set_cons_zero, List.set_cons_succ])
    clear hS4
    refine wpAnyH_takeD (i := 9) (d := some 7) (v := ?v207) rfl rfl (by kernel_rfl) (by kernel_rfl) (by kernel_rfl) (fun _ _ _ h => h) (Or.inl ⟨by rfl, ?hy207⟩) hHeld ?rest207
    case hy207 =>
      intro wS hS
      go_simp
      all_goals with_reducible rfl
    (try simp only [Act.put, List.setIfInBounds_toArray, List.set_cons_zero, List.set_cons_succ])
    refine wpAnyH_done (by kernel_rfl) ?_ _
    clear hHeld
    go_wp2_with fail
    have hSw4 : w4.cell? ⟨m, 12, none⟩ = some (.int .i64 (s.at_ : Int)) := by rw [cell_of_row _ _ _ _ _ _ hm4]; rfl
    refine wp_region_held_drew (S := fun W => W.cell? ⟨m, 12, none⟩ = some (.int .i64 (s.at_ : Int)) ∧ W.heap[gx]? = some (.cells #[.int .i64 zk, .int .i64 zidx, .int .i64 zlen, .int .i64 zstp, .int .i64 zbnd, .bool zlst, .int .u32 zlnk, .int .i64 (N : Nat)] 67 (0, 0))) (by kernel_rfl) ⟨hSw4, hr4⟩ (fun hHeld => ?_)
    clear hSw4
    replace hm4 : w4.drew.heap[m]? = _ := hm4
    replace hr4 : w4.drew.heap[gx]? = _ := hr4
    replace hB4 : But (fun n => n = m ∨ (Value.slice Ap s.pl.length cp).ownBlock = some n ∨ (Value.slice Ak L.length ck).ownBlock = some n) w3 w4.drew := hB4.trans (But.of_below (R := fun _ => False) (Below.refl _ _).drew) (fun n h => h.elim)
    replace hp4 : w4.drew.ownsRow w1.heap.size 3 1 (.slice Aq (s.pl.length + 1) cq) (s.pl.length + 1) ((s.pl ++ [(s.at_ : Int)]).map intV) := hp4
    replace hk4 : w4.drew.ownsRow w1.heap.size 78 11 (.slice Ak L.length ck) L.length (flatM L) := hk4
    replace hb14 : w1.heap.size ≤ w4.drew.heap.size := hb14
    generalize w4.drew = w5 at *
    refine wpAnyH_takeD (i := 0) (d := some 40) (v := ?v208) rfl rfl (by kernel_rfl) (by kernel_rfl) (by kernel_rfl) (fun _ _ _ h => h) (Or.inl ⟨by rfl, ?hy208⟩) hHeld ?rest208
    case hy208 =>
      intro wS hS
      go_simp
      all_goals with_reducible rfl
    (try simp only [Act.put, List.setIfInBounds_toArray, List.set_cons_zero, List.set_cons_succ])
    refine wpAnyH_takeD (i := 1) (d := some 41) (v := ?v209) rfl rfl (by kernel_rfl) (by kernel_rfl) (by kernel_rfl) (fun _ _ _ h => h) (Or.inl ⟨by rfl, ?hy209⟩) hHeld ?rest209
    case hy209 =>
      intro wS hS
      go_simp
      all_goals with_reducible rfl
    (try simp only [Act.put, List.setIfInBounds_toArray, List.set_cons_zero, List.set_cons_succ])
    refine wpAnyH_takeD (i := 2) (d := some 42) (v := ?v210) rfl rfl (by kernel_rfl) (by kernel_rfl) (by kernel_rfl) (fun _ _ _ h => h) (Or.inl ⟨by rfl, ?hy210⟩) hHeld ?rest210
    case hy210 =>
      intro wS hS
      go_simp
      all_goals with_reducible rfl
    (try simp only [Act.put, List.setIfInBounds_toArray, List.set_cons_zero, List.set_cons_succ])
    refine wpAnyH_takeD (i := 3) (d := some 43) (v := ?v211) rfl rfl (by kernel_rfl) (by kernel_rfl) (by kernel_rfl) (fun _ _ _ h => h) (Or.inl ⟨by rfl, ?hy211⟩) hHeld ?rest211
    case hy211 =>
      intro wS hS
      go_simp
      all_goals with_reducible rfl
    (try simp only [Act.put, List.setIfInBounds_toArray, List.set_cons_zero, List.set_cons_succ])
    refine wpAnyH_takeD (i := 4) (d := some 44) (v := ?v212) rfl rfl (by kernel_rfl) (by kernel_rfl) (by kernel_rfl) (fun _ _ _ h => h) (Or.inl ⟨by rfl, ?hy212⟩) hHeld ?rest212
    case hy212 =>
      intro wS hS
      go_simp
      all_goals with_reducible rfl
    (try simp only [Act.put, List.setIfInBounds_toArray, List.set_cons_zero, List.set_cons_succ])
    refine wpAnyH_takeD (i := 6) (d := some 46) (v := .agg #[.int .i64 zk, .int .i64 zidx, .int .i64 zlen, .int .i64 zstp, .int .i64 zbnd, .bool zlst, .int .u32 zlnk, .int .i64 (N : Nat)]) rfl rfl (by kernel_rfl) (by kernel_rfl) (by kernel_rfl) (fun _ _ _ h => h) (Or.inl ⟨by rfl, ?hy213⟩) hHeld ?rest213
    case hy213 =>
      intro wS hS
      exact run_load_rowop 67 (.tmp 3) rfl gx (by rfl) #[.int .i64 zk, .int .i64 zidx, .int .i64 zlen, .int .i64 zstp, .int .i64 zbnd, .bool zlst, .int .u32 zlnk, .int .i64 (N : Nat)] _ _ hS.2 _ Tryz.underlying67 rfl (by kernel_rfl)
    (try simp only [Act.put, List.setIfInBounds_toArray, List.set_cons_zero, List.set_cons_succ])
    refine wpAnyH_takeD (i := 7) (d := some 47) (v := ?v214) rfl rfl (by kernel_rfl) (by kernel_rfl) (by kernel_rfl) (fun _ _ _ h => h) (Or.inl ⟨by rfl, ?hy214⟩) hHeld ?rest214
    case hy214 =>
      intro wS hS
      go_simp
      all_goals with_reducible rfl
    (try simp only [Act.put, List.setIfInBounds_toArray, List.set_cons_zero, List.set_cons_succ])
    refine wpAnyH_takeD (i := 8) (d := some 48) (v := ?v215) rfl rfl (by kernel_rfl) (by kernel_rfl) (by kernel_rfl) (fun _ _ _ h => h) (Or.inl ⟨by rfl, ?hy215⟩) hHeld ?rest215
    case hy215 =>
      intro wS hS
      go_simp
      all_goals with_reducible rfl
    (try simp only [Act.put, List.setIfInBounds_toArray, List.set_cons_zero, List.set_cons_succ])
    refine wpAnyH_takeD (i := 9) (d := some 49) (v := ?v216) rfl rfl (by kernel_rfl) (by kernel_rfl) (by kernel_rfl) (fun _ _ _ h => h) (Or.inl ⟨by rfl, ?hy216⟩) hHeld ?rest216
    case hy216 =>
      intro wS hS
      go_simp
      all_goals with_reducible rfl
    (try simp only [Act.put, List.setIfInBounds_toArray, List.set_cons_zero, List.set_cons_succ])
    refine wpAnyH_takeD (i := 10) (d := some 50) (v := ?v217) rfl rfl (by kernel_rfl) (by kernel_rfl) (by kernel_rfl) (fun _ _ _ h => h) (Or.inl ⟨by rfl, ?hy217⟩) hHeld ?rest217
    case hy217 =>
      intro wS hS
      go_simp
      all_goals with_reducible rfl
    (try simp only [Act.put, List.setIfInBounds_toArray, List.set_cons_zero, List.set_cons_succ])
    refine wpAnyH_takeD (i := 11) (d := some 51) (v := ?v218) rfl rfl (by kernel_rfl) (by kernel_rfl) (by kernel_rfl) (fun _ _ _ h => h) (Or.inl ⟨by rfl, ?hy218⟩) hHeld ?rest218
    case hy218 =>
      intro wS hS
      go_simp
      all_goals with_reducible rfl
    (try simp only [Act.put, List.setIfInBounds_toArray, List.set_cons_zero, List.set_cons_succ])
    refine wpAnyH_takeD (i := 12) (d := some 52) (v := ?v219) rfl rfl (by kernel_rfl) (by kernel_rfl) (by kernel_rfl) (fun _ _ _ h => h) (Or.inl ⟨by rfl, ?hy219⟩) hHeld ?rest219
    case hy219 =>
      intro wS hS
      have k12 := hS.1
      go_simp
      all_goals with_reducible rfl
    (try simp only [Act.put, List.setIfInBounds_toArray, List.set_cons_zero, List.set_cons_succ])
    refine wpAnyH_takeD (i := 13) (d := some 53) (v := .agg #[.int .i64 zk, .int .i64 zidx, .int .i64 zlen, .int .i64 zstp, .int .i64 zbnd, .bool zlst, .int .u32 zlnk, .int .i64 (N : Nat), .slice A P.length c, .int .u32 S, .int .i64 (s.at_ : Int)]) rfl rfl (by kernel_rfl) (by kernel_rfl) (by kernel_rfl) (fun _ _ _ h => h) (Or.inl ⟨by rfl, ?hy220⟩) hHeld ?rest220
    case hy220 =>
      intro wS hS
      go_simp
      all_goals with_reducible rfl
    (try simp only [Act.put, List.setIfInBounds_toArray, List.set_cons_zero, List.set_cons_succ])
    refine wpAnyH_ready (rs := [5, 14]) (by kernel_rfl) (by simp) (AllReadyH.cons rfl (fun K hK => ?_) (AllReadyH.cons rfl (fun K hK => ?_) AllReadyH.nil))
    · rw [if_pos (by rfl)]
      have k20 : w5.cell? ⟨m, 20, none⟩ = some (.slice Ak L.length ck) := by rw [cell_of_row _ _ _ _ _ _ hm4]; rfl
      have hSw5 : w5.cell? ⟨m, 12, none⟩ = some (.int .i64 (s.at_ : Int)) := by rw [cell_of_row _ _ _ _ _ _ hm4]; rfl
      go_simp
      refine hK.out _ _ ⟨hSw5, hr4⟩ (fun hHeld => ?_)
      clear hK K
      (try simp only [Act.put, List.setIfInBounds_toArray, List.set_cons_zero, List.set_cons_succ])
      clear k20 hSw5
      refine wpAnyH_ready (rs := [14]) (by kernel_rfl) (by simp) (AllReadyH.cons rfl (fun K hK => ?_) AllReadyH.nil)
      rw [if_pos (by rfl)]
      have hba : Below w5.heap.size w5 (w5.alloc (.cells #[.int .i64 zk, .int .i64 zidx, .int .i64 zlen, .int .i64 zstp, .int .i64 zbnd, .bool zlst, .int .u32 zlnk, .int .i64 (N : Nat), .slice A P.length c, .int .u32 S, .int .i64 (s.at_ : Int)] 78)) := (Below.refl _ _).alloc (Nat.le_refl _) _
      have hm5 := (hba.block m (Array.getElem?_eq_some_iff.1 hm4).1).trans hm4
      have hr5 := (hba.block gx (Array.getElem?_eq_some_iff.1 hr4).1).trans hr4
      have hp5 := own_keepF hp4 hba
      have hk5 := own_keepF hk4 hba
      have hB5 := hB4.trans (But.of_below (R := fun _ => False) hba) (fun n h => h.elim)
      have hb15 := Nat.le_trans hb14 hba.size
      have hs35 := hB5.size
      have hseen : Sees (w5.alloc (.cells #[.int .i64 zk, .int .i64 zidx, .int .i64 zlen, .int .i64 zstp, .int .i64 zbnd, .bool zlst, .int .u32 zlnk, .int .i64 (N : Nat), .slice A P.length c, .int .u32 S, .int .i64 (s.at_ : Int)] 78)) (some ⟨w5.heap.size, 0, none⟩) (flatM [(⟨⟨zk, zidx, zlen, zstp, zbnd, zlst, zlnk, (N : Nat)⟩, A, c, P, S, s.at_⟩ : BlkM)]) := Sees.of_alloc _ _ _ rfl
      clear hba hm4 hr4 hp4 hk4 hB4 hb14
      go_simp
      generalize w5.heap.size = gn at *
      generalize w5.alloc (.cells #[.int .i64 zk, .int .i64 zidx, .int .i64 zlen, .int .i64 zstp, .int .i64 zbnd, .bool zlst, .int .u32 zlnk, .int .i64 (N : Nat), .slice A P.length c, .int .u32 S, .int .i64 (s.at_ : Int)] 78) = w6 at *
      have hSw6 : w6.cell? ⟨m, 12, none⟩ = some (.int .i64 (s.at_ : Int)) := by rw [cell_of_row _ _ _ _ _ _ hm5]; rfl
      refine hK.out _ _ ⟨hSw6, hr5⟩ (fun hHeld => ?_)
      clear hK K
      (try simp only [Act.put, List.setIfInBounds_toArray, List.set_cons_zero, List.set_cons_succ])
      clear hSw6
      refine wpAnyH_ready (rs := [15]) (by kernel_rfl) (by simp) (AllReadyH.cons rfl (fun K hK => ?_) AllReadyH.nil)
      rw [if_pos (by rfl)]
      refine wp_app (.tmp 45) (.tmp 54) _ rfl elK rfl hk5 (some ⟨gn, 0, none⟩) 1 1 rfl (flatM [(⟨⟨zk, zidx, zlen, zstp, zbnd, zlst, zlnk, (N : Nat)⟩, A, c, P, S, s.at_⟩ : BlkM)]) hseen (by rw [flatM_len]; rfl) (flatM_one _) (L.length + 1) rfl (flatM (L ++ [(⟨⟨zk, zidx, zlen, zstp, zbnd, zlst, zlnk, (N : Nat)⟩, A, c, P, S, s.at_⟩ : BlkM)])) (flatM_app _ _).symm (by have := HLL.out; unfold maxLen; omega) (by have := HLL.out; omega) hb15 ?_
      intro Ak2 ck2 w7 hk7 hgr hatk hbel
      have hB56 := But.of_grown hgr hbel
      have hm7 := (hB56.block m (Array.getElem?_eq_some_iff.1 hm5).1 (own_other hk5 hm5 (by decide))).trans hm5
      have hr7 := (hB56.block gx (Array.getElem?_eq_some_iff.1 hr5).1 (own_other hk5 hr5 (by decide))).trans hr5
      have hp7 := own_but hp5 hB56 (fun k hk => own_apart hp5 hk5 (by decide) k hk)
      have hB7 := hB5.trans hB56 (fun n h => .inl (.inr (.inr h)))
      have hmvk : Moved w3 (.slice Ak L.length ck) (.slice Ak2 (L.length + 1) ck2) := hatk.imp id (fun h => ⟨_, h, hs35⟩)
      clear hgr hatk hbel hB56 hB5 hm5 hr5 hp5 hk5 hseen hb15 hs35
      have hSw7 : w7.cell? ⟨m, 12, none⟩ = some (.int .i64 (s.at_ : Int)) := by rw [cell_of_row _ _ _ _ _ _ hm7]; rfl
      refine hK.out _ _ ⟨hSw7, hr7⟩ (fun hHeld => ?_)
      clear hK K
      (try simp only [Act.put, List.setIfInBounds_toArray])
      clear hSw7
      refine wpAnyH_takeD (i := 16) (d := some 56) (v := ?v221) rfl rfl (by kernel_rfl) (by kernel_rfl) (by kernel_rfl) (fun _ _ _ h => h) (Or.inl ⟨by rfl, ?hy221⟩) hHeld ?rest221
      case hy221 =>
        intro wS hS
        go_simp
        all_goals with_reducible rfl
      (try simp only [Act.put])
      refine wpAnyH_takeD (i := 17) (d := some 57) (v := ?v222) rfl rfl (by kernel_rfl) (by kernel_rfl) (by kernel_rfl) (fun _ _ _ h => h) (Or.inl ⟨by rfl, ?hy222⟩) hHeld ?rest222
      case hy222 =>
        intro wS hS
        go_simp
        all_goals with_reducible rfl
      (try simp only [Act.put])
      refine wpAnyH_takeD (i := 18) (d := some 58) (v := ?v223) rfl rfl (by kernel_rfl) (by kernel_rfl) (by kernel_rfl) (fun _ _ _ h => h) (Or.inl ⟨by rfl, ?hy223⟩) hHeld ?rest223
      case hy223 =>
        intro wS hS
        go_simp
        all_goals with_reducible rfl
      (try simp only [Act.put])
      refine wpAnyH_ready (rs := [19]) (by kernel_rfl) (by simp) (AllReadyH.cons rfl (fun K hK => ?_) AllReadyH.nil)
      rw [if_pos (by rfl)]
      have c20 : w7.cell? ⟨m, 20, none⟩ = some (.slice Ak L.length ck) := by rw [cell_of_row _ _ _ _ _ _ hm7]; rfl
      have f20 : w7.frozen? ⟨m, 20, none⟩ = false := frozen_of_row _ _ _ _ _ hm7
      have hm8 : (w7.setCell ⟨m, 20, none⟩ (.slice Ak2 (L.length + 1) ck2)).heap[m]? = some (.cells (RdCells g i Aq (s.pl.length + 1) cq (s.cnt + zlen) (decide (zlen < i.bl)) Ab b.length cb s.at_ i At nt ct Ak2 (L.length + 1) ck2 0 0 none 0 0) 56 (0, 0)) := heap_setCell_same w7 m 20 _ 56 (.slice Ak2 (L.length + 1) ck2) hm7
      have hr8 := (heap_setCell_other w7 ⟨m, 20, none⟩ gx (.slice Ak2 (L.length + 1) ck2) hgm).trans hr7
      have hp8 := own_but hp7 (but_cell m 20 (.slice Ak2 (L.length + 1) ck2)) (fun k hk hh => own_other hp7 hm7 (by decide) (by have h2 : k = m := hh; rw [← h2]; exact hk))
      have hk8 := own_but hk7 (but_cell m 20 (.slice Ak2 (L.length + 1) ck2)) (fun k hk hh => own_other hk7 hm7 (by decide) (by have h2 : k = m := hh; rw [← h2]; exact hk))
      have hB8 := hB7.trans (but_cell m 20 (.slice Ak2 (L.length + 1) ck2)) (fun n h => .inl (.inl h))
      clear hm7 hr7 hp7 hk7 hB7
      go_simp
      clear c20 f20
      generalize w7.setCell ⟨m, 20, none⟩ (.slice Ak2 (L.length + 1) ck2) = w8 at *
      have hSw8 : w8.cell? ⟨m, 12, none⟩ = some (.int .i64 (s.at_ : Int)) := by rw [cell_of_row _ _ _ _ _ _ hm8]; rfl
      refine hK.out _ _ ⟨hSw8, hr8⟩ (fun hHeld => ?_)
      clear hK K
      (try simp only [Act.put, List.setIfInBounds_toArray, List.set_cons_zero, List.set_cons_succ])
      clear hSw8
      refine wpAnyH_done (by kernel_rfl) ?_ _
      clear hHeld
      go_wp2_with fail
      refine wp_region_held_drew (S := fun W => W.heap[gx]? = some (.cells #[.int .i64 zk, .int .i64 zidx, .int .i64 zlen, .int .i64 zstp, .int .i64 zbnd, .bool zlst, .int .u32 zlnk, .int .i64 (N : Nat)] 67 (0, 0))) (by kernel_rfl) hr8 (fun hHeld => ?_)
      replace hm8 : w8.drew.heap[m]? = _ := hm8
      replace hr8 : w8.drew.heap[gx]? = _ := hr8
      replace hB8 : But (fun n => n = m ∨ (Value.slice Ap s.pl.length cp).ownBlock = some n ∨ (Value.slice Ak L.length ck).ownBlock = some n) w3 w8.drew := hB8.trans (But.of_below (R := fun _ => False) (Below.refl _ _).drew) (fun n h => h.elim)
      replace hp8 : w8.drew.ownsRow w1.heap.size 3 1 (.slice Aq (s.pl.length + 1) cq) (s.pl.length + 1) ((s.pl ++ [(s.at_ : Int)]).map intV) := hp8
      replace hk8 : w8.drew.ownsRow w1.heap.size 78 11 (.slice Ak2 (L.length + 1) ck2) (L.length + 1) (flatM (L ++ [(⟨⟨zk, zidx, zlen, zstp, zbnd, zlst, zlnk, (N : Nat)⟩, A, c, P, S, s.at_⟩ : BlkM)])) := hk8
      generalize w8.drew = w9 at *
      refine wpAnyH_takeD (i := 0) (d := some 59) (v := ?v224) rfl rfl (by kernel_rfl) (by kernel_rfl) (by kernel_rfl) (fun _ _ _ h => h) (Or.inl ⟨by rfl, ?hy224⟩) hHeld ?rest224
      case hy224 =>
        intro wS hS
        go_simp
        all_goals with_reducible rfl
      (try simp only [Act.put, List.setIfInBounds_toArray, List.set_cons_zero, List.set_cons_succ])
      refine wpAnyH_takeD (i := 1) (d := some 60) (v := ?v225) rfl rfl (by kernel_rfl) (by kernel_rfl) (by kernel_rfl) (fun _ _ _ h => h) (Or.inl ⟨by rfl, ?hy225⟩) hHeld ?rest225
      case hy225 =>
        intro wS hS
        go_simp
        all_goals with_reducible rfl
      (try simp only [Act.put, List.setIfInBounds_toArray, List.set_cons_zero, List.set_cons_succ])
      refine wpAnyH_takeD (i := 2) (d := some 61) (v := ?v226) rfl rfl (by kernel_rfl) (by kernel_rfl) (by kernel_rfl) (fun _ _ _ h => h) (Or.inl ⟨by rfl, ?hy226⟩) hHeld ?rest226
      case hy226 =>
        intro wS hS
        go_simp
        all_goals with_reducible rfl
      (try simp only [Act.put, List.setIfInBounds_toArray, List.set_cons_zero, List.set_cons_succ])
      refine wpAnyH_takeD (i := 4) (d := some 63) (v := .agg #[.int .i64 zk, .int .i64 zidx, .int .i64 zlen, .int .i64 zstp, .int .i64 zbnd, .bool zlst, .int .u32 zlnk, .int .i64 (N : Nat)]) rfl rfl (by kernel_rfl) (by kernel_rfl) (by kernel_rfl) (fun _ _ _ h => h) (Or.inl ⟨by rfl, ?hy227⟩) hHeld ?rest227
      case hy227 =>
        intro wS hS
        exact run_load_rowop 67 (.tmp 3) rfl gx (by rfl) #[.int .i64 zk, .int .i64 zidx, .int .i64 zlen, .int .i64 zstp, .int .i64 zbnd, .bool zlst, .int .u32 zlnk, .int .i64 (N : Nat)] _ _ hS _ Tryz.underlying67 rfl (by kernel_rfl)
      (try simp only [Act.put, List.setIfInBounds_toArray, List.set_cons_zero, List.set_cons_succ])
      refine wpAnyH_ready (rs := [3, 5]) (by kernel_rfl) (by simp) (AllReadyH.cons rfl (fun K hK => ?_) (AllReadyH.cons rfl (fun K hK => ?_) AllReadyH.nil))
      · rw [if_pos (by rfl)]
        have k12 : w9.cell? ⟨m, 12, none⟩ = some (.int .i64 (s.at_ : Int)) := by rw [cell_of_row _ _ _ _ _ _ hm8]; rfl
        go_simp
        refine hK.out _ _ hr8 (fun hHeld => ?_)
        clear hK K
        (try simp only [Act.put, List.setIfInBounds_toArray, List.set_cons_zero, List.set_cons_succ])
        clear k12
        refine wpAnyH_ready (rs := [5]) (by kernel_rfl) (by simp) (AllReadyH.cons rfl (fun K hK => ?_) AllReadyH.nil)
        rw [if_pos (by rfl)]
        go_simp
        refine (HLG.out w9).mono ?_
        rintro e w10 ⟨rfl, hb10⟩
        have hm10 := (hb10.block m (Array.getElem?_eq_some_iff.1 hm8).1).trans hm8
        have hr10 := (hb10.block gx (Array.getElem?_eq_some_iff.1 hr8).1).trans hr8
        have hp10 := own_keepF hp8 hb10
        have hk10 := own_keepF hk8 hb10
        have hB10 := hB8.trans (But.of_below (R := fun _ => False) hb10) (fun n h => h.elim)
        clear hb10 hm8 hr8 hp8 hk8 hB8 HLG
        go_wp2_with fail
        refine hK.out _ _ hr10 (fun hHeld => ?_)
        clear hK K
        (try simp only [Act.put, List.setIfInBounds_toArray, List.set_cons_zero, List.set_cons_succ])
        refine wpAnyH_takeD (i := 6) (d := some 65) (v := .int .i64 ((s.at_ : Int) + (36 + (N : Int)))) rfl rfl (by kernel_rfl) (by kernel_rfl) (by kernel_rfl) (fun _ _ _ h => h) (Or.inl ⟨by rfl, ?hy228⟩) hHeld ?rest228
        case hy228 =>
          intro wS hS
          go_simp
          all_goals with_reducible rfl
        (try simp only [Act.put, List.setIfInBounds_toArray, List.set_cons_zero, List.set_cons_succ])
        refine wpAnyH_takeD (i := 7) (d := some 66) (v := ?v229) rfl rfl (by kernel_rfl) (by kernel_rfl) (by kernel_rfl) (fun _ _ _ h => h) (Or.inl ⟨by rfl, ?hy229⟩) hHeld ?rest229
        case hy229 =>
          intro wS hS
          go_simp
          all_goals with_reducible rfl
        (try simp only [Act.put, List.setIfInBounds_toArray, List.set_cons_zero, List.set_cons_succ])
        refine wpAnyH_takeD (i := 8) (d := some 67) (v := ?v230) rfl rfl (by kernel_rfl) (by kernel_rfl) (by kernel_rfl) (fun _ _ _ h => h) (Or.inl ⟨by rfl, ?hy230⟩) hHeld ?rest230
        case hy230 =>
          intro wS hS
          go_simp
          all_goals with_reducible rfl
        (try simp only [Act.put, List.setIfInBounds_toArray, List.set_cons_zero, List.set_cons_succ])
        refine wpAnyH_ready (rs := [9]) (by kernel_rfl) (by simp) (AllReadyH.cons rfl (fun K hK => ?_) AllReadyH.nil)
        rw [if_pos (by rfl)]
        have c12 : w10.cell? ⟨m, 12, none⟩ = some (.int .i64 (s.at_ : Int)) := by rw [cell_of_row _ _ _ _ _ _ hm10]; rfl
        have f12 : w10.frozen? ⟨m, 12, none⟩ = false := frozen_of_row _ _ _ _ _ hm10
        have hm11 : (w10.setCell ⟨m, 12, none⟩ (.int .i64 ((s.at_ : Int) + (36 + (N : Int))))).heap[m]? = some (.cells (RdCells g i Aq (s.pl.length + 1) cq (s.cnt + zlen) (decide (zlen < i.bl)) Ab b.length cb (s.at_ + (36 + N)) i At nt ct Ak2 (L.length + 1) ck2 0 0 none 0 0) 56 (0, 0)) := heap_setCell_same w10 m 12 _ 56 (.int .i64 ((s.at_ : Int) + (36 + (N : Int)))) hm10
        have hr11 := (heap_setCell_other w10 ⟨m, 12, none⟩ gx (.int .i64 ((s.at_ : Int) + (36 + (N : Int)))) hgm).trans hr10
        have hp11 := own_but hp10 (but_cell m 12 (.int .i64 ((s.at_ : Int) + (36 + (N : Int))))) (fun k hk hh => own_other hp10 hm10 (by decide) (by have h2 : k = m := hh; rw [← h2]; exact hk))
        have hk11 := own_but hk10 (but_cell m 12 (.int .i64 ((s.at_ : Int) + (36 + (N : Int))))) (fun k hk hh => own_other hk10 hm10 (by decide) (by have h2 : k = m := hh; rw [← h2]; exact hk))
        have hB11 := hB10.trans (but_cell m 12 (.int .i64 ((s.at_ : Int) + (36 + (N : Int))))) (fun n h => .inl (.inl h))
        clear hm10 hr10 hp10 hk10 hB10
        go_simp
        clear c12 f12
        generalize w10.setCell ⟨m, 12, none⟩ (.int .i64 ((s.at_ : Int) + (36 + (N : Int)))) = w11 at *
        refine hK.out _ _ hr11 (fun hHeld => ?_)
        clear hK K
        (try simp only [Act.put, List.setIfInBounds_toArray, List.set_cons_zero, List.set_cons_succ])
        refine wpAnyH_done (by kernel_rfl) ?_ _
        have hHF := HFIN.out Aq cq Ak2 ck2 w11 hm11 hp11 hk11 hB11 hmvp hmvk
        clear hm11 hr11 hp11 hk11 hB11 hmvp hmvk hHeld HFIN
        go_wp2_with fail
        go_ret
        exact hHF
      · rw [if_pos (by rfl)]
        go_simp
        refine (HLG.out w9).mono ?_
        rintro e w10 ⟨rfl, hb10⟩
        have hm10 := (hb10.block m (Array.getElem?_eq_some_iff.1 hm8).1).trans hm8
        have hr10 := (hb10.block gx (Array.getElem?_eq_some_iff.1 hr8).1).trans hr8
        have hp10 := own_keepF hp8 hb10
        have hk10 := own_keepF hk8 hb10
        have hB10 := hB8.trans (But.of_below (R := fun _ => False) hb10) (fun n h => h.elim)
        clear hb10 hm8 hr8 hp8 hk8 hB8 HLG
        go_wp2_with fail
        refine hK.out _ _ hr10 (fun hHeld => ?_)
        clear hK K
        (try simp only [Act.put, List.setIfInBounds_toArray, List.set_cons_zero, List.set_cons_succ])
        refine wpAnyH_ready (rs := [3]) (by kernel_rfl) (by simp) (AllReadyH.cons rfl (fun K hK => ?_) AllReadyH.nil)
        rw [if_pos (by rfl)]
        have k12 : w10.cell? ⟨m, 12, none⟩ = some (.int .i64 (s.at_ : Int)) := by rw [cell_of_row _ _ _ _ _ _ hm10]; rfl
        go_simp
        refine hK.out _ _ hr10 (fun hHeld => ?_)
        clear hK K
        (try simp only [Act.put, List.setIfInBounds_toArray, List.set_cons_zero, List.set_cons_succ])
        clear k12
        refine wpAnyH_takeD (i := 6) (d := some 65) (v := .int .i64 ((s.at_ : Int) + (36 + (N : Int)))) rfl rfl (by kernel_rfl) (by kernel_rfl) (by kernel_rfl) (fun _ _ _ h => h) (Or.inl ⟨by rfl, ?hy231⟩) hHeld ?rest231
        case hy231 =>
          intro wS hS
          go_simp
          all_goals with_reducible rfl
        (try simp only [Act.put, List.setIfInBounds_toArray, List.set_cons_zero, List.set_cons_succ])
        refine wpAnyH_takeD (i := 7) (d := some 66) (v := ?v232) rfl rfl (by kernel_rfl) (by kernel_rfl) (by kernel_rfl) (fun _ _ _ h => h) (Or.inl ⟨by rfl, ?hy232⟩) hHeld ?rest232
        case hy232 =>
          intro wS hS
          go_simp
          all_goals with_reducible rfl
        (try simp only [Act.put, List.setIfInBounds_toArray, List.set_cons_zero, List.set_cons_succ])
        refine wpAnyH_takeD (i := 8) (d := some 67) (v := ?v233) rfl rfl (by kernel_rfl) (by kernel_rfl) (by kernel_rfl) (fun _ _ _ h => h) (Or.inl ⟨by rfl, ?hy233⟩) hHeld ?rest233
        case hy233 =>
          intro wS hS
          go_simp
          all_goals with_reducible rfl
        (try simp only [Act.put, List.setIfInBounds_toArray, List.set_cons_zero, List.set_cons_succ])
        refine wpAnyH_ready (rs := [9]) (by kernel_rfl) (by simp) (AllReadyH.cons rfl (fun K hK => ?_) AllReadyH.nil)
        rw [if_pos (by rfl)]
        have c12 : w10.cell? ⟨m, 12, none⟩ = some (.int .i64 (s.at_ : Int)) := by rw [cell_of_row _ _ _ _ _ _ hm10]; rfl
        have f12 : w10.frozen? ⟨m, 12, none⟩ = false := frozen_of_row _ _ _ _ _ hm10
        have hm11 : (w10.setCell ⟨m, 12, none⟩ (.int .i64 ((s.at_ : Int) + (36 + (N : Int))))).heap[m]? = some (.cells (RdCells g i Aq (s.pl.length + 1) cq (s.cnt + zlen) (decide (zlen < i.bl)) Ab b.length cb (s.at_ + (36 + N)) i At nt ct Ak2 (L.length + 1) ck2 0 0 none 0 0) 56 (0, 0)) := heap_setCell_same w10 m 12 _ 56 (.int .i64 ((s.at_ : Int) + (36 + (N : Int)))) hm10
        have hr11 := (heap_setCell_other w10 ⟨m, 12, none⟩ gx (.int .i64 ((s.at_ : Int) + (36 + (N : Int)))) hgm).trans hr10
        have hp11 := own_but hp10 (but_cell m 12 (.int .i64 ((s.at_ : Int) + (36 + (N : Int))))) (fun k hk hh => own_other hp10 hm10 (by decide) (by have h2 : k = m := hh; rw [← h2]; exact hk))
        have hk11 := own_but hk10 (but_cell m 12 (.int .i64 ((s.at_ : Int) + (36 + (N : Int))))) (fun k hk hh => own_other hk10 hm10 (by decide) (by have h2 : k = m := hh; rw [← h2]; exact hk))
        have hB11 := hB10.trans (but_cell m 12 (.int .i64 ((s.at_ : Int) + (36 + (N : Int))))) (fun n h => .inl (.inl h))
        clear hm10 hr10 hp10 hk10 hB10
        go_simp
        clear c12 f12
        generalize w10.setCell ⟨m, 12, none⟩ (.int .i64 ((s.at_ : Int) + (36 + (N : Int)))) = w11 at *
        refine hK.out _ _ hr11 (fun hHeld => ?_)
        clear hK K
        (try simp only [Act.put, List.setIfInBounds_toArray, List.set_cons_zero, List.set_cons_succ])
        refine wpAnyH_done (by kernel_rfl) ?_ _
        have hHF := HFIN.out Aq cq Ak2 ck2 w11 hm11 hp11 hk11 hB11 hmvp hmvk
        clear hm11 hr11 hp11 hk11 hB11 hmvp hmvk hHeld HFIN
        go_wp2_with fail
        go_ret
        exact hHF
    · rw [if_pos (by rfl)]
      have hba : Below w5.heap.size w5 (w5.alloc (.cells #[.int .i64 zk, .int .i64 zidx, .int .i64 zlen, .int .i64 zstp, .int .i64 zbnd, .bool zlst, .int .u32 zlnk, .int .i64 (N : Nat), .slice A P.length c, .int .u32 S, .int .i64 (s.at_ : Int)] 78)) := (Below.refl _ _).alloc (Nat.le_refl _) _
      have hm5 := (hba.block m (Array.getElem?_eq_some_iff.1 hm4).1).trans hm4
      have hr5 := (hba.block gx (Array.getElem?_eq_some_iff.1 hr4).1).trans hr4
      have hp5 := own_keepF hp4 hba
      have hk5 := own_keepF hk4 hba
      have hB5 := hB4.trans (But.of_below (R := fun _ => False) hba) (fun n h => h.elim)
      have hb15 := Nat.le_trans hb14 hba.size
      have hs35 := hB5.size
      have hseen : Sees (w5.alloc (.cells #[.int .i64 zk, .int .i64 zidx, .int .i64 zlen, .int .i64 zstp, .int .i64 zbnd, .bool zlst, .int .u32 zlnk, .int .i64 (N : Nat), .slice A P.length c, .int .u32 S, .int .i64 (s.at_ : Int)] 78)) (some ⟨w5.heap.size, 0, none⟩) (flatM [(⟨⟨zk, zidx, zlen, zstp, zbnd, zlst, zlnk, (N : Nat)⟩, A, c, P, S, s.at_⟩ : BlkM)]) := Sees.of_alloc _ _ _ rfl
      clear hba hm4 hr4 hp4 hk4 hB4 hb14
      go_simp
      generalize w5.heap.size = gn at *
      generalize w5.alloc (.cells #[.int .i64 zk, .int .i64 zidx, .int .i64 zlen, .int .i64 zstp, .int .i64 zbnd, .bool zlst, .int .u32 zlnk, .int .i64 (N : Nat), .slice A P.length c, .int .u32 S, .int .i64 (s.at_ : Int)] 78) = w6 at *
      have hSw6 : w6.cell? ⟨m, 12, none⟩ = some (.int .i64 (s.at_ : Int)) := by rw [cell_of_row _ _ _ _ _ _ hm5]; rfl
      refine hK.out _ _ ⟨hSw6, hr5⟩ (fun hHeld => ?_)
      clear hK K
      (try simp only [Act.put, List.setIfInBounds_toArray, List.set_cons_zero, List.set_cons_succ])
      clear hSw6
      refine wpAnyH_ready (rs := [5]) (by kernel_rfl) (by simp) (AllReadyH.cons rfl (fun K hK => ?_) AllReadyH.nil)
      rw [if_pos (by rfl)]
      have k20 : w6.cell? ⟨m, 20, none⟩ = some (.slice Ak L.length ck) := by rw [cell_of_row _ _ _ _ _ _ hm5]; rfl
      have hSw6 : w6.cell? ⟨m, 12, none⟩ = some (.int .i64 (s.at_ : Int)) := by rw [cell_of_row _ _ _ _ _ _ hm5]; rfl
      go_simp
      refine hK.out _ _ ⟨hSw6, hr5⟩ (fun hHeld => ?_)
      clear hK K
      (try simp only [Act.put, List.setIfInBounds_toArray, List.set_cons_zero, List.set_cons_succ])
      clear k20 hSw6
      refine wpAnyH_ready (rs := [15]) (by kernel_rfl) (by simp) (AllReadyH.cons rfl (fun K hK => ?_) AllReadyH.nil)
      rw [if_pos (by rfl)]
      refine wp_app (.tmp 45) (.tmp 54) _ rfl elK rfl hk5 (some ⟨gn, 0, none⟩) 1 1 rfl (flatM [(⟨⟨zk, zidx, zlen, zstp, zbnd, zlst, zlnk, (N : Nat)⟩, A, c, P, S, s.at_⟩ : BlkM)]) hseen (by rw [flatM_len]; rfl) (flatM_one _) (L.length + 1) rfl (flatM (L ++ [(⟨⟨zk, zidx, zlen, zstp, zbnd, zlst, zlnk, (N : Nat)⟩, A, c, P, S, s.at_⟩ : BlkM)])) (flatM_app _ _).symm (by have := HLL.out; unfold maxLen; omega) (by have := HLL.out; omega) hb15 ?_
      intro Ak2 ck2 w7 hk7 hgr hatk hbel
      have hB56 := But.of_grown hgr hbel
      have hm7 := (hB56.block m (Array.getElem?_eq_some_iff.1 hm5).1 (own_other hk5 hm5 (by decide))).trans hm5
      have hr7 := (hB56.block gx (Array.getElem?_eq_some_iff.1 hr5).1 (own_other hk5 hr5 (by decide))).trans hr5
      have hp7 := own_but hp5 hB56 (fun k hk => own_apart hp5 hk5 (by decide) k hk)
      have hB7 := hB5.trans hB56 (fun n h => .inl (.inr (.inr h)))
      have hmvk : Moved w3 (.slice Ak L.length ck) (.slice Ak2 (L.length + 1) ck2) := hatk.imp id (fun h => ⟨_, h, hs35⟩)
      clear hgr hatk hbel hB56 hB5 hm5 hr5 hp5 hk5 hseen hb15 hs35
      have hSw7 : w7.cell? ⟨m, 12, none⟩ = some (.int .i64 (s.at_ : Int)) := by rw [cell_of_row _ _ _ _ _ _ hm7]; rfl
      refine hK.out _ _ ⟨hSw7, hr7⟩ (fun hHeld => ?_)
      clear hK K
      (try simp only [Act.put, List.setIfInBounds_toArray])
      clear hSw7
      refine wpAnyH_takeD (i := 16) (d := some 56) (v := ?v234) rfl rfl (by kernel_rfl) (by kernel_rfl) (by kernel_rfl) (fun _ _ _ h => h) (Or.inl ⟨by rfl, ?hy234⟩) hHeld ?rest234
      case hy234 =>
        intro wS hS
        go_simp
        all_goals with_reducible rfl
      (try simp only [Act.put])
      refine wpAnyH_takeD (i := 17) (d := some 57) (v := ?v235) rfl rfl (by kernel_rfl) (by kernel_rfl) (by kernel_rfl) (fun _ _ _ h => h) (Or.inl ⟨by rfl, ?hy235⟩) hHeld ?rest235
      case hy235 =>
        intro wS hS
        go_simp
        all_goals with_reducible rfl
      (try simp only [Act.put])
      refine wpAnyH_takeD (i := 18) (d := some 58) (v := ?v236) rfl rfl (by kernel_rfl) (by kernel_rfl) (by kernel_rfl) (fun _ _ _ h => h) (Or.inl ⟨by rfl, ?hy236⟩) hHeld ?rest236
      case hy236 =>
        intro wS hS
        go_simp
        all_goals with_reducible rfl
      (try simp only [Act.put])
      refine wpAnyH_ready (rs := [19]) (by kernel_rfl) (by simp) (AllReadyH.cons rfl (fun K hK => ?_) AllReadyH.nil)
      rw [if_pos (by rfl)]
      have c20 : w7.cell? ⟨m, 20, none⟩ = some (.slice Ak L.length ck) := by rw [cell_of_row _ _ _ _ _ _ hm7]; rfl
      have f20 : w7.frozen? ⟨m, 20, none⟩ = false := frozen_of_row _ _ _ _ _ hm7
      have hm8 : (w7.setCell ⟨m, 20, none⟩ (.slice Ak2 (L.length + 1) ck2)).heap[m]? = some (.cells (RdCells g i Aq (s.pl.length + 1) cq (s.cnt + zlen) (decide (zlen < i.bl)) Ab b.length cb s.at_ i At nt ct Ak2 (L.length + 1) ck2 0 0 none 0 0) 56 (0, 0)) := heap_setCell_same w7 m 20 _ 56 (.slice Ak2 (L.length + 1) ck2) hm7
      have hr8 := (heap_setCell_other w7 ⟨m, 20, none⟩ gx (.slice Ak2 (L.length + 1) ck2) hgm).trans hr7
      have hp8 := own_but hp7 (but_cell m 20 (.slice Ak2 (L.length + 1) ck2)) (fun k hk hh => own_other hp7 hm7 (by decide) (by have h2 : k = m := hh; rw [← h2]; exact hk))
      have hk8 := own_but hk7 (but_cell m 20 (.slice Ak2 (L.length + 1) ck2)) (fun k hk hh => own_other hk7 hm7 (by decide) (by have h2 : k = m := hh; rw [← h2]; exact hk))
      have hB8 := hB7.trans (but_cell m 20 (.slice Ak2 (L.length + 1) ck2)) (fun n h => .inl (.inl h))
      clear hm7 hr7 hp7 hk7 hB7
      go_simp
      clear c20 f20
      generalize w7.setCell ⟨m, 20, none⟩ (.slice Ak2 (L.length + 1) ck2) = w8 at *
      have hSw8 : w8.cell? ⟨m, 12, none⟩ = some (.int .i64 (s.at_ : Int)) := by rw [cell_of_row _ _ _ _ _ _ hm8]; rfl
      refine hK.out _ _ ⟨hSw8, hr8⟩ (fun hHeld => ?_)
      clear hK K
      (try simp only [Act.put, List.setIfInBounds_toArray, List.set_cons_zero, List.set_cons_succ])
      clear hSw8
      refine wpAnyH_done (by kernel_rfl) ?_ _
      clear hHeld
      go_wp2_with fail
      refine wp_region_held_drew (S := fun W => W.heap[gx]? = some (.cells #[.int .i64 zk, .int .i64 zidx, .int .i64 zlen, .int .i64 zstp, .int .i64 zbnd, .bool zlst, .int .u32 zlnk, .int .i64 (N : Nat)] 67 (0, 0))) (by kernel_rfl) hr8 (fun hHeld => ?_)
      replace hm8 : w8.drew.heap[m]? = _ := hm8
      replace hr8 : w8.drew.heap[gx]? = _ := hr8
      replace hB8 : But (fun n => n = m ∨ (Value.slice Ap s.pl.length cp).ownBlock = some n ∨ (Value.slice Ak L.length ck).ownBlock = some n) w3 w8.drew := hB8.trans (But.of_below (R := fun _ => False) (Below.refl _ _).drew) (fun n h => h.elim)
      replace hp8 : w8.drew.ownsRow w1.heap.size 3 1 (.slice Aq (s.pl.length + 1) cq) (s.pl.length + 1) ((s.pl ++ [(s.at_ : Int)]).map intV) := hp8
      replace hk8 : w8.drew.ownsRow w1.heap.size 78 11 (.slice Ak2 (L.length + 1) ck2) (L.length + 1) (flatM (L ++ [(⟨⟨zk, zidx, zlen, zstp, zbnd, zlst, zlnk, (N : Nat)⟩, A, c, P, S, s.at_⟩ : BlkM)])) := hk8
      generalize w8.drew = w9 at *
      refine wpAnyH_takeD (i := 0) (d := some 59) (v := ?v237) rfl rfl (by kernel_rfl) (by kernel_rfl) (by kernel_rfl) (fun _ _ _ h => h) (Or.inl ⟨by rfl, ?hy237⟩) hHeld ?rest237
      case hy237 =>
        intro wS hS
        go_simp
        all_goals with_reducible rfl
      (try simp only [Act.put, List.setIfInBounds_toArray, List.set_cons_zero, List.set_cons_succ])
      refine wpAnyH_takeD (i := 1) (d := some 60) (v := ?v238) rfl rfl (by kernel_rfl) (by kernel_rfl) (by kernel_rfl) (fun _ _ _ h => h) (Or.inl ⟨by rfl, ?hy238⟩) hHeld ?rest238
      case hy238 =>
        intro wS hS
        go_simp
        all_goals with_reducible rfl
      (try simp only [Act.put, List.setIfInBounds_toArray, List.set_cons_zero, List.set_cons_succ])
      refine wpAnyH_takeD (i := 2) (d := some 61) (v := ?v239) rfl rfl (by kernel_rfl) (by kernel_rfl) (by kernel_rfl) (fun _ _ _ h => h) (Or.inl ⟨by rfl, ?hy239⟩) hHeld ?rest239
      case hy239 =>
        intro wS hS
        go_simp
        all_goals with_reducible rfl
      (try simp only [Act.put, List.setIfInBounds_toArray, List.set_cons_zero, List.set_cons_succ])
      refine wpAnyH_takeD (i := 4) (d := some 63) (v := .agg #[.int .i64 zk, .int .i64 zidx, .int .i64 zlen, .int .i64 zstp, .int .i64 zbnd, .bool zlst, .int .u32 zlnk, .int .i64 (N : Nat)]) rfl rfl (by kernel_rfl) (by kernel_rfl) (by kernel_rfl) (fun _ _ _ h => h) (Or.inl ⟨by rfl, ?hy240⟩) hHeld ?rest240
      case hy240 =>
        intro wS hS
        exact run_load_rowop 67 (.tmp 3) rfl gx (by rfl) #[.int .i64 zk, .int .i64 zidx, .int .i64 zlen, .int .i64 zstp, .int .i64 zbnd, .bool zlst, .int .u32 zlnk, .int .i64 (N : Nat)] _ _ hS _ Tryz.underlying67 rfl (by kernel_rfl)
      (try simp only [Act.put, List.setIfInBounds_toArray, List.set_cons_zero, List.set_cons_succ])
      refine wpAnyH_ready (rs := [3, 5]) (by kernel_rfl) (by simp) (AllReadyH.cons rfl (fun K hK => ?_) (AllReadyH.cons rfl (fun K hK => ?_) AllReadyH.nil))
      · rw [if_pos (by rfl)]
        have k12 : w9.cell? ⟨m, 12, none⟩ = some (.int .i64 (s.at_ : Int)) := by rw [cell_of_row _ _ _ _ _ _ hm8]; rfl
        go_simp
        refine hK.out _ _ hr8 (fun hHeld => ?_)
        clear hK K
        (try simp only [Act.put, List.setIfInBounds_toArray, List.set_cons_zero, List.set_cons_succ])
        clear k12
        refine wpAnyH_ready (rs := [5]) (by kernel_rfl) (by simp) (AllReadyH.cons rfl (fun K hK => ?_) AllReadyH.nil)
        rw [if_pos (by rfl)]
        go_simp
        refine (HLG.out w9).mono ?_
        rintro e w10 ⟨rfl, hb10⟩
        have hm10 := (hb10.block m (Array.getElem?_eq_some_iff.1 hm8).1).trans hm8
        have hr10 := (hb10.block gx (Array.getElem?_eq_some_iff.1 hr8).1).trans hr8
        have hp10 := own_keepF hp8 hb10
        have hk10 := own_keepF hk8 hb10
        have hB10 := hB8.trans (But.of_below (R := fun _ => False) hb10) (fun n h => h.elim)
        clear hb10 hm8 hr8 hp8 hk8 hB8 HLG
        go_wp2_with fail
        refine hK.out _ _ hr10 (fun hHeld => ?_)
        clear hK K
        (try simp only [Act.put, List.setIfInBounds_toArray, List.set_cons_zero, List.set_cons_succ])
        refine wpAnyH_takeD (i := 6) (d := some 65) (v := .int .i64 ((s.at_ : Int) + (36 + (N : Int)))) rfl rfl (by kernel_rfl) (by kernel_rfl) (by kernel_rfl) (fun _ _ _ h => h) (Or.inl ⟨by rfl, ?hy241⟩) hHeld ?rest241
        case hy241 =>
          intro wS hS
          go_simp
          all_goals with_reducible rfl
        (try simp only [Act.put, List.setIfInBounds_toArray, List.set_cons_zero, List.set_cons_succ])
        refine wpAnyH_takeD (i := 7) (d := some 66) (v := ?v242) rfl rfl (by kernel_rfl) (by kernel_rfl) (by kernel_rfl) (fun _ _ _ h => h) (Or.inl ⟨by rfl, ?hy242⟩) hHeld ?rest242
        case hy242 =>
          intro wS hS
          go_simp
          all_goals with_reducible rfl
        (try simp only [Act.put, List.setIfInBounds_toArray, List.set_cons_zero, List.set_cons_succ])
        refine wpAnyH_takeD (i := 8) (d := some 67) (v := ?v243) rfl rfl (by kernel_rfl) (by kernel_rfl) (by kernel_rfl) (fun _ _ _ h => h) (Or.inl ⟨by rfl, ?hy243⟩) hHeld ?rest243
        case hy243 =>
          intro wS hS
          go_simp
          all_goals with_reducible rfl
        (try simp only [Act.put, List.setIfInBounds_toArray, List.set_cons_zero, List.set_cons_succ])
        refine wpAnyH_ready (rs := [9]) (by kernel_rfl) (by simp) (AllReadyH.cons rfl (fun K hK => ?_) AllReadyH.nil)
        rw [if_pos (by rfl)]
        have c12 : w10.cell? ⟨m, 12, none⟩ = some (.int .i64 (s.at_ : Int)) := by rw [cell_of_row _ _ _ _ _ _ hm10]; rfl
        have f12 : w10.frozen? ⟨m, 12, none⟩ = false := frozen_of_row _ _ _ _ _ hm10
        have hm11 : (w10.setCell ⟨m, 12, none⟩ (.int .i64 ((s.at_ : Int) + (36 + (N : Int))))).heap[m]? = some (.cells (RdCells g i Aq (s.pl.length + 1) cq (s.cnt + zlen) (decide (zlen < i.bl)) Ab b.length cb (s.at_ + (36 + N)) i At nt ct Ak2 (L.length + 1) ck2 0 0 none 0 0) 56 (0, 0)) := heap_setCell_same w10 m 12 _ 56 (.int .i64 ((s.at_ : Int) + (36 + (N : Int)))) hm10
        have hr11 := (heap_setCell_other w10 ⟨m, 12, none⟩ gx (.int .i64 ((s.at_ : Int) + (36 + (N : Int)))) hgm).trans hr10
        have hp11 := own_but hp10 (but_cell m 12 (.int .i64 ((s.at_ : Int) + (36 + (N : Int))))) (fun k hk hh => own_other hp10 hm10 (by decide) (by have h2 : k = m := hh; rw [← h2]; exact hk))
        have hk11 := own_but hk10 (but_cell m 12 (.int .i64 ((s.at_ : Int) + (36 + (N : Int))))) (fun k hk hh => own_other hk10 hm10 (by decide) (by have h2 : k = m := hh; rw [← h2]; exact hk))
        have hB11 := hB10.trans (but_cell m 12 (.int .i64 ((s.at_ : Int) + (36 + (N : Int))))) (fun n h => .inl (.inl h))
        clear hm10 hr10 hp10 hk10 hB10
        go_simp
        clear c12 f12
        generalize w10.setCell ⟨m, 12, none⟩ (.int .i64 ((s.at_ : Int) + (36 + (N : Int)))) = w11 at *
        refine hK.out _ _ hr11 (fun hHeld => ?_)
        clear hK K
        (try simp only [Act.put, List.setIfInBounds_toArray, List.set_cons_zero, List.set_cons_succ])
        refine wpAnyH_done (by kernel_rfl) ?_ _
        have hHF := HFIN.out Aq cq Ak2 ck2 w11 hm11 hp11 hk11 hB11 hmvp hmvk
        clear hm11 hr11 hp11 hk11 hB11 hmvp hmvk hHeld HFIN
        go_wp2_with fail
        go_ret
        exact hHF
      · rw [if_pos (by rfl)]
        go_simp
        refine (HLG.out w9).mono ?_
        rintro e w10 ⟨rfl, hb10⟩
        have hm10 := (hb10.block m (Array.getElem?_eq_some_iff.1 hm8).1).trans hm8
        have hr10 := (hb10.block gx (Array.getElem?_eq_some_iff.1 hr8).1).trans hr8
        have hp10 := own_keepF hp8 hb10
        have hk10 := own_keepF hk8 hb10
        have hB10 := hB8.trans (But.of_below (R := fun _ => False) hb10) (fun n h => h.elim)
        clear hb10 hm8 hr8 hp8 hk8 hB8 HLG
        go_wp2_with fail
        refine hK.out _ _ hr10 (fun hHeld => ?_)
        clear hK K
        (try simp only [Act.put, List.setIfInBounds_toArray, List.set_cons_zero, List.set_cons_succ])
        refine wpAnyH_ready (rs := [3]) (by kernel_rfl) (by simp) (AllReadyH.cons rfl (fun K hK => ?_) AllReadyH.nil)
        rw [if_pos (by rfl)]
        have k12 : w10.cell? ⟨m, 12, none⟩ = some (.int .i64 (s.at_ : Int)) := by rw [cell_of_row _ _ _ _ _ _ hm10]; rfl
        go_simp
        refine hK.out _ _ hr10 (fun hHeld => ?_)
        clear hK K
        (try simp only [Act.put, List.setIfInBounds_toArray, List.set_cons_zero, List.set_cons_succ])
        clear k12
        refine wpAnyH_takeD (i := 6) (d := some 65) (v := .int .i64 ((s.at_ : Int) + (36 + (N : Int)))) rfl rfl (by kernel_rfl) (by kernel_rfl) (by kernel_rfl) (fun _ _ _ h => h) (Or.inl ⟨by rfl, ?hy244⟩) hHeld ?rest244
        case hy244 =>
          intro wS hS
          go_simp
          all_goals with_reducible rfl
        (try simp only [Act.put, List.setIfInBounds_toArray, List.set_cons_zero, List.set_cons_succ])
        refine wpAnyH_takeD (i := 7) (d := some 66) (v := ?v245) rfl rfl (by kernel_rfl) (by kernel_rfl) (by kernel_rfl) (fun _ _ _ h => h) (Or.inl ⟨by rfl, ?hy245⟩) hHeld ?rest245
        case hy245 =>
          intro wS hS
          go_simp
          all_goals with_reducible rfl
        (try simp only [Act.put, List.setIfInBounds_toArray, List.set_cons_zero, List.set_cons_succ])
        refine wpAnyH_takeD (i := 8) (d := some 67) (v := ?v246) rfl rfl (by kernel_rfl) (by kernel_rfl) (by kernel_rfl) (fun _ _ _ h => h) (Or.inl ⟨by rfl, ?hy246⟩) hHeld ?rest246
        case hy246 =>
          intro wS hS
          go_simp
          all_goals with_reducible rfl
        (try simp only [Act.put, List.setIfInBounds_toArray, List.set_cons_zero, List.set_cons_succ])
        refine wpAnyH_ready (rs := [9]) (by kernel_rfl) (by simp) (AllReadyH.cons rfl (fun K hK => ?_) AllReadyH.nil)
        rw [if_pos (by rfl)]
        have c12 : w10.cell? ⟨m, 12, none⟩ = some (.int .i64 (s.at_ : Int)) := by rw [cell_of_row _ _ _ _ _ _ hm10]; rfl
        have f12 : w10.frozen? ⟨m, 12, none⟩ = false := frozen_of_row _ _ _ _ _ hm10
        have hm11 : (w10.setCell ⟨m, 12, none⟩ (.int .i64 ((s.at_ : Int) + (36 + (N : Int))))).heap[m]? = some (.cells (RdCells g i Aq (s.pl.length + 1) cq (s.cnt + zlen) (decide (zlen < i.bl)) Ab b.length cb (s.at_ + (36 + N)) i At nt ct Ak2 (L.length + 1) ck2 0 0 none 0 0) 56 (0, 0)) := heap_setCell_same w10 m 12 _ 56 (.int .i64 ((s.at_ : Int) + (36 + (N : Int)))) hm10
        have hr11 := (heap_setCell_other w10 ⟨m, 12, none⟩ gx (.int .i64 ((s.at_ : Int) + (36 + (N : Int)))) hgm).trans hr10
        have hp11 := own_but hp10 (but_cell m 12 (.int .i64 ((s.at_ : Int) + (36 + (N : Int))))) (fun k hk hh => own_other hp10 hm10 (by decide) (by have h2 : k = m := hh; rw [← h2]; exact hk))
        have hk11 := own_but hk10 (but_cell m 12 (.int .i64 ((s.at_ : Int) + (36 + (N : Int))))) (fun k hk hh => own_other hk10 hm10 (by decide) (by have h2 : k = m := hh; rw [← h2]; exact hk))
        have hB11 := hB10.trans (but_cell m 12 (.int .i64 ((s.at_ : Int) + (36 + (N : Int))))) (fun n h => .inl (.inl h))
        clear hm10 hr10 hp10 hk10 hB10
        go_simp
        clear c12 f12
        generalize w10.setCell ⟨m, 12, none⟩ (.int .i64 ((s.at_ : Int) + (36 + (N : Int)))) = w11 at *
        refine hK.out _ _ hr11 (fun hHeld => ?_)
        clear hK K
        (try simp only [Act.put, List.setIfInBounds_toArray, List.set_cons_zero, List.set_cons_succ])
        refine wpAnyH_done (by kernel_rfl) ?_ _
        have hHF := HFIN.out Aq cq Ak2 ck2 w11 hm11 hp11 hk11 hB11 hmvp hmvk
        clear hm11 hr11 hp11 hk11 hB11 hmvp hmvk hHeld HFIN
        go_wp2_with fail
        go_ret
        exact hHF
theorem block_any (m g : Nat) (i : InfoV) (Ab : Option Addr) (cb : Nat) (b : List UInt8) (At : Option Addr) (nt ct : Nat) (s : PS) (L : List BlkM) (w0 w1 w : World) (hR : Rdr w0 w1 w m g i Ab cb b At nt ct s L) (hs : s.ok b) (hB : Base w0 g Ab cb b) (hbm : w0.heap.size ≤ m) (hbi : 8 ≤ i.bi ∧ i.bi ≤ 24) (hw1 : w0.heap.size ≤ w1.heap.size) :
    Calls Tryz.prog 14 #[.pointer (some ⟨m, 0, none⟩)] w (BlkPost w0 w1 m g i Ab cb b At nt ct s L) := by
  by_cases h1 : b.length ≤ s.at_
  · exact block_end m g i Ab cb b At nt ct s L w0 w1 w hR hs hB hbm hbi h1
  · by_cases h2 : (openH (b.drop s.at_)).1 = 0
    · by_cases h3 : nextE i (openH (b.drop s.at_)).2.1 s.pl.length s.short = 0
      · exact block_ok m g i Ab cb b At nt ct s L w0 w1 w hR hs hB hbm hbi hw1 (by omega) h2 h3
      · exact block_next m g i Ab cb b At nt ct s L w0 w1 w hR hs hB hbm hbi (by omega) h2 h3
    · exact block_open m g i Ab cb b At nt ct s L w0 w1 w hR hs hB hbm hbi (by omega) h2
end Go.Proofs.YtkmhmehofipehaaGreatDoor
