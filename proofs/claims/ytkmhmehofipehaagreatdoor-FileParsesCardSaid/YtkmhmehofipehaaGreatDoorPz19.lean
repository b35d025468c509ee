/- A file read: its end. -/
import Derived.Test.YtkmhmehofipehaaGreatDoorPz15
import Derived.Test.YtkmhmehofipehaaGreatDoorPz18
import Derived.Deep.DeepCutAuto
namespace Go.Proofs.YtkmhmehofipehaaGreatDoor
set_option linter.unusedVariables false
open Go.RowKit
/-- a reader that has read all -/
def EndPost (w0 w1 : World) (m g : Nat) (i : InfoV) (b : List UInt8) (At : Option Addr) (nt ct : Nat) (s : PS) (L : List BlkM) (e : Ending) (w' : World) : Prop :=
  e = .returned (.int .i64 (tailE b s)) ∧ Below w0.heap.size w0 w' ∧ (tailE b s = 0 → ∃ (Ap : Option Addr) (cp : Nat) (Ak : Option Addr) (ck : Nat) (Ax : Option Addr) (cx : Nat) (Ab : Option Addr) (cb p : Nat),
    w'.heap[m]? = some (.cells (RdCells g i Ap s.pl.length cp s.cnt s.short Ab b.length cb p i At nt ct Ak L.length ck (getT (b.drop s.at_)).2.2.1 (getT (b.drop s.at_)).2.2.2.1 Ax (getT (b.drop s.at_)).2.2.2.2.length cx) 56 (0, 0)) ∧
    Sees w' Ak (flatM L) ∧ (∀ x ∈ L, SeesB w' x.A x.p ∧ x.p.length ≤ x.c ∧ x.c ≤ maxLen) ∧ SeesI w' Ax (getT (b.drop s.at_)).2.2.2.2 ∧ (getT (b.drop s.at_)).2.2.2.2.length ≤ cx ∧ cx ≤ maxLen ∧ L.length ≤ ck ∧ ck ≤ maxLen ∧ But (fun n => n = m ∨ w1.heap.size ≤ n) w1 w' ∧ (∀ a, Ak = some a → w0.heap.size ≤ a.block) ∧ (∀ a, Ax = some a → w0.heap.size ≤ a.block))
theorem getT_range (b : List UInt8) : 0 ≤ (getT b).2.1 ∧ (getT b).2.1 ≤ b.length := by
  by_cases h : (getT b).1 = 0
  · obtain ⟨N, c, s, h1, _, _, h2, _⟩ := put_getT b h
    rw [h1]
    exact ⟨by simp only; omega, by simp only; omega⟩
  · unfold getT at h ⊢
    split
    · simp
    · split
      · simp
      · split
        · simp
        · split
          · simp
          · split
            · simp
            · split
              · simp
              · rename_i h1 h2 h3 h4 h5 h6
                rw [if_neg h1, if_neg h2, if_neg h3, if_neg h4, if_neg h5, if_neg h6] at h
                exact absurd rfl h
theorem getT_few (b : List UInt8) : (getT b).2.2.2.2.length ≤ 16777216 := by
  by_cases h : (getT b).1 = 0
  · obtain ⟨N, c, s, h1, _, _, _, h2, _⟩ := put_getT b h
    rw [h1]
    simp only [plcT_len]
    exact h2
  · unfold getT at h ⊢
    split
    · simp
    · split
      · simp
      · split
        · simp
        · split
          · simp
          · split
            · simp
            · split
              · simp
              · rename_i h1 h2 h3 h4 h5 h6
                rw [if_neg h1, if_neg h2, if_neg h3, if_neg h4, if_neg h5, if_neg h6] at h
                exact absurd rfl h
/-- a slice that is seen, made of one's own: where it is empty, no address matters -/
theorem own_hi {w : World} {A : Option Addr} {l : List Int} (h : SeesI w A l) : l ≠ [] → ∀ a, A = some a → a.block < w.heap.size := fun hl a ha => Sees.lt h (by intro h2; exact hl (by simpa using h2)) ha
theorem SeesI.but {w w' : World} {A : Option Addr} {l : List Int} {R : Nat → Prop} (h : SeesI w A l) (hb : But R w w') (hR : l ≠ [] → ∀ a, A = some a → ¬ R a.block) : SeesI w' A l := by
  by_cases hl : l = []
  · subst hl; exact Sees.nil _ _
  · intro i v hv
    obtain ⟨a, ha, hc⟩ := h i v hv
    refine ⟨a, ha, (World.cell?_of_block (w := w) (hb.block _ (block_lt_of_cell hc) ?_)).trans hc⟩
    rw [addr_block]; exact hR hl a ha
set_option maxRecDepth 20000 in
set_option maxHeartbeats 8000000 in
theorem end_err (m g : Nat) (i : InfoV) (Ab : Option Addr) (cb : Nat) (b : List UInt8) (At : Option Addr) (nt ct : Nat) (s : PS) (L : List BlkM) (w0 w1 w : World) (hR : Rdr w0 w1 w m g i Ab cb b At nt ct s L) (hs : s.ok b) (hB : Base w0 g Ab cb b) (hbm : w0.heap.size ≤ m) (he : (getT (b.drop s.at_)).1 ≠ 0) :
    Calls Tryz.prog 15 #[.pointer (some ⟨m, 0, none⟩)] w (EndPost w0 w1 m g i b At nt ct s L) := by
  have hpl1 : s.pl.length ≤ 100000 := by have h1 := hs.at36; have h2 := hs.at_; have h3 := hB.len; clear he; omega
  have HPL2 := hid hpl1
  clear hpl1
  obtain ⟨Ap, cp, Ak, ck, hm, hp, hk, hpay, hbl, hw, hbut⟩ := hR
  have hat := hs.at_
  have HRS := hid (fun W (hW : W.heap[m]? = some (.cells (RdCells g i Ap s.pl.length cp s.cnt s.short Ab b.length cb s.at_ i At nt ct Ak L.length ck 0 0 none 0 0) 56 (0, 0))) (hb : Below w0.heap.size w0 W) => rest_any m _ 56 Ab cb s.at_ b W hW rfl rfl (hB.sees.below hb) hB.cap.1 hB.cap.2 hat)
  have hdl : (b.drop s.at_).length = b.length - s.at_ := List.length_drop
  have hlen := hB.len
  have HTG := hid (fun A c W (hb : Below w0.heap.size w0 W) hs h1 h2 => tgetF_any g A c (b.drop s.at_) W (hB.tab.keep hb hB.tab.lt) hs h1 h2 (by rw [hdl]; omega))
  have hTr := getT_range (b.drop s.at_)
  have hTf := getT_few (b.drop s.at_)
  obtain ⟨⟨E, tn, tc, ts, tp⟩, hr⟩ : ∃ r, getT (b.drop s.at_) = r := ⟨_, rfl⟩
  rw [hr] at HTG he hTr hTf
  simp only at he hTr hTf
  unfold GetTPostF at HTG
  simp only at HTG
  rw [hdl] at hTr
  have HE := hid (show tailE b s = E by unfold tailE; rw [hr, if_pos he])
  have hE1 := hid he
  have dE : (E != 0) = true := by simpa using he
  have HM := hid hm
  generalize b.drop s.at_ = bd at *
  clear hs hB hdl hp hk hpay hbl hbut he hat hlen hr hTr hTf
  go_enter Tryz.func15, Tryz.ntmps15
  go_upto_region 1 with fail
  go_cut [3, 4, 5] (fun x y q wx => ∃ gx A c, x = .pointer (some ⟨gx, 0, none⟩) ∧ y = .int .i64 tn ∧ q = .int .i64 E ∧ wx.heap[gx]? = some (.cells #[.int .i64 tc, .int .u32 ts, .slice A tp.length c] 33 (0, 0)) ∧ w.heap.size ≤ gx ∧ SeesI wx A tp ∧ tp.length ≤ c ∧ c ≤ maxLen ∧ (∀ a, A = some a → w.heap.size ≤ a.block ∧ (tp ≠ [] → a.block ≠ gx)) ∧ Below w.heap.size w wx)
  case first =>
    refine wp_region_held_drew (S := fun W => W.heap[m]? = some (.cells (RdCells g i Ap s.pl.length cp s.cnt s.short Ab b.length cb s.at_ i At nt ct Ak L.length ck 0 0 none 0 0) 56 (0, 0))) (by kernel_rfl) hm (fun hHeld => ?_)
    have hb0 : Below w.heap.size w w.drew := (Below.refl _ _).drew
    have hmlt : m < w.heap.size := (Array.getElem?_eq_some_iff.1 hm).1
    replace hm : w.drew.heap[m]? = _ := hm
    generalize w.drew = wd at *
    refine wpAnyH_takeD (i := 0) (d := some 7) (v := ?v100) rfl rfl (by kernel_rfl) (by kernel_rfl) (by kernel_rfl) (fun _ _ _ h => h) (Or.inl ⟨by rfl, ?hy100⟩) hHeld ?rest100
    case hy100 =>
      intro wS hS
      go_simp
      all_goals with_reducible rfl
    (try simp only [Act.put, List.setIfInBounds_toArray, List.set_cons_zero, List.set_cons_succ])
    refine wpAnyH_takeD (i := 1) (d := some 8) (v := ?v101) rfl rfl (by kernel_rfl) (by kernel_rfl) (by kernel_rfl) (fun _ _ _ h => h) (Or.inl ⟨by rfl, ?hy101⟩) hHeld ?rest101
    case hy101 =>
      intro wS hS
      go_simp
      all_goals with_reducible rfl
    (try simp only [Act.put, List.setIfInBounds_toArray, List.set_cons_zero, List.set_cons_succ])
    refine wpAnyH_takeD (i := 2) (d := some 9) (v := ?v102) rfl rfl (by kernel_rfl) (by kernel_rfl) (by kernel_rfl) (fun _ _ _ h => h) (Or.inl ⟨by rfl, ?hy102⟩) hHeld ?rest102
    case hy102 =>
      intro wS hS
      go_simp
      all_goals with_reducible rfl
    (try simp only [Act.put, List.setIfInBounds_toArray, List.set_cons_zero, List.set_cons_succ])
    refine wpAnyH_takeD (i := 3) (d := some 10) (v := ?v103) rfl rfl (by kernel_rfl) (by kernel_rfl) (by kernel_rfl) (fun _ _ _ h => h) (Or.inl ⟨by rfl, ?hy103⟩) hHeld ?rest103
    case hy103 =>
      intro wS hS
      go_simp
      all_goals with_reducible rfl
    (try simp only [Act.put, List.setIfInBounds_toArray, List.set_cons_zero, List.set_cons_succ])
    refine wpAnyH_takeD (i := 4) (d := some 11) (v := ?v104) rfl rfl (by kernel_rfl) (by kernel_rfl) (by kernel_rfl) (fun _ _ _ h => h) (Or.inl ⟨by rfl, ?hy104⟩) hHeld ?rest104
    case hy104 =>
      intro wS hS
      have k0 : wS.cell? ⟨m, 0, none⟩ = some (.pointer (some ⟨g, 0, none⟩)) := by rw [cell_of_row _ _ _ _ _ _ hS]; rfl
      go_simp
      all_goals with_reducible rfl
    (try simp only [Act.put, List.setIfInBounds_toArray, List.set_cons_zero, List.set_cons_succ])
    refine wpAnyH_takeD (i := 5) (d := some 12) (v := ?v105) rfl rfl (by kernel_rfl) (by kernel_rfl) (by kernel_rfl) (fun _ _ _ h => h) (Or.inl ⟨by rfl, ?hy105⟩) hHeld ?rest105
    case hy105 =>
      intro wS hS
      go_simp
      all_goals with_reducible rfl
    (try simp only [Act.put, List.setIfInBounds_toArray, List.set_cons_zero, List.set_cons_succ])
    refine wpAnyH_ready (rs := [6, 12]) (by kernel_rfl) (by simp) (AllReadyH.cons rfl (fun K hK => ?_) (AllReadyH.cons rfl (fun K hK => ?_) AllReadyH.nil))
    · rw [if_pos (by rfl)]
      go_simp
      refine (HRS.out wd hm (hw.trans (hb0.mono hw.size))).mono ?_
      rintro e x1c ⟨Ar, cr, rfl, hsr, hlr, hcr, hbc⟩
      have hmx1c := (hbc.block m (Nat.lt_of_lt_of_le hmlt hb0.size)).trans hm
      have hbx1c := hb0.trans (hbc.mono hb0.size)
      clear hbc
      go_wp2_with fail
      refine hK.out _ _ hmx1c (fun hHeld => ?_)
      clear hK K
      (try simp only [Act.put, List.setIfInBounds_toArray, List.set_cons_zero, List.set_cons_succ])
      refine wpAnyH_ready (rs := [7, 12]) (by kernel_rfl) (by simp) (AllReadyH.cons rfl (fun K hK => ?_) (AllReadyH.cons rfl (fun K hK => ?_) AllReadyH.nil))
      · rw [if_pos (by rfl)]
        go_simp
        refine (HTG.out Ar cr x1c (hw.trans (hbx1c.mono hw.size)) hsr hlr hcr).mono ?_
        rintro e x2c ⟨A, c, rfl, hsa, hca, hcma, hbc, hfa⟩
        have hmx2c := (hbc.block m (Nat.lt_of_lt_of_le hmlt hbx1c.size)).trans hmx1c
        have hbx2c := hbx1c.trans (hbc.mono hbx1c.size)
        have hfl := own_hi hsa
        replace hfa : ∀ a, A = some a → w.heap.size ≤ a.block := fun a ha => Nat.le_trans hbx1c.size (hfa a ha)
        clear hbc
        go_wp2_with fail
        refine hK.out _ _ hmx2c (fun hHeld => ?_)
        clear hK K
        (try simp only [Act.put, List.setIfInBounds_toArray, List.set_cons_zero, List.set_cons_succ])
        refine wpAnyH_takeD (i := 8) (d := some 6) (v := ?v106) rfl rfl (by kernel_rfl) (by kernel_rfl) (by kernel_rfl) (fun _ _ _ h => h) (Or.inl ⟨by rfl, ?hy106⟩) hHeld ?rest106
        case hy106 =>
          intro wS hS
          go_simp
          all_goals with_reducible rfl
        (try simp only [Act.put, List.setIfInBounds_toArray, List.set_cons_zero, List.set_cons_succ])
        refine wpAnyH_takeD (i := 9) (d := some 15) (v := ?v107) rfl rfl (by kernel_rfl) (by kernel_rfl) (by kernel_rfl) (fun _ _ _ h => h) (Or.inl ⟨by rfl, ?hy107⟩) hHeld ?rest107
        case hy107 =>
          intro wS hS
          go_simp
          all_goals with_reducible rfl
        (try simp only [Act.put, List.setIfInBounds_toArray, List.set_cons_zero, List.set_cons_succ])
        refine wpAnyH_takeD (i := 10) (d := some 16) (v := ?v108) rfl rfl (by kernel_rfl) (by kernel_rfl) (by kernel_rfl) (fun _ _ _ h => h) (Or.inl ⟨by rfl, ?hy108⟩) hHeld ?rest108
        case hy108 =>
          intro wS hS
          go_simp
          all_goals with_reducible rfl
        (try simp only [Act.put, List.setIfInBounds_toArray, List.set_cons_zero, List.set_cons_succ])
        refine wpAnyH_takeD (i := 11) (d := some 17) (v := ?v109) rfl rfl (by kernel_rfl) (by kernel_rfl) (by kernel_rfl) (fun _ _ _ h => h) (Or.inl ⟨by rfl, ?hy109⟩) hHeld ?rest109
        case hy109 =>
          intro wS hS
          go_simp
          all_goals with_reducible rfl
        (try simp only [Act.put, List.setIfInBounds_toArray, List.set_cons_zero, List.set_cons_succ])
        refine wpAnyH_ready (rs := [12]) (by kernel_rfl) (by simp) (AllReadyH.cons rfl (fun K hK => ?_) AllReadyH.nil)
        rw [if_pos (by rfl)]
        have hba : Below x2c.heap.size x2c (x2c.alloc (.cells #[.int .i64 0, .int .u32 0, .slice none 0 0] 33)) := (Below.refl _ _).alloc (Nat.le_refl _) _
        have hra := heap_alloc_new x2c (.cells #[.int .i64 0, .int .u32 0, .slice none 0 0] 33)
        have hbx3a := hbx2c.trans (hba.mono hbx2c.size)
        have hmx3a := (hba.block m (Nat.lt_of_lt_of_le hmlt hbx2c.size)).trans hmx2c
        have hga := hbx2c.size
        replace hfa : ∀ a, A = some a → w.heap.size ≤ a.block ∧ (tp ≠ [] → a.block ≠ x2c.heap.size) := fun a ha => ⟨hfa a ha, fun hl => by have := hfl hl a ha; omega⟩
        replace hsa := SeesI.below hsa hba
        clear hfl
        clear hba
        go_simp
        generalize x2c.heap.size = gx at *
        generalize x2c.alloc (.cells #[.int .i64 0, .int .u32 0, .slice none 0 0] 33) = x3a at *
        refine hK.out _ _ hmx3a (fun hHeld => ?_)
        clear hK K
        (try simp only [Act.put, List.setIfInBounds_toArray, List.set_cons_zero, List.set_cons_succ])
        refine wpAnyH_ready (rs := [13]) (by kernel_rfl) (by simp) (AllReadyH.cons rfl (fun K hK => ?_) AllReadyH.nil)
        rw [if_pos (by rfl)]
        refine wp_store_row 33 (.tmp 3) (.tmp 15) rfl rfl gx rfl #[.int .i64 tc, .int .u32 ts, .slice A tp.length c] rfl 33 #[.int .i64 0, .int .u32 0, .slice none 0 0] hra (by kernel_rfl) rfl (by simp [Value.oneCell']) ?_
        have hrS := setRow_heap _ gx _ #[.int .i64 tc, .int .u32 ts, .slice A tp.length c] _ _ hra
        have hmS := (setRow_other x3a gx m #[.int .i64 tc, .int .u32 ts, .slice A tp.length c] (by omega)).trans hmx3a
        have hbS := below_setRow hbx3a hga #[.int .i64 tc, .int .u32 ts, .slice A tp.length c]
        have hsS := SeesI.but hsa (but_row gx #[.int .i64 tc, .int .u32 ts, .slice A tp.length c]) (fun hl a ha h => (hfa a ha).2 hl h)
        refine hK.out _ _ hmS (fun hHeld => ?_)
        clear hK K
        (try simp only [Act.put, List.setIfInBounds_toArray, List.set_cons_zero, List.set_cons_succ])
        refine wpAnyH_takeD (i := 14) (d := some 4) (v := ?v110) rfl rfl (by kernel_rfl) (by kernel_rfl) (by kernel_rfl) (fun _ _ _ h => h) (Or.inl ⟨by rfl, ?hy110⟩) hHeld ?rest110
        case hy110 =>
          intro wS hS
          go_simp
          all_goals with_reducible rfl
        (try simp only [Act.put, List.setIfInBounds_toArray, List.set_cons_zero, List.set_cons_succ])
        refine wpAnyH_takeD (i := 15) (d := some 5) (v := ?v111) rfl rfl (by kernel_rfl) (by kernel_rfl) (by kernel_rfl) (fun _ _ _ h => h) (Or.inl ⟨by rfl, ?hy111⟩) hHeld ?rest111
        case hy111 =>
          intro wS hS
          go_simp
          all_goals with_reducible rfl
        (try simp only [Act.put, List.setIfInBounds_toArray, List.set_cons_zero, List.set_cons_succ])
        refine wpAnyH_done (by kernel_rfl) ?_ _
        go_wp2_with fail
        go_meet
        exact ⟨gx, A, c, rfl, rfl, rfl, hrS, hga, hsS, hca, hcma, hfa, hbS⟩
      · rw [if_pos (by rfl)]
        have hba : Below x1c.heap.size x1c (x1c.alloc (.cells #[.int .i64 0, .int .u32 0, .slice none 0 0] 33)) := (Below.refl _ _).alloc (Nat.le_refl _) _
        have hra := heap_alloc_new x1c (.cells #[.int .i64 0, .int .u32 0, .slice none 0 0] 33)
        have hbx2a := hbx1c.trans (hba.mono hbx1c.size)
        have hmx2a := (hba.block m (Nat.lt_of_lt_of_le hmlt hbx1c.size)).trans hmx1c
        have hga := hbx1c.size
        replace hsr := hsr.below hba
        clear hba
        go_simp
        generalize x1c.heap.size = gx at *
        generalize x1c.alloc (.cells #[.int .i64 0, .int .u32 0, .slice none 0 0] 33) = x2a at *
        refine hK.out _ _ hmx2a (fun hHeld => ?_)
        clear hK K
        (try simp only [Act.put, List.setIfInBounds_toArray, List.set_cons_zero, List.set_cons_succ])
        refine wpAnyH_ready (rs := [7]) (by kernel_rfl) (by simp) (AllReadyH.cons rfl (fun K hK => ?_) AllReadyH.nil)
        rw [if_pos (by rfl)]
        go_simp
        refine (HTG.out Ar cr x2a (hw.trans (hbx2a.mono hw.size)) hsr hlr hcr).mono ?_
        rintro e x5c ⟨A, c, rfl, hsa, hca, hcma, hbc, hfa⟩
        have hmx5c := (hbc.block m (Nat.lt_of_lt_of_le hmlt hbx2a.size)).trans hmx2a
        have hbx5c := hbx2a.trans (hbc.mono hbx2a.size)
        have hrx5c := (hbc.block gx (Array.getElem?_eq_some_iff.1 hra).1).trans hra
        replace hfa : ∀ a, A = some a → w.heap.size ≤ a.block ∧ (tp ≠ [] → a.block ≠ gx) := fun a ha => ⟨Nat.le_trans hbx2a.size (hfa a ha), fun _ => by have h1 := hfa a ha; have h2 := (Array.getElem?_eq_some_iff.1 hra).1; omega⟩
        clear hbc
        go_wp2_with fail
        refine hK.out _ _ hmx5c (fun hHeld => ?_)
        clear hK K
        (try simp only [Act.put, List.setIfInBounds_toArray, List.set_cons_zero, List.set_cons_succ])
        refine wpAnyH_takeD (i := 8) (d := some 6) (v := ?v112) rfl rfl (by kernel_rfl) (by kernel_rfl) (by kernel_rfl) (fun _ _ _ h => h) (Or.inl ⟨by rfl, ?hy112⟩) hHeld ?rest112
        case hy112 =>
          intro wS hS
          go_simp
          all_goals with_reducible rfl
        (try simp only [Act.put, List.setIfInBounds_toArray, List.set_cons_zero, List.set_cons_succ])
        refine wpAnyH_takeD (i := 9) (d := some 15) (v := ?v113) rfl rfl (by kernel_rfl) (by kernel_rfl) (by kernel_rfl) (fun _ _ _ h => h) (Or.inl ⟨by rfl, ?hy113⟩) hHeld ?rest113
        case hy113 =>
          intro wS hS
          go_simp
          all_goals with_reducible rfl
        (try simp only [Act.put, List.setIfInBounds_toArray, List.set_cons_zero, List.set_cons_succ])
        refine wpAnyH_takeD (i := 10) (d := some 16) (v := ?v114) rfl rfl (by kernel_rfl) (by kernel_rfl) (by kernel_rfl) (fun _ _ _ h => h) (Or.inl ⟨by rfl, ?hy114⟩) hHeld ?rest114
        case hy114 =>
          intro wS hS
          go_simp
          all_goals with_reducible rfl
        (try simp only [Act.put, List.setIfInBounds_toArray, List.set_cons_zero, List.set_cons_succ])
        refine wpAnyH_takeD (i := 11) (d := some 17) (v := ?v115) rfl rfl (by kernel_rfl) (by kernel_rfl) (by kernel_rfl) (fun _ _ _ h => h) (Or.inl ⟨by rfl, ?hy115⟩) hHeld ?rest115
        case hy115 =>
          intro wS hS
          go_simp
          all_goals with_reducible rfl
        (try simp only [Act.put, List.setIfInBounds_toArray, List.set_cons_zero, List.set_cons_succ])
        refine wpAnyH_ready (rs := [13]) (by kernel_rfl) (by simp) (AllReadyH.cons rfl (fun K hK => ?_) AllReadyH.nil)
        rw [if_pos (by rfl)]
        refine wp_store_row 33 (.tmp 3) (.tmp 15) rfl rfl gx rfl #[.int .i64 tc, .int .u32 ts, .slice A tp.length c] rfl 33 #[.int .i64 0, .int .u32 0, .slice none 0 0] hrx5c (by kernel_rfl) rfl (by simp [Value.oneCell']) ?_
        have hrS := setRow_heap _ gx _ #[.int .i64 tc, .int .u32 ts, .slice A tp.length c] _ _ hrx5c
        have hmS := (setRow_other x5c gx m #[.int .i64 tc, .int .u32 ts, .slice A tp.length c] (by omega)).trans hmx5c
        have hbS := below_setRow hbx5c hga #[.int .i64 tc, .int .u32 ts, .slice A tp.length c]
        have hsS := SeesI.but hsa (but_row gx #[.int .i64 tc, .int .u32 ts, .slice A tp.length c]) (fun hl a ha h => (hfa a ha).2 hl h)
        refine hK.out _ _ hmS (fun hHeld => ?_)
        clear hK K
        (try simp only [Act.put, List.setIfInBounds_toArray, List.set_cons_zero, List.set_cons_succ])
        refine wpAnyH_takeD (i := 14) (d := some 4) (v := ?v116) rfl rfl (by kernel_rfl) (by kernel_rfl) (by kernel_rfl) (fun _ _ _ h => h) (Or.inl ⟨by rfl, ?hy116⟩) hHeld ?rest116
        case hy116 =>
          intro wS hS
          go_simp
          all_goals with_reducible rfl
        (try simp only [Act.put, List.setIfInBounds_toArray, List.set_cons_zero, List.set_cons_succ])
        refine wpAnyH_takeD (i := 15) (d := some 5) (v := ?v117) rfl rfl (by kernel_rfl) (by kernel_rfl) (by kernel_rfl) (fun _ _ _ h => h) (Or.inl ⟨by rfl, ?hy117⟩) hHeld ?rest117
        case hy117 =>
          intro wS hS
          go_simp
          all_goals with_reducible rfl
        (try simp only [Act.put, List.setIfInBounds_toArray, List.set_cons_zero, List.set_cons_succ])
        refine wpAnyH_done (by kernel_rfl) ?_ _
        go_wp2_with fail
        go_meet
        exact ⟨gx, A, c, rfl, rfl, rfl, hrS, hga, hsS, hca, hcma, hfa, hbS⟩
    · rw [if_pos (by rfl)]
      have hba : Below wd.heap.size wd (wd.alloc (.cells #[.int .i64 0, .int .u32 0, .slice none 0 0] 33)) := (Below.refl _ _).alloc (Nat.le_refl _) _
      have hra := heap_alloc_new wd (.cells #[.int .i64 0, .int .u32 0, .slice none 0 0] 33)
      have hbx1a := hb0.trans (hba.mono hb0.size)
      have hmx1a := (hba.block m (Nat.lt_of_lt_of_le hmlt hb0.size)).trans hm
      have hga := hb0.size
      clear hba
      go_simp
      generalize wd.heap.size = gx at *
      generalize wd.alloc (.cells #[.int .i64 0, .int .u32 0, .slice none 0 0] 33) = x1a at *
      refine hK.out _ _ hmx1a (fun hHeld => ?_)
      clear hK K
      (try simp only [Act.put, List.setIfInBounds_toArray, List.set_cons_zero, List.set_cons_succ])
      refine wpAnyH_ready (rs := [6]) (by kernel_rfl) (by simp) (AllReadyH.cons rfl (fun K hK => ?_) AllReadyH.nil)
      rw [if_pos (by rfl)]
      go_simp
      refine (HRS.out x1a hmx1a (hw.trans (hbx1a.mono hw.size))).mono ?_
      rintro e x7c ⟨Ar, cr, rfl, hsr, hlr, hcr, hbc⟩
      have hmx7c := (hbc.block m (Nat.lt_of_lt_of_le hmlt hbx1a.size)).trans hmx1a
      have hbx7c := hbx1a.trans (hbc.mono hbx1a.size)
      have hrx7c := (hbc.block gx (Array.getElem?_eq_some_iff.1 hra).1).trans hra
      clear hbc
      go_wp2_with fail
      refine hK.out _ _ hmx7c (fun hHeld => ?_)
      clear hK K
      (try simp only [Act.put, List.setIfInBounds_toArray, List.set_cons_zero, List.set_cons_succ])
      refine wpAnyH_ready (rs := [7]) (by kernel_rfl) (by simp) (AllReadyH.cons rfl (fun K hK => ?_) AllReadyH.nil)
      rw [if_pos (by rfl)]
      go_simp
      refine (HTG.out Ar cr x7c (hw.trans (hbx7c.mono hw.size)) hsr hlr hcr).mono ?_
      rintro e x8c ⟨A, c, rfl, hsa, hca, hcma, hbc, hfa⟩
      have hmx8c := (hbc.block m (Nat.lt_of_lt_of_le hmlt hbx7c.size)).trans hmx7c
      have hbx8c := hbx7c.trans (hbc.mono hbx7c.size)
      have hrx8c := (hbc.block gx (Array.getElem?_eq_some_iff.1 hrx7c).1).trans hrx7c
      replace hfa : ∀ a, A = some a → w.heap.size ≤ a.block ∧ (tp ≠ [] → a.block ≠ gx) := fun a ha => ⟨Nat.le_trans hbx7c.size (hfa a ha), fun _ => by have h1 := hfa a ha; have h2 := (Array.getElem?_eq_some_iff.1 hrx7c).1; omega⟩
      clear hbc
      go_wp2_with fail
      refine hK.out _ _ hmx8c (fun hHeld => ?_)
      clear hK K
      (try simp only [Act.put, List.setIfInBounds_toArray, List.set_cons_zero, List.set_cons_succ])
      refine wpAnyH_takeD (i := 8) (d := some 6) (v := ?v118) rfl rfl (by kernel_rfl) (by kernel_rfl) (by kernel_rfl) (fun _ _ _ h => h) (Or.inl ⟨by rfl, ?hy118⟩) hHeld ?rest118
      case hy118 =>
        intro wS hS
        go_simp
        all_goals with_reducible rfl
      (try simp only [Act.put, List.setIfInBounds_toArray, List.set_cons_zero, List.set_cons_succ])
      refine wpAnyH_takeD (i := 9) (d := some 15) (v := ?v119) rfl rfl (by kernel_rfl) (by kernel_rfl) (by kernel_rfl) (fun _ _ _ h => h) (Or.inl ⟨by rfl, ?hy119⟩) hHeld ?rest119
      case hy119 =>
        intro wS hS
        go_simp
        all_goals with_reducible rfl
      (try simp only [Act.put, List.setIfInBounds_toArray, List.set_cons_zero, List.set_cons_succ])
      refine wpAnyH_takeD (i := 10) (d := some 16) (v := ?v120) rfl rfl (by kernel_rfl) (by kernel_rfl) (by kernel_rfl) (fun _ _ _ h => h) (Or.inl ⟨by rfl, ?hy120⟩) hHeld ?rest120
      case hy120 =>
        intro wS hS
        go_simp
        all_goals with_reducible rfl
      (try simp only [Act.put, List.setIfInBounds_toArray, List.set_cons_zero, List.set_cons_succ])
      refine wpAnyH_takeD (i := 11) (d := some 17) (v := ?v121) rfl rfl (by kernel_rfl) (by kernel_rfl) (by kernel_rfl) (fun _ _ _ h => h) (Or.inl ⟨by rfl, ?hy121⟩) hHeld ?rest121
      case hy121 =>
        intro wS hS
        go_simp
        all_goals with_reducible rfl
      (try simp only [Act.put, List.setIfInBounds_toArray, List.set_cons_zero, List.set_cons_succ])
      refine wpAnyH_ready (rs := [13]) (by kernel_rfl) (by simp) (AllReadyH.cons rfl (fun K hK => ?_) AllReadyH.nil)
      rw [if_pos (by rfl)]
      refine wp_store_row 33 (.tmp 3) (.tmp 15) rfl rfl gx rfl #[.int .i64 tc, .int .u32 ts, .slice A tp.length c] rfl 33 #[.int .i64 0, .int .u32 0, .slice none 0 0] hrx8c (by kernel_rfl) rfl (by simp [Value.oneCell']) ?_
      have hrS := setRow_heap _ gx _ #[.int .i64 tc, .int .u32 ts, .slice A tp.length c] _ _ hrx8c
      have hmS := (setRow_other x8c gx m #[.int .i64 tc, .int .u32 ts, .slice A tp.length c] (by omega)).trans hmx8c
      have hbS := below_setRow hbx8c hga #[.int .i64 tc, .int .u32 ts, .slice A tp.length c]
      have hsS := SeesI.but hsa (but_row gx #[.int .i64 tc, .int .u32 ts, .slice A tp.length c]) (fun hl a ha h => (hfa a ha).2 hl h)
      refine hK.out _ _ hmS (fun hHeld => ?_)
      clear hK K
      (try simp only [Act.put, List.setIfInBounds_toArray, List.set_cons_zero, List.set_cons_succ])
      refine wpAnyH_takeD (i := 14) (d := some 4) (v := ?v122) rfl rfl (by kernel_rfl) (by kernel_rfl) (by kernel_rfl) (fun _ _ _ h => h) (Or.inl ⟨by rfl, ?hy122⟩) hHeld ?rest122
      case hy122 =>
        intro wS hS
        go_simp
        all_goals with_reducible rfl
      (try simp only [Act.put, List.setIfInBounds_toArray, List.set_cons_zero, List.set_cons_succ])
      refine wpAnyH_takeD (i := 15) (d := some 5) (v := ?v123) rfl rfl (by kernel_rfl) (by kernel_rfl) (by kernel_rfl) (fun _ _ _ h => h) (Or.inl ⟨by rfl, ?hy123⟩) hHeld ?rest123
      case hy123 =>
        intro wS hS
        go_simp
        all_goals with_reducible rfl
      (try simp only [Act.put, List.setIfInBounds_toArray, List.set_cons_zero, List.set_cons_succ])
      refine wpAnyH_done (by kernel_rfl) ?_ _
      go_wp2_with fail
      go_meet
      exact ⟨gx, A, c, rfl, rfl, rfl, hrS, hga, hsS, hca, hcma, hfa, hbS⟩
  case rest =>
    obtain ⟨gx, A, c, rfl, rfl, rfl, hrx, hgx, hsx, hcx, hcmx, hfx, hbx⟩ := hcut
    have HF := hid (show EndPost w0 w1 m g i b At nt ct s L (.returned (.int .i64 E)) wc from by unfold EndPost; rw [HE.out]; exact ⟨rfl, hw.trans (hbx.mono hw.size), fun h => absurd h hE1.out⟩)
    clear HE hm hw HRS HTG hrx hsx hbx HM
    go_wp2_with fail
    go_ret
    exact HF.out
set_option maxRecDepth 20000 in
set_option maxHeartbeats 8000000 in
theorem end_go (m g : Nat) (i : InfoV) (Ab : Option Addr) (cb : Nat) (b : List UInt8) (At : Option Addr) (nt ct : Nat) (s : PS) (L : List BlkM) (w0 w1 w : World) (hR : Rdr w0 w1 w m g i Ab cb b At nt ct s L) (hs : s.ok b) (hB : Base w0 g Ab cb b) (hbm : w0.heap.size ≤ m) (hw1 : w0.heap.size ≤ w1.heap.size) (he : (getT (b.drop s.at_)).1 = 0) :
    Calls Tryz.prog 15 #[.pointer (some ⟨m, 0, none⟩)] w (EndPost w0 w1 m g i b At nt ct s L) := by
  have hpl1 : s.pl.length ≤ 100000 := by have h1 := hs.at36; have h2 := hs.at_; have h3 := hB.len; clear he; omega
  have HPL2 := hid hpl1
  clear hpl1
  obtain ⟨Ap, cp, Ak, ck, hm, hp, hk, hpay, hbl, hw, hbut⟩ := hR
  have hat := hs.at_
  have HRS := hid (fun W (hW : W.heap[m]? = some (.cells (RdCells g i Ap s.pl.length cp s.cnt s.short Ab b.length cb s.at_ i At nt ct Ak L.length ck 0 0 none 0 0) 56 (0, 0))) (hb : Below w0.heap.size w0 W) => rest_any m _ 56 Ab cb s.at_ b W hW rfl rfl (hB.sees.below hb) hB.cap.1 hB.cap.2 hat)
  have hdl : (b.drop s.at_).length = b.length - s.at_ := List.length_drop
  have hlen := hB.len
  have HTG := hid (fun A c W (hb : Below w0.heap.size w0 W) hs h1 h2 => tgetF_any g A c (b.drop s.at_) W (hB.tab.keep hb hB.tab.lt) hs h1 h2 (by rw [hdl]; omega))
  have hTr := getT_range (b.drop s.at_)
  have hTf := getT_few (b.drop s.at_)
  obtain ⟨⟨E, tn, tc, ts, tp⟩, hr⟩ : ∃ r, getT (b.drop s.at_) = r := ⟨_, rfl⟩
  rw [hr] at HTG he hTr hTf
  simp only at he hTr hTf
  unfold GetTPostF at HTG
  simp only at HTG
  rw [hdl] at hTr
  subst he
  obtain ⟨N, hN⟩ := Int.eq_ofNat_of_zero_le hTr.1
  subst hN
  have hNr : s.at_ + N ≤ b.length := by omega
  have HRS2 := hid (fun W A c (hW : W.heap[m]? = some (.cells (RdCells g i Ap s.pl.length cp s.cnt s.short Ab b.length cb (s.at_ + N) i At nt ct Ak L.length ck tc ts A tp.length c) 56 (0, 0))) (hb : Below w0.heap.size w0 W) => rest_any m _ 56 Ab cb (s.at_ + N) b W hW rfl rfl (hB.sees.below hb) hB.cap.1 hB.cap.2 hNr)
  have hdl2 : (b.drop (s.at_ + N)).length = b.length - (s.at_ + N) := List.length_drop
  have HE := hid (show tailE b s = if s.at_ + N < b.length then 62 else if tc ≠ s.cnt then 61 else if tp ≠ s.pl then 60 else 0 by unfold tailE; rw [hr, if_neg (by simp), Int.toNat_natCast])
  have hwr : wrap64 ((s.at_ : Int) + (N : Int)) = ((s.at_ : Int) + (N : Int)) := by unfold wrap64; omega
  have HM := hid hm
  have HM2 := hid hm
  have hW2 := hid hw.size
  have HW := hid hw
  have HP := hid hp
  have HK := hid hk
  have HPAY := hid hpay
  have HBUT := hid hbut
  have hsz1 := HBUT.out.size
  have HTF := hid hTf
  have HR2 := hid hr
  obtain ⟨Z, hZ⟩ : ∃ Z, Z = b.drop (s.at_ + N) := ⟨_, rfl⟩
  rw [← hZ] at HRS2 hdl2
  generalize hbd : b.drop s.at_ = bd at HTG HRS
  clear hs hB hdl hp hk hpay hbl hbut hat hlen hr hTr hTf hbd hZ
  go_enter Tryz.func15, Tryz.ntmps15
  go_upto_region 1 with fail
  go_cut [3, 4, 5] (fun x y q wx => ∃ gx A c, x = .pointer (some ⟨gx, 0, none⟩) ∧ y = .int .i64 (N : Int) ∧ q = .int .i64 0 ∧ wx.heap[gx]? = some (.cells #[.int .i64 tc, .int .u32 ts, .slice A tp.length c] 33 (0, 0)) ∧ w.heap.size ≤ gx ∧ SeesI wx A tp ∧ tp.length ≤ c ∧ c ≤ maxLen ∧ (∀ a, A = some a → w.heap.size ≤ a.block ∧ (tp ≠ [] → a.block ≠ gx)) ∧ Below w.heap.size w wx)
  case first =>
    refine wp_region_held_drew (S := fun W => W.heap[m]? = some (.cells (RdCells g i Ap s.pl.length cp s.cnt s.short Ab b.length cb s.at_ i At nt ct Ak L.length ck 0 0 none 0 0) 56 (0, 0))) (by kernel_rfl) hm (fun hHeld => ?_)
    have hb0 : Below w.heap.size w w.drew := (Below.refl _ _).drew
    have hmlt : m < w.heap.size := (Array.getElem?_eq_some_iff.1 hm).1
    replace hm : w.drew.heap[m]? = _ := hm
    generalize w.drew = wd at *
    refine wpAnyH_takeD (i := 0) (d := some 7) (v := ?v124) rfl rfl (by kernel_rfl) (by kernel_rfl) (by kernel_rfl) (fun _ _ _ h => h) (Or.inl ⟨by rfl, ?hy124⟩) hHeld ?rest124
    case hy124 =>
      intro wS hS
      go_simp
      all_goals with_reducible rfl
    (try simp only [Act.put, List.setIfInBounds_toArray, List.set_cons_zero, List.set_cons_succ])
    refine wpAnyH_takeD (i := 1) (d := some 8) (v := ?v125) rfl rfl (by kernel_rfl) (by kernel_rfl) (by kernel_rfl) (fun _ _ _ h => h) (Or.inl ⟨by rfl, ?hy125⟩) hHeld ?rest125
    case hy125 =>
      intro wS hS
      go_simp
      all_goals with_reducible rfl
    (try simp only [Act.put, List.setIfInBounds_toArray, List.set_cons_zero, List.set_cons_succ])
    refine wpAnyH_takeD (i := 2) (d := some 9) (v := ?v126) rfl rfl (by kernel_rfl) (by kernel_rfl) (by kernel_rfl) (fun _ _ _ h => h) (Or.inl ⟨by rfl, ?hy126⟩) hHeld ?rest126
    case hy126 =>
      intro wS hS
      go_simp
      all_goals with_reducible rfl
    (try simp only [Act.put, List.setIfInBounds_toArray, List.set_cons_zero, List.set_cons_succ])
    refine wpAnyH_takeD (i := 3) (d := some 10) (v := ?v127) rfl rfl (by kernel_rfl) (by kernel_rfl) (by kernel_rfl) (fun _ _ _ h => h) (Or.inl ⟨by rfl, ?hy127⟩) hHeld ?rest127
    case hy127 =>
      intro wS hS
      go_simp
      all_goals with_reducible rfl
    (try simp only [Act.put, List.setIfInBounds_toArray, List.set_cons_zero, List.set_cons_succ])
    refine wpAnyH_takeD (i := 4) (d := some 11) (v := ?v128) rfl rfl (by kernel_rfl) (by kernel_rfl) (by kernel_rfl) (fun _ _ _ h => h) (Or.inl ⟨by rfl, ?hy128⟩) hHeld ?rest128
    case hy128 =>
      intro wS hS
      have k0 : wS.cell? ⟨m, 0, none⟩ = some (.pointer (some ⟨g, 0, none⟩)) := by rw [cell_of_row _ _ _ _ _ _ hS]; rfl
      go_simp
      all_goals with_reducible rfl
    (try simp only [Act.put, List.setIfInBounds_toArray, List.set_cons_zero, List.set_cons_succ])
    refine wpAnyH_takeD (i := 5) (d := some 12) (v := ?v129) rfl rfl (by kernel_rfl) (by kernel_rfl) (by kernel_rfl) (fun _ _ _ h => h) (Or.inl ⟨by rfl, ?hy129⟩) hHeld ?rest129
    case hy129 =>
      intro wS hS
      go_simp
      all_goals with_reducible rfl
    (try simp only [Act.put, List.setIfInBounds_toArray, List.set_cons_zero, List.set_cons_succ])
    refine wpAnyH_ready (rs := [6, 12]) (by kernel_rfl) (by simp) (AllReadyH.cons rfl (fun K hK => ?_) (AllReadyH.cons rfl (fun K hK => ?_) AllReadyH.nil))
    · rw [if_pos (by rfl)]
      go_simp
      refine (HRS.out wd hm (hw.trans (hb0.mono hw.size))).mono ?_
      rintro e x1c ⟨Ar, cr, rfl, hsr, hlr, hcr, hbc⟩
      have hmx1c := (hbc.block m (Nat.lt_of_lt_of_le hmlt hb0.size)).trans hm
      have hbx1c := hb0.trans (hbc.mono hb0.size)
      clear hbc
      go_wp2_with fail
      refine hK.out _ _ hmx1c (fun hHeld => ?_)
      clear hK K
      (try simp only [Act.put, List.setIfInBounds_toArray, List.set_cons_zero, List.set_cons_succ])
      refine wpAnyH_ready (rs := [7, 12]) (by kernel_rfl) (by simp) (AllReadyH.cons rfl (fun K hK => ?_) (AllReadyH.cons rfl (fun K hK => ?_) AllReadyH.nil))
      · rw [if_pos (by rfl)]
        go_simp
        refine (HTG.out Ar cr x1c (hw.trans (hbx1c.mono hw.size)) hsr hlr hcr).mono ?_
        rintro e x2c ⟨A, c, rfl, hsa, hca, hcma, hbc, hfa⟩
        have hmx2c := (hbc.block m (Nat.lt_of_lt_of_le hmlt hbx1c.size)).trans hmx1c
        have hbx2c := hbx1c.trans (hbc.mono hbx1c.size)
        have hfl := own_hi hsa
        replace hfa : ∀ a, A = some a → w.heap.size ≤ a.block := fun a ha => Nat.le_trans hbx1c.size (hfa a ha)
        clear hbc
        go_wp2_with fail
        refine hK.out _ _ hmx2c (fun hHeld => ?_)
        clear hK K
        (try simp only [Act.put, List.setIfInBounds_toArray, List.set_cons_zero, List.set_cons_succ])
        refine wpAnyH_takeD (i := 8) (d := some 6) (v := ?v130) rfl rfl (by kernel_rfl) (by kernel_rfl) (by kernel_rfl) (fun _ _ _ h => h) (Or.inl ⟨by rfl, ?hy130⟩) hHeld ?rest130
        case hy130 =>
          intro wS hS
          go_simp
          all_goals with_reducible rfl
        (try simp only [Act.put, List.setIfInBounds_toArray, List.set_cons_zero, List.set_cons_succ])
        refine wpAnyH_takeD (i := 9) (d := some 15) (v := ?v131) rfl rfl (by kernel_rfl) (by kernel_rfl) (by kernel_rfl) (fun _ _ _ h => h) (Or.inl ⟨by rfl, ?hy131⟩) hHeld ?rest131
        case hy131 =>
          intro wS hS
          go_simp
          all_goals with_reducible rfl
        (try simp only [Act.put, List.setIfInBounds_toArray, List.set_cons_zero, List.set_cons_succ])
        refine wpAnyH_takeD (i := 10) (d := some 16) (v := ?v132) rfl rfl (by kernel_rfl) (by kernel_rfl) (by kernel_rfl) (fun _ _ _ h => h) (Or.inl ⟨by rfl, ?hy132⟩) hHeld ?rest132
        case hy132 =>
          intro wS hS
          go_simp
          all_goals with_reducible rfl
        (try simp only [Act.put, List.setIfInBounds_toArray, List.set_cons_zero, List.set_cons_succ])
        refine wpAnyH_takeD (i := 11) (d := some 17) (v := ?v133) rfl rfl (by kernel_rfl) (by kernel_rfl) (by kernel_rfl) (fun _ _ _ h => h) (Or.inl ⟨by rfl, ?hy133⟩) hHeld ?rest133
        case hy133 =>
          intro wS hS
          go_simp
          all_goals with_reducible rfl
        (try simp only [Act.put, List.setIfInBounds_toArray, List.set_cons_zero, List.set_cons_succ])
        refine wpAnyH_ready (rs := [12]) (by kernel_rfl) (by simp) (AllReadyH.cons rfl (fun K hK => ?_) AllReadyH.nil)
        rw [if_pos (by rfl)]
        have hba : Below x2c.heap.size x2c (x2c.alloc (.cells #[.int .i64 0, .int .u32 0, .slice none 0 0] 33)) := (Below.refl _ _).alloc (Nat.le_refl _) _
        have hra := heap_alloc_new x2c (.cells #[.int .i64 0, .int .u32 0, .slice none 0 0] 33)
        have hbx3a := hbx2c.trans (hba.mono hbx2c.size)
        have hmx3a := (hba.block m (Nat.lt_of_lt_of_le hmlt hbx2c.size)).trans hmx2c
        have hga := hbx2c.size
        replace hfa : ∀ a, A = some a → w.heap.size ≤ a.block ∧ (tp ≠ [] → a.block ≠ x2c.heap.size) := fun a ha => ⟨hfa a ha, fun hl => by have := hfl hl a ha; omega⟩
        replace hsa := SeesI.below hsa hba
        clear hfl
        clear hba
        go_simp
        generalize x2c.heap.size = gx at *
        generalize x2c.alloc (.cells #[.int .i64 0, .int .u32 0, .slice none 0 0] 33) = x3a at *
        refine hK.out _ _ hmx3a (fun hHeld => ?_)
        clear hK K
        (try simp only [Act.put, List.setIfInBounds_toArray, List.set_cons_zero, List.set_cons_succ])
        refine wpAnyH_ready (rs := [13]) (by kernel_rfl) (by simp) (AllReadyH.cons rfl (fun K hK => ?_) AllReadyH.nil)
        rw [if_pos (by rfl)]
        refine wp_store_row 33 (.tmp 3) (.tmp 15) rfl rfl gx rfl #[.int .i64 tc, .int .u32 ts, .slice A tp.length c] rfl 33 #[.int .i64 0, .int .u32 0, .slice none 0 0] hra (by kernel_rfl) rfl (by simp [Value.oneCell']) ?_
        have hrS := setRow_heap _ gx _ #[.int .i64 tc, .int .u32 ts, .slice A tp.length c] _ _ hra
        have hmS := (setRow_other x3a gx m #[.int .i64 tc, .int .u32 ts, .slice A tp.length c] (by omega)).trans hmx3a
        have hbS := below_setRow hbx3a hga #[.int .i64 tc, .int .u32 ts, .slice A tp.length c]
        have hsS := SeesI.but hsa (but_row gx #[.int .i64 tc, .int .u32 ts, .slice A tp.length c]) (fun hl a ha h => (hfa a ha).2 hl h)
        refine hK.out _ _ hmS (fun hHeld => ?_)
        clear hK K
        (try simp only [Act.put, List.setIfInBounds_toArray, List.set_cons_zero, List.set_cons_succ])
        refine wpAnyH_takeD (i := 14) (d := some 4) (v := ?v134) rfl rfl (by kernel_rfl) (by kernel_rfl) (by kernel_rfl) (fun _ _ _ h => h) (Or.inl ⟨by rfl, ?hy134⟩) hHeld ?rest134
        case hy134 =>
          intro wS hS
          go_simp
          all_goals with_reducible rfl
        (try simp only [Act.put, List.setIfInBounds_toArray, List.set_cons_zero, List.set_cons_succ])
        refine wpAnyH_takeD (i := 15) (d := some 5) (v := ?v135) rfl rfl (by kernel_rfl) (by kernel_rfl) (by kernel_rfl) (fun _ _ _ h => h) (Or.inl ⟨by rfl, ?hy135⟩) hHeld ?rest135
        case hy135 =>
          intro wS hS
          go_simp
          all_goals with_reducible rfl
        (try simp only [Act.put, List.setIfInBounds_toArray, List.set_cons_zero, List.set_cons_succ])
        refine wpAnyH_done (by kernel_rfl) ?_ _
        go_wp2_with fail
        go_meet
        exact ⟨gx, A, c, rfl, rfl, rfl, hrS, hga, hsS, hca, hcma, hfa, hbS⟩
      · rw [if_pos (by rfl)]
        have hba : Below x1c.heap.size x1c (x1c.alloc (.cells #[.int .i64 0, .int .u32 0, .slice none 0 0] 33)) := (Below.refl _ _).alloc (Nat.le_refl _) _
        have hra := heap_alloc_new x1c (.cells #[.int .i64 0, .int .u32 0, .slice none 0 0] 33)
        have hbx2a := hbx1c.trans (hba.mono hbx1c.size)
        have hmx2a := (hba.block m (Nat.lt_of_lt_of_le hmlt hbx1c.size)).trans hmx1c
        have hga := hbx1c.size
        replace hsr := hsr.below hba
        clear hba
        go_simp
        generalize x1c.heap.size = gx at *
        generalize x1c.alloc (.cells #[.int .i64 0, .int .u32 0, .slice none 0 0] 33) = x2a at *
        refine hK.out _ _ hmx2a (fun hHeld => ?_)
        clear hK K
        (try simp only [Act.put, List.setIfInBounds_toArray, List.set_cons_zero, List.set_cons_succ])
        refine wpAnyH_ready (rs := [7]) (by kernel_rfl) (by simp) (AllReadyH.cons rfl (fun K hK => ?_) AllReadyH.nil)
        rw [if_pos (by rfl)]
        go_simp
        refine (HTG.out Ar cr x2a (hw.trans (hbx2a.mono hw.size)) hsr hlr hcr).mono ?_
        rintro e x5c ⟨A, c, rfl, hsa, hca, hcma, hbc, hfa⟩
        have hmx5c := (hbc.block m (Nat.lt_of_lt_of_le hmlt hbx2a.size)).trans hmx2a
        have hbx5c := hbx2a.trans (hbc.mono hbx2a.size)
        have hrx5c := (hbc.block gx (Array.getElem?_eq_some_iff.1 hra).1).trans hra
        replace hfa : ∀ a, A = some a → w.heap.size ≤ a.block ∧ (tp ≠ [] → a.block ≠ gx) := fun a ha => ⟨Nat.le_trans hbx2a.size (hfa a ha), fun _ => by have h1 := hfa a ha; have h2 := (Array.getElem?_eq_some_iff.1 hra).1; omega⟩
        clear hbc
        go_wp2_with fail
        refine hK.out _ _ hmx5c (fun hHeld => ?_)
        clear hK K
        (try simp only [Act.put, List.setIfInBounds_toArray, List.set_cons_zero, List.set_cons_succ])
        refine wpAnyH_takeD (i := 8) (d := some 6) (v := ?v136) rfl rfl (by kernel_rfl) (by kernel_rfl) (by kernel_rfl) (fun _ _ _ h => h) (Or.inl ⟨by rfl, ?hy136⟩) hHeld ?rest136
        case hy136 =>
          intro wS hS
          go_simp
          all_goals with_reducible rfl
        (try simp only [Act.put, List.setIfInBounds_toArray, List.set_cons_zero, List.set_cons_succ])
        refine wpAnyH_takeD (i := 9) (d := some 15) (v := ?v137) rfl rfl (by kernel_rfl) (by kernel_rfl) (by kernel_rfl) (fun _ _ _ h => h) (Or.inl ⟨by rfl, ?hy137⟩) hHeld ?rest137
        case hy137 =>
          intro wS hS
          go_simp
          all_goals with_reducible rfl
        (try simp only [Act.put, List.setIfInBounds_toArray, List.set_cons_zero, List.set_cons_succ])
        refine wpAnyH_takeD (i := 10) (d := some 16) (v := ?v138) rfl rfl (by kernel_rfl) (by kernel_rfl) (by kernel_rfl) (fun _ _ _ h => h) (Or.inl ⟨by rfl, ?hy138⟩) hHeld ?rest138
        case hy138 =>
          intro wS hS
          go_simp
          all_goals with_reducible rfl
        (try simp only [Act.put, List.setIfInBounds_toArray, List.set_cons_zero, List.set_cons_succ])
        refine wpAnyH_takeD (i := 11) (d := some 17) (v := ?v139) rfl rfl (by kernel_rfl) (by kernel_rfl) (by kernel_rfl) (fun _ _ _ h => h) (Or.inl ⟨by rfl, ?hy139⟩) hHeld ?rest139
        case hy139 =>
          intro wS hS
          go_simp
          all_goals with_reducible rfl
        (try simp only [Act.put, List.setIfInBounds_toArray, List.set_cons_zero, List.set_cons_succ])
        refine wpAnyH_ready (rs := [13]) (by kernel_rfl) (by simp) (AllReadyH.cons rfl (fun K hK => ?_) AllReadyH.nil)
        rw [if_pos (by rfl)]
        refine wp_store_row 33 (.tmp 3) (.tmp 15) rfl rfl gx rfl #[.int .i64 tc, .int .u32 ts, .slice A tp.length c] rfl 33 #[.int .i64 0, .int .u32 0, .slice none 0 0] hrx5c (by kernel_rfl) rfl (by simp [Value.oneCell']) ?_
        have hrS := setRow_heap _ gx _ #[.int .i64 tc, .int .u32 ts, .slice A tp.length c] _ _ hrx5c
        have hmS := (setRow_other x5c gx m #[.int .i64 tc, .int .u32 ts, .slice A tp.length c] (by omega)).trans hmx5c
        have hbS := below_setRow hbx5c hga #[.int .i64 tc, .int .u32 ts, .slice A tp.length c]
        have hsS := SeesI.but hsa (but_row gx #[.int .i64 tc, .int .u32 ts, .slice A tp.length c]) (fun hl a ha h => (hfa a ha).2 hl h)
        refine hK.out _ _ hmS (fun hHeld => ?_)
        clear hK K
        (try simp only [Act.put, List.setIfInBounds_toArray, List.set_cons_zero, List.set_cons_succ])
        refine wpAnyH_takeD (i := 14) (d := some 4) (v := ?v140) rfl rfl (by kernel_rfl) (by kernel_rfl) (by kernel_rfl) (fun _ _ _ h => h) (Or.inl ⟨by rfl, ?hy140⟩) hHeld ?rest140
        case hy140 =>
          intro wS hS
          go_simp
          all_goals with_reducible rfl
        (try simp only [Act.put, List.setIfInBounds_toArray, List.set_cons_zero, List.set_cons_succ])
        refine wpAnyH_takeD (i := 15) (d := some 5) (v := ?v141) rfl rfl (by kernel_rfl) (by kernel_rfl) (by kernel_rfl) (fun _ _ _ h => h) (Or.inl ⟨by rfl, ?hy141⟩) hHeld ?rest141
        case hy141 =>
          intro wS hS
          go_simp
          all_goals with_reducible rfl
        (try simp only [Act.put, List.setIfInBounds_toArray, List.set_cons_zero, List.set_cons_succ])
        refine wpAnyH_done (by kernel_rfl) ?_ _
        go_wp2_with fail
        go_meet
        exact ⟨gx, A, c, rfl, rfl, rfl, hrS, hga, hsS, hca, hcma, hfa, hbS⟩
    · rw [if_pos (by rfl)]
      have hba : Below wd.heap.size wd (wd.alloc (.cells #[.int .i64 0, .int .u32 0, .slice none 0 0] 33)) := (Below.refl _ _).alloc (Nat.le_refl _) _
      have hra := heap_alloc_new wd (.cells #[.int .i64 0, .int .u32 0, .slice none 0 0] 33)
      have hbx1a := hb0.trans (hba.mono hb0.size)
      have hmx1a := (hba.block m (Nat.lt_of_lt_of_le hmlt hb0.size)).trans hm
      have hga := hb0.size
      clear hba
      go_simp
      generalize wd.heap.size = gx at *
      generalize wd.alloc (.cells #[.int .i64 0, .int .u32 0, .slice none 0 0] 33) = x1a at *
      refine hK.out _ _ hmx1a (fun hHeld => ?_)
      clear hK K
      (try simp only [Act.put, List.setIfInBounds_toArray, List.set_cons_zero, List.set_cons_succ])
      refine wpAnyH_ready (rs := [6]) (by kernel_rfl) (by simp) (AllReadyH.cons rfl (fun K hK => ?_) AllReadyH.nil)
      rw [if_pos (by rfl)]
      go_simp
      refine (HRS.out x1a hmx1a (hw.trans (hbx1a.mono hw.size))).mono ?_
      rintro e x7c ⟨Ar, cr, rfl, hsr, hlr, hcr, hbc⟩
      have hmx7c := (hbc.block m (Nat.lt_of_lt_of_le hmlt hbx1a.size)).trans hmx1a
      have hbx7c := hbx1a.trans (hbc.mono hbx1a.size)
      have hrx7c := (hbc.block gx (Array.getElem?_eq_some_iff.1 hra).1).trans hra
      clear hbc
      go_wp2_with fail
      refine hK.out _ _ hmx7c (fun hHeld => ?_)
      clear hK K
      (try simp only [Act.put, List.setIfInBounds_toArray, List.set_cons_zero, List.set_cons_succ])
      refine wpAnyH_ready (rs := [7]) (by kernel_rfl) (by simp) (AllReadyH.cons rfl (fun K hK => ?_) AllReadyH.nil)
      rw [if_pos (by rfl)]
      go_simp
      refine (HTG.out Ar cr x7c (hw.trans (hbx7c.mono hw.size)) hsr hlr hcr).mono ?_
      rintro e x8c ⟨A, c, rfl, hsa, hca, hcma, hbc, hfa⟩
      have hmx8c := (hbc.block m (Nat.lt_of_lt_of_le hmlt hbx7c.size)).trans hmx7c
      have hbx8c := hbx7c.trans (hbc.mono hbx7c.size)
      have hrx8c := (hbc.block gx (Array.getElem?_eq_some_iff.1 hrx7c).1).trans hrx7c
      replace hfa : ∀ a, A = some a → w.heap.size ≤ a.block ∧ (tp ≠ [] → a.block ≠ gx) := fun a ha => ⟨Nat.le_trans hbx7c.size (hfa a ha), fun _ => by have h1 := hfa a ha; have h2 := (Array.getElem?_eq_some_iff.1 hrx7c).1; omega⟩
      clear hbc
      go_wp2_with fail
      refine hK.out _ _ hmx8c (fun hHeld => ?_)
      clear hK K
      (try simp only [Act.put, List.setIfInBounds_toArray, List.set_cons_zero, List.set_cons_succ])
      refine wpAnyH_takeD (i := 8) (d := some 6) (v := ?v142) rfl rfl (by kernel_rfl) (by kernel_rfl) (by kernel_rfl) (fun _ _ _ h => h) (Or.inl ⟨by rfl, ?hy142⟩) hHeld ?rest142
      case hy142 =>
        intro wS hS
        go_simp
        all_goals with_reducible rfl
      (try simp only [Act.put, List.setIfInBounds_toArray, List.set_cons_zero, List.set_cons_succ])
      refine wpAnyH_takeD (i := 9) (d := some 15) (v := ?v143) rfl rfl (by kernel_rfl) (by kernel_rfl) (by kernel_rfl) (fun _ _ _ h => h) (Or.inl ⟨by rfl, ?hy143⟩) hHeld ?rest143
      case hy143 =>
        intro wS hS
        go_simp
        all_goals with_reducible rfl
      (try simp only [Act.put, List.setIfInBounds_toArray, List.set_cons_zero, List.set_cons_succ])
      refine wpAnyH_takeD (i := 10) (d := some 16) (v := ?v144) rfl rfl (by kernel_rfl) (by kernel_rfl) (by kernel_rfl) (fun _ _ _ h => h) (Or.inl ⟨by rfl, ?hy144⟩) hHeld ?rest144
      case hy144 =>
        intro wS hS
        go_simp
        all_goals with_reducible rfl
      (try simp only [Act.put, List.setIfInBounds_toArray, List.set_cons_zero, List.set_cons_succ])
      refine wpAnyH_takeD (i := 11) (d := some 17) (v := ?v145) rfl rfl (by kernel_rfl) (by kernel_rfl) (by kernel_rfl) (fun _ _ _ h => h) (Or.inl ⟨by rfl, ?hy145⟩) hHeld ?rest145
      case hy145 =>
        intro wS hS
        go_simp
        all_goals with_reducible rfl
      (try simp only [Act.put, List.setIfInBounds_toArray, List.set_cons_zero, List.set_cons_succ])
      refine wpAnyH_ready (rs := [13]) (by kernel_rfl) (by simp) (AllReadyH.cons rfl (fun K hK => ?_) AllReadyH.nil)
      rw [if_pos (by rfl)]
      refine wp_store_row 33 (.tmp 3) (.tmp 15) rfl rfl gx rfl #[.int .i64 tc, .int .u32 ts, .slice A tp.length c] rfl 33 #[.int .i64 0, .int .u32 0, .slice none 0 0] hrx8c (by kernel_rfl) rfl (by simp [Value.oneCell']) ?_
      have hrS := setRow_heap _ gx _ #[.int .i64 tc, .int .u32 ts, .slice A tp.length c] _ _ hrx8c
      have hmS := (setRow_other x8c gx m #[.int .i64 tc, .int .u32 ts, .slice A tp.length c] (by omega)).trans hmx8c
      have hbS := below_setRow hbx8c hga #[.int .i64 tc, .int .u32 ts, .slice A tp.length c]
      have hsS := SeesI.but hsa (but_row gx #[.int .i64 tc, .int .u32 ts, .slice A tp.length c]) (fun hl a ha h => (hfa a ha).2 hl h)
      refine hK.out _ _ hmS (fun hHeld => ?_)
      clear hK K
      (try simp only [Act.put, List.setIfInBounds_toArray, List.set_cons_zero, List.set_cons_succ])
      refine wpAnyH_takeD (i := 14) (d := some 4) (v := ?v146) rfl rfl (by kernel_rfl) (by kernel_rfl) (by kernel_rfl) (fun _ _ _ h => h) (Or.inl ⟨by rfl, ?hy146⟩) hHeld ?rest146
      case hy146 =>
        intro wS hS
        go_simp
        all_goals with_reducible rfl
      (try simp only [Act.put, List.setIfInBounds_toArray, List.set_cons_zero, List.set_cons_succ])
      refine wpAnyH_takeD (i := 15) (d := some 5) (v := ?v147) rfl rfl (by kernel_rfl) (by kernel_rfl) (by kernel_rfl) (fun _ _ _ h => h) (Or.inl ⟨by rfl, ?hy147⟩) hHeld ?rest147
      case hy147 =>
        intro wS hS
        go_simp
        all_goals with_reducible rfl
      (try simp only [Act.put, List.setIfInBounds_toArray, List.set_cons_zero, List.set_cons_succ])
      refine wpAnyH_done (by kernel_rfl) ?_ _
      go_wp2_with fail
      go_meet
      exact ⟨gx, A, c, rfl, rfl, rfl, hrS, hga, hsS, hca, hcma, hfa, hbS⟩
  case rest =>
    obtain ⟨gx, A, c, rfl, rfl, rfl, hrx, hgx, hsx, hcx, hcmx, hfx, hbx⟩ := hcut
    have hmlt : m < w.heap.size := (Array.getElem?_eq_some_iff.1 HM.out).1
    have hmc := (hbx.block m hmlt).trans HM.out
    have hwc := HW.out.trans (hbx.mono HW.out.size)
    have hgm : gx ≠ m := by omega
    have hBc : But (fun n => n = m) w wc := But.of_below hbx
    have c12 : wc.cell? ⟨m, 12, none⟩ = some (.int .i64 (s.at_ : Int)) := by rw [cell_of_row _ _ _ _ _ _ hmc]; rfl
    have f12 : wc.frozen? ⟨m, 12, none⟩ = false := frozen_of_row _ _ _ _ _ hmc
    have hm4 : (wc.setCell ⟨m, 12, none⟩ (.int .i64 ((s.at_ : Int) + (N : Int)))).heap[m]? = some (.cells (RdCells g i Ap s.pl.length cp s.cnt s.short Ab b.length cb (s.at_ + N) i At nt ct Ak L.length ck 0 0 none 0 0) 56 (0, 0)) := heap_setCell_same wc m 12 _ 56 (.int .i64 ((s.at_ : Int) + (N : Int))) hmc
    have hr4 := (heap_setCell_other wc ⟨m, 12, none⟩ gx (.int .i64 ((s.at_ : Int) + (N : Int))) hgm).trans hrx
    have hB4 := hBc.trans (but_cell m 12 (.int .i64 ((s.at_ : Int) + (N : Int)))) (fun n h => .inl h)
    have hw4 := hwc.setCell (p := ⟨m, 12, none⟩) hbm (.int .i64 ((s.at_ : Int) + (N : Int)))
    have hs4 := SeesI.but hsx (but_cell m 12 (.int .i64 ((s.at_ : Int) + (N : Int)))) (fun _ a ha h => by have h2 := (hfx a ha).1; have h3 : a.block = m := h; omega)
    have hs5 := SeesI.but hs4 (but_row m (RdCells g i Ap s.pl.length cp s.cnt s.short Ab b.length cb (s.at_ + N) i At nt ct Ak L.length ck tc ts A tp.length c)) (fun _ a ha h => by have h2 := (hfx a ha).1; have h3 : a.block = m := h; omega)
    have hm5 := setRow_heap _ m _ (RdCells g i Ap s.pl.length cp s.cnt s.short Ab b.length cb (s.at_ + N) i At nt ct Ak L.length ck tc ts A tp.length c) _ _ hm4
    have hr5 := (setRow_other _ m gx (RdCells g i Ap s.pl.length cp s.cnt s.short Ab b.length cb (s.at_ + N) i At nt ct Ak L.length ck tc ts A tp.length c) hgm).trans hr4
    have hB5 := hB4.trans (but_row m (RdCells g i Ap s.pl.length cp s.cnt s.short Ab b.length cb (s.at_ + N) i At nt ct Ak L.length ck tc ts A tp.length c)) (fun n h => .inl h)
    have hw5 := below_setRow hw4 hbm (RdCells g i Ap s.pl.length cp s.cnt s.short Ab b.length cb (s.at_ + N) i At nt ct Ak L.length ck tc ts A tp.length c)
    clear hsx hbx hmc hwc HW HM HTG HRS hrx hBc hm hs4
    go_wp2_with first | (refine wpList_store_part rfl 33 (.tmp 33) (.tmp 30) rfl rfl m 21 rfl #[.int .i64 tc, .int .u32 ts, .slice A tp.length c] rfl 56 (RdCells g i Ap s.pl.length cp s.cnt s.short Ab b.length cb (s.at_ + N) i At nt ct Ak L.length ck 0 0 none 0 0) (RdCells g i Ap s.pl.length cp s.cnt s.short Ab b.length cb (s.at_ + N) i At nt ct Ak L.length ck tc ts A tp.length c) hm4 (by kernel_rfl) (Nat.le_of_ble_eq_true rfl) (by simp [Value.oneCell']) rfl ?_) | (refine wpList_load_row rfl 33 (.tmp 3) rfl gx rfl 33 #[.int .i64 tc, .int .u32 ts, .slice A tp.length c] (0, 0) _ hr4 Tryz.underlying33 rfl (by kernel_rfl) ?_)
    clear c12 f12 hm4 hr4 hB4 hw4
    generalize (wc.setCell ⟨m, 12, none⟩ (.int .i64 ((s.at_ : Int) + (N : Int)))).setRow m (RdCells g i Ap s.pl.length cp s.cnt s.short Ab b.length cb (s.at_ + N) i At nt ct Ak L.length ck tc ts A tp.length c) = w5 at *
    refine (HRS2.out w5 A c hm5 hw5).mono ?_
    rintro e w6 ⟨A6, c6, rfl, hs6, hc6, hcm6, hb6⟩
    have hm6 := (hb6.block m (Array.getElem?_eq_some_iff.1 hm5).1).trans hm5
    have hr6 := (hb6.block gx (Array.getElem?_eq_some_iff.1 hr5).1).trans hr5
    have hB6 := hB5.trans (But.of_below (R := fun _ => False) hb6) (fun n h => h.elim)
    have hw6 := hw5.trans (hb6.mono hw5.size)
    have hsx6 := SeesI.below hs5 hb6
    clear hb6 hs6 hm5 hr5 hB5 hw5 hs5 HRS2
    by_cases hmore : s.at_ + N < b.length
    · have dm : decide (0 < Z.length) = true := by rw [hdl2]; simp; omega
      have dm' : decide ((0 : Int) < (Z.length : Int)) = true := by rw [hdl2]; simp; omega
      have HF := hid (show EndPost w0 w1 m g i b At nt ct s L (.returned (.int .i64 62)) w6 from by unfold EndPost; rw [HE.out, if_pos hmore]; exact ⟨rfl, hw6, fun h => absurd h (by decide)⟩)
      clear HE hmore hdl2 hm6 hr6 hB6 hw6 hsx6 HP HK HPAY HBUT HTF HR2 HPL2 hfx hcx hcmx hc6 hcm6
      go_wp2_with fail
      go_ret
      exact HF.out
    have dm : decide (0 < Z.length) = false := by rw [hdl2]; simp; omega
    have dm' : decide ((0 : Int) < (Z.length : Int)) = false := by rw [hdl2]; simp; omega
    replace HE := hid (HE.out.trans (if_neg hmore))
    clear hmore hdl2 hc6 hcm6
    go_wp2_with fail
    refine wp_region_held_drew (S := fun W => W.heap[m]? = some (.cells (RdCells g i Ap s.pl.length cp s.cnt s.short Ab b.length cb (s.at_ + N) i At nt ct Ak L.length ck tc ts A tp.length c) 56 (0, 0)) ∧ W.heap[gx]? = some (.cells #[.int .i64 tc, .int .u32 ts, .slice A tp.length c] 33 (0, 0))) (by kernel_rfl) ⟨hm6, hr6⟩ (fun hHeld => ?_)
    replace hm6 : w6.drew.heap[m]? = _ := hm6
    replace hr6 : w6.drew.heap[gx]? = _ := hr6
    replace hB6 : But (fun n => n = m) w w6.drew := hB6.trans (But.of_below (R := fun _ => False) (Below.refl _ _).drew) (fun n h => h.elim)
    replace hw6 : Below w0.heap.size w0 w6.drew := hw6.drew
    replace hsx6 : SeesI w6.drew A tp := hsx6
    generalize w6.drew = w7 at *
    refine wpAnyH_takeD (i := 0) (d := some 40) (v := ?v148) rfl rfl (by kernel_rfl) (by kernel_rfl) (by kernel_rfl) (fun _ _ _ h => h) (Or.inl ⟨by rfl, ?hy148⟩) hHeld ?rest148
    case hy148 =>
      intro wS hS
      go_simp
      all_goals with_reducible rfl
    (try simp only [Act.put, List.setIfInBounds_toArray, List.set_cons_zero, List.set_cons_succ])
    refine wpAnyH_takeD (i := 1) (d := some 41) (v := ?v149) rfl rfl (by kernel_rfl) (by kernel_rfl) (by kernel_rfl) (fun _ _ _ h => h) (Or.inl ⟨by rfl, ?hy149⟩) hHeld ?rest149
    case hy149 =>
      intro wS hS
      have k0 : wS.cell? ⟨gx, 0, none⟩ = some (.int .i64 tc) := by rw [cell_of_row _ _ _ _ _ _ hS.2]; rfl
      go_simp
      all_goals with_reducible rfl
    (try simp only [Act.put, List.setIfInBounds_toArray, List.set_cons_zero, List.set_cons_succ])
    refine wpAnyH_takeD (i := 2) (d := some 42) (v := ?v150) rfl rfl (by kernel_rfl) (by kernel_rfl) (by kernel_rfl) (fun _ _ _ h => h) (Or.inl ⟨by rfl, ?hy150⟩) hHeld ?rest150
    case hy150 =>
      intro wS hS
      go_simp
      all_goals with_reducible rfl
    (try simp only [Act.put, List.setIfInBounds_toArray, List.set_cons_zero, List.set_cons_succ])
    refine wpAnyH_takeD (i := 3) (d := some 43) (v := ?v151) rfl rfl (by kernel_rfl) (by kernel_rfl) (by kernel_rfl) (fun _ _ _ h => h) (Or.inl ⟨by rfl, ?hy151⟩) hHeld ?rest151
    case hy151 =>
      intro wS hS
      go_simp
      all_goals with_reducible rfl
    (try simp only [Act.put, List.setIfInBounds_toArray, List.set_cons_zero, List.set_cons_succ])
    refine wpAnyH_takeD (i := 4) (d := some 44) (v := ?v152) rfl rfl (by kernel_rfl) (by kernel_rfl) (by kernel_rfl) (fun _ _ _ h => h) (Or.inl ⟨by rfl, ?hy152⟩) hHeld ?rest152
    case hy152 =>
      intro wS hS
      go_simp
      all_goals with_reducible rfl
    (try simp only [Act.put, List.setIfInBounds_toArray, List.set_cons_zero, List.set_cons_succ])
    refine wpAnyH_takeD (i := 5) (d := some 45) (v := ?v153) rfl rfl (by kernel_rfl) (by kernel_rfl) (by kernel_rfl) (fun _ _ _ h => h) (Or.inl ⟨by rfl, ?hy153⟩) hHeld ?rest153
    case hy153 =>
      intro wS hS
      go_simp
      all_goals with_reducible rfl
    (try simp only [Act.put, List.setIfInBounds_toArray, List.set_cons_zero, List.set_cons_succ])
    refine wpAnyH_takeD (i := 6) (d := some 46) (v := ?v154) rfl rfl (by kernel_rfl) (by kernel_rfl) (by kernel_rfl) (fun _ _ _ h => h) (Or.inl ⟨by rfl, ?hy154⟩) hHeld ?rest154
    case hy154 =>
      intro wS hS
      have k9 : wS.cell? ⟨m, 9, none⟩ = some (.int .i64 s.cnt) := by rw [cell_of_row _ _ _ _ _ _ hS.1]; rfl
      go_simp
      all_goals with_reducible rfl
    (try simp only [Act.put, List.setIfInBounds_toArray, List.set_cons_zero, List.set_cons_succ])
    refine wpAnyH_takeD (i := 7) (d := some 47) (v := ?v155) rfl rfl (by kernel_rfl) (by kernel_rfl) (by kernel_rfl) (fun _ _ _ h => h) (Or.inl ⟨by rfl, ?hy155⟩) hHeld ?rest155
    case hy155 =>
      intro wS hS
      go_simp
      all_goals with_reducible rfl
    (try simp only [Act.put, List.setIfInBounds_toArray, List.set_cons_zero, List.set_cons_succ])
    refine wpAnyH_takeD (i := 8) (d := some 39) (v := ?v156) rfl rfl (by kernel_rfl) (by kernel_rfl) (by kernel_rfl) (fun _ _ _ h => h) (Or.inl ⟨by rfl, ?hy156⟩) hHeld ?rest156
    case hy156 =>
      intro wS hS
      go_simp
      all_goals with_reducible rfl
    (try simp only [Act.put, List.setIfInBounds_toArray, List.set_cons_zero, List.set_cons_succ])
    refine wpAnyH_done (by kernel_rfl) ?_ _
    clear hHeld
    by_cases hcnt : tc = s.cnt
    case neg =>
      have dc : (tc != s.cnt) = true := by simpa using hcnt
      have HF := hid (show EndPost w0 w1 m g i b At nt ct s L (.returned (.int .i64 61)) w7 from by unfold EndPost; rw [HE.out, if_pos hcnt]; exact ⟨rfl, hw6, fun h => absurd h (by decide)⟩)
      clear HE hcnt hm6 hr6 hB6 hw6 hsx6 HP HK HPAY HBUT HTF HR2 HPL2 hfx hcx hcmx
      go_wp2_with fail
      go_ret
      exact HF.out
    have dc : (tc != s.cnt) = false := by simpa using hcnt
    replace HE := hid (HE.out.trans (if_neg (by rw [hcnt]; simp)))
    clear hcnt
    go_wp2_with fail
    have hpI : SeesI w7 Ap s.pl := (own_sees (own_but HP.out hB6 (fun k hk h => own_other HP.out HM2.out (by decide) (by rw [← h]; exact hk)))).below (Below.refl _ _)
    have HEQ := hid (fun W (hb : Below w7.heap.size w7 W) => equalI_any A Ap c cp tp s.pl W (SeesI.below hsx6 hb) (SeesI.below hpI hb) (by have := HTF.out; unfold maxLen; omega) (by have := HPL2.out; unfold maxLen; omega))
    refine wp_region_held_drew (S := fun W => W.heap[m]? = some (.cells (RdCells g i Ap s.pl.length cp s.cnt s.short Ab b.length cb (s.at_ + N) i At nt ct Ak L.length ck tc ts A tp.length c) 56 (0, 0)) ∧ W.heap[gx]? = some (.cells #[.int .i64 tc, .int .u32 ts, .slice A tp.length c] 33 (0, 0))) (by kernel_rfl) ⟨hm6, hr6⟩ (fun hHeld => ?_)
    have hb7 : Below w7.heap.size w7 w7.drew := (Below.refl _ _).drew
    replace hm6 : w7.drew.heap[m]? = _ := hm6
    replace hr6 : w7.drew.heap[gx]? = _ := hr6
    generalize w7.drew = w8 at *
    refine wpAnyH_takeD (i := 0) (d := some 49) (v := ?v157) rfl rfl (by kernel_rfl) (by kernel_rfl) (by kernel_rfl) (fun _ _ _ h => h) (Or.inl ⟨by rfl, ?hy157⟩) hHeld ?rest157
    case hy157 =>
      intro wS hS
      go_simp
      all_goals with_reducible rfl
    (try simp only [Act.put, List.setIfInBounds_toArray, List.set_cons_zero, List.set_cons_succ])
    refine wpAnyH_takeD (i := 1) (d := some 50) (v := ?v158) rfl rfl (by kernel_rfl) (by kernel_rfl) (by kernel_rfl) (fun _ _ _ h => h) (Or.inl ⟨by rfl, ?hy158⟩) hHeld ?rest158
    case hy158 =>
      intro wS hS
      have k2 : wS.cell? ⟨gx, 2, none⟩ = some (.slice A tp.length c) := by rw [cell_of_row _ _ _ _ _ _ hS.2]; rfl
      go_simp
      all_goals with_reducible rfl
    (try simp only [Act.put, List.setIfInBounds_toArray, List.set_cons_zero, List.set_cons_succ])
    refine wpAnyH_takeD (i := 2) (d := some 51) (v := ?v159) rfl rfl (by kernel_rfl) (by kernel_rfl) (by kernel_rfl) (fun _ _ _ h => h) (Or.inl ⟨by rfl, ?hy159⟩) hHeld ?rest159
    case hy159 =>
      intro wS hS
      go_simp
      all_goals with_reducible rfl
    (try simp only [Act.put, List.setIfInBounds_toArray, List.set_cons_zero, List.set_cons_succ])
    refine wpAnyH_takeD (i := 3) (d := some 52) (v := ?v160) rfl rfl (by kernel_rfl) (by kernel_rfl) (by kernel_rfl) (fun _ _ _ h => h) (Or.inl ⟨by rfl, ?hy160⟩) hHeld ?rest160
    case hy160 =>
      intro wS hS
      go_simp
      all_goals with_reducible rfl
    (try simp only [Act.put, List.setIfInBounds_toArray, List.set_cons_zero, List.set_cons_succ])
    refine wpAnyH_takeD (i := 4) (d := some 53) (v := ?v161) rfl rfl (by kernel_rfl) (by kernel_rfl) (by kernel_rfl) (fun _ _ _ h => h) (Or.inl ⟨by rfl, ?hy161⟩) hHeld ?rest161
    case hy161 =>
      intro wS hS
      go_simp
      all_goals with_reducible rfl
    (try simp only [Act.put, List.setIfInBounds_toArray, List.set_cons_zero, List.set_cons_succ])
    refine wpAnyH_takeD (i := 5) (d := some 54) (v := ?v162) rfl rfl (by kernel_rfl) (by kernel_rfl) (by kernel_rfl) (fun _ _ _ h => h) (Or.inl ⟨by rfl, ?hy162⟩) hHeld ?rest162
    case hy162 =>
      intro wS hS
      go_simp
      all_goals with_reducible rfl
    (try simp only [Act.put, List.setIfInBounds_toArray, List.set_cons_zero, List.set_cons_succ])
    refine wpAnyH_takeD (i := 6) (d := some 55) (v := ?v163) rfl rfl (by kernel_rfl) (by kernel_rfl) (by kernel_rfl) (fun _ _ _ h => h) (Or.inl ⟨by rfl, ?hy163⟩) hHeld ?rest163
    case hy163 =>
      intro wS hS
      have k8 : wS.cell? ⟨m, 8, none⟩ = some (.slice Ap s.pl.length cp) := by rw [cell_of_row _ _ _ _ _ _ hS.1]; rfl
      go_simp
      all_goals with_reducible rfl
    (try simp only [Act.put, List.setIfInBounds_toArray, List.set_cons_zero, List.set_cons_succ])
    refine wpAnyH_ready (rs := [7]) (by kernel_rfl) (by simp) (AllReadyH.cons rfl (fun K hK => ?_) AllReadyH.nil)
    rw [if_pos (by rfl)]
    go_simp
    refine (HEQ.out w8 hb7).mono ?_
    rintro e w9 ⟨rfl, hb9⟩
    have hm9 := (hb9.block m (Array.getElem?_eq_some_iff.1 hm6).1).trans hm6
    have hr9 := (hb9.block gx (Array.getElem?_eq_some_iff.1 hr6).1).trans hr6
    have hb79 := hb7.trans (hb9.mono hb7.size)
    have hB9 := hB6.trans (But.of_below (R := fun _ => False) hb79) (fun n h => h.elim)
    have hw9 := hw6.trans (hb79.mono hw6.size)
    have hs9 := SeesI.below hsx6 hb79
    clear hb7 hb9 hm6 hr6 hb79 hB6 hw6 hsx6 HEQ hpI
    go_wp2_with fail
    refine hK.out _ _ ⟨hm9, hr9⟩ (fun hHeld => ?_)
    clear hK K
    (try simp only [Act.put, List.setIfInBounds_toArray, List.set_cons_zero, List.set_cons_succ])
    by_cases hpq : tp = s.pl
    case neg =>
      have dp : decide (tp = s.pl) = false := decide_eq_false hpq
      have HF := hid (show EndPost w0 w1 m g i b At nt ct s L (.returned (.int .i64 60)) w9 from by unfold EndPost; rw [HE.out, if_pos hpq]; exact ⟨rfl, hw9, fun h => absurd h (by decide)⟩)
      clear HE hpq HP HK HPAY HBUT HTF HR2 HPL2 hfx hcx hcmx
      refine wpAnyH_takeD (i := 8) (d := some 57) (v := ?v164) rfl rfl (by kernel_rfl) (by kernel_rfl) (by kernel_rfl) (fun _ _ _ h => h) (Or.inl ⟨by rfl, ?hy164⟩) hHeld ?rest164
      case hy164 =>
        intro wS hS
        go_simp
        all_goals with_reducible rfl
      (try simp only [Act.put, List.setIfInBounds_toArray, List.set_cons_zero, List.set_cons_succ])
      refine wpAnyH_takeD (i := 9) (d := some 48) (v := ?v165) rfl rfl (by kernel_rfl) (by kernel_rfl) (by kernel_rfl) (fun _ _ _ h => h) (Or.inl ⟨by rfl, ?hy165⟩) hHeld ?rest165
      case hy165 =>
        intro wS hS
        go_simp
        all_goals with_reducible rfl
      (try simp only [Act.put, List.setIfInBounds_toArray, List.set_cons_zero, List.set_cons_succ])
      refine wpAnyH_done (by kernel_rfl) ?_ _
      clear hm9 hr9 hB9 hw9 hs9 hHeld
      go_wp2_with fail
      go_ret
      exact HF.out
    have dp : decide (tp = s.pl) = true := decide_eq_true hpq
    have HF := hid (show EndPost w0 w1 m g i b At nt ct s L (.returned (.int .i64 0)) w9 from by
      unfold EndPost
      rw [HE.out, if_neg (by rw [hpq]; simp), HR2.out]
      have hkI := own_sees (own_but HK.out hB9 (fun k hk h => own_other HK.out HM2.out (by decide) (by rw [← h]; exact hk)))
      obtain ⟨q1, q2⟩ := own_cap HK.out
      refine ⟨rfl, hw9, fun _ => ⟨Ap, cp, Ak, ck, A, c, Ab, cb, s.at_ + N, hm9, hkI, fun x hx => ?_, hs9, hcx, hcmx, q1, q2, HBUT.out.trans hB9 (fun n h => .inl (.inl h)), fun a ha => Nat.le_trans hw1 (own_addr HK.out ha).1, fun a ha => Nat.le_trans hW2.out (hfx a ha).1⟩⟩
      obtain ⟨q3, q4, q5, q6⟩ := HPAY.out x hx
      exact ⟨q3.but hB9 (fun hl a ha h => (q6 hl a ha).1 h), q4, q5⟩)
    clear HE hpq HP HK HPAY HBUT HTF HR2 HPL2 hfx hcx hcmx
    refine wpAnyH_takeD (i := 8) (d := some 57) (v := ?v166) rfl rfl (by kernel_rfl) (by kernel_rfl) (by kernel_rfl) (fun _ _ _ h => h) (Or.inl ⟨by rfl, ?hy166⟩) hHeld ?rest166
    case hy166 =>
      intro wS hS
      go_simp
      all_goals with_reducible rfl
    (try simp only [Act.put, List.setIfInBounds_toArray, List.set_cons_zero, List.set_cons_succ])
    refine wpAnyH_takeD (i := 9) (d := some 48) (v := ?v167) rfl rfl (by kernel_rfl) (by kernel_rfl) (by kernel_rfl) (fun _ _ _ h => h) (Or.inl ⟨by rfl, ?hy167⟩) hHeld ?rest167
    case hy167 =>
      intro wS hS
      go_simp
      all_goals with_reducible rfl
    (try simp only [Act.put, List.setIfInBounds_toArray, List.set_cons_zero, List.set_cons_succ])
    refine wpAnyH_done (by kernel_rfl) ?_ _
    clear hm9 hr9 hB9 hw9 hs9 hHeld
    go_wp2_with fail
    go_ret
    exact HF.out
theorem end_any (m g : Nat) (i : InfoV) (Ab : Option Addr) (cb : Nat) (b : List UInt8) (At : Option Addr) (nt ct : Nat) (s : PS) (L : List BlkM) (w0 w1 w : World) (hR : Rdr w0 w1 w m g i Ab cb b At nt ct s L) (hs : s.ok b) (hB : Base w0 g Ab cb b) (hbm : w0.heap.size ≤ m) (hw1 : w0.heap.size ≤ w1.heap.size) :
    Calls Tryz.prog 15 #[.pointer (some ⟨m, 0, none⟩)] w (EndPost w0 w1 m g i b At nt ct s L) := by
  by_cases he : (getT (b.drop s.at_)).1 = 0
  · exact end_go m g i Ab cb b At nt ct s L w0 w1 w hR hs hB hbm hw1 he
  · exact end_err m g i Ab cb b At nt ct s L w0 w1 w hR hs hB hbm he
end Go.Proofs.YtkmhmehofipehaaGreatDoor
