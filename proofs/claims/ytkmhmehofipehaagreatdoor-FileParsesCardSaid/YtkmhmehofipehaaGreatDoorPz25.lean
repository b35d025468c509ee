/- A tail read, at any bytes: the reference's Get. -/
import Derived.Test.YtkmhmehofipehaaGreatDoorPz24
import Derived.Test.YtkmhmehofipehaaGreatDoorPz20
import Derived.Test.YtkmhmehofipehaaGreatDoorPz21
import Derived.Test.YtkmhmehofipehaaGreatDoorPz22
import Derived.Test.YtkmhmehofipehaaGreatDoorPz23
import Derived.Test.YtkmhmehofipehaaGreatDoorPz18
import Derived.Test.YtkmhmehofipehaaGreatDoorPz5
namespace Go.Proofs.YtkmhmehofipehaaGreatDoor
set_option linter.unusedVariables false
open Go.RowKit
theorem rtgetF_any (A : Option Addr) (c : Nat) (l : List UInt8) (w : World) (hl : SeesB w A l) (hc : l.length ≤ c) (hcm : c ≤ maxLen) (hlen : l.length ≤ 140737488355328) :
    Calls Tryz.prog 21 #[.slice A l.length c] w (GetTPostF w (getT l)) := by
  by_cases h0 : 0 < l.length
  · have g0 : l[0]?.getD 69 = l[0] := by rw [List.getElem?_eq_getElem h0]; rfl
    have b0 : ((l[0].toNat : Int) != 69) = !(l[0] == 69) := congrArg not (byte_is l[0] 69 (by omega))
    cases hx : (l[0] == 69) with
    | false =>
      rw [hx] at b0
      have hs : startsT l = false := by unfold startsT; rw [g0, hx]; rfl
      rw [show getT l = (31, 0, 0, 0, []) by unfold getT; rw [if_pos hs]]
      exact rtget_sync0 A c l w hl h0 b0
    | true =>
      rw [hx] at b0
      by_cases h1 : 1 < l.length
      · have g1 : l[1]?.getD 78 = l[1] := by rw [List.getElem?_eq_getElem h1]; rfl
        have b1 : ((l[1].toNat : Int) != 78) = !(l[1] == 78) := congrArg not (byte_is l[1] 78 (by omega))
        cases hy : (l[1] == 78) with
        | false =>
          rw [hy] at b1
          have hs : startsT l = false := by unfold startsT; rw [g0, g1, hx, hy]; rfl
          rw [show getT l = (31, 0, 0, 0, []) by unfold getT; rw [if_pos hs]]
          exact rtget_sync1 A c l w hl h1 b0 b1
        | true =>
          rw [hy] at b1
          have hs : startsT l = true := by unfold startsT; rw [g0, g1, hx, hy]; rfl
          by_cases hn : l.length < 14
          · rw [show getT l = (10, 0, 0, 0, []) by unfold getT; rw [if_neg (by rw [hs]; simp), if_pos hn]]
            exact rtget_end2 A c l w hl h1 b0 b1 hn
          · by_cases hbig : 16777216 < fldT l 10 4
            · rw [show getT l = (60, 0, 0, 0, []) by unfold getT; rw [if_neg (by rw [hs]; simp), if_neg hn, if_pos hbig]]
              exact rtget_many A c l w hl hc hcm hlen (by omega) b0 b1 hbig
            · by_cases hcut : l.length < 18 + 5 * fldT l 10 4
              · rw [show getT l = (10, 0, 0, 0, []) by unfold getT; rw [if_neg (by rw [hs]; simp), if_neg hn, if_neg hbig, if_pos hcut]]
                exact rtget_cut A c l w hl hc hcm hlen (by omega) b0 b1 (by omega) hcut
              · exact rtget_long A c l w hl hc hcm hlen (by omega) b0 b1 hs (by omega) (by omega)
      · have g1 : l[1]?.getD 78 = 78 := by rw [List.getElem?_eq_none (by omega)]; rfl
        have hs : startsT l = true := by unfold startsT; rw [g0, g1, hx]; rfl
        rw [show getT l = (10, 0, 0, 0, []) by unfold getT; rw [if_neg (by rw [hs]; simp), if_pos (by omega)]]
        exact rtget_end1 A c l w hl h0 h1 b0
  · have e0 : l.length = 0 := by omega
    have hs : startsT l = true := by obtain rfl := List.length_eq_zero_iff.1 e0; rfl
    rw [show getT l = (10, 0, 0, 0, []) by unfold getT; rw [if_neg (by rw [hs]; simp), if_pos (by omega)]]
    exact rtget_end0 A c l w hl e0
end Go.Proofs.YtkmhmehofipehaaGreatDoor
/- A file taken apart, by the reference. -/
namespace Go.Proofs.YtkmhmehofipehaaGreatDoor
set_option linter.unusedVariables false
open Go.RowKit
theorem rigetV_any (A : Option Addr) (c : Nat) (l : List UInt8) (w : World) (hl : SeesB w A l) (hc : l.length ≤ c) (hcm : c ≤ maxLen) :
    Calls Tryz.prog 17 #[.slice A l.length c] w (GetIPost w l) := riget_any A c l w hl hc hcm
theorem nineteen (n : Nat) (h : n ≤ 1000000) : wrap64 (19 + (n : Int)) = ((19 + n : Nat) : Int) := by unfold wrap64; omega
theorem elKR : Elem Tryz.prog 41 72 11 96 := Elem.mk' Tryz.underlying41 (z := .agg #[.int .i64 0, .int .i64 0, .int .i64 0, .int .i64 0, .int .i64 0, .bool false, .int .u32 0, .int .i64 0, .slice none 0 0, .int .u32 0, .int .i64 0]) (by kernel_rfl) rfl (by omega)
set_option maxRecDepth 20000 in
set_option maxHeartbeats 8000000 in
theorem rparse_info (A : Option Addr) (c : Nat) (b : List UInt8) (w : World) (hl : SeesB w A b) (hc : b.length ≤ c) (hcm : c ≤ maxLen) (hlen : b.length ≤ 1000000) (hE : (getI b).1 ≠ 0) :
    Calls Tryz.prog 7 #[.slice A b.length c] w (ParsePost w (parseF b)) := by
  have hR : parseF b = ((getI b).1, FileV.zero) := by unfold parseF; rw [if_pos hE]
  have hz0 := heap_alloc_new w (.cells #[.int .i64 0, .int .i64 0, .int .i64 0, .int .i64 0, .int .i64 0, .int .i64 0, .slice none 0 0, .slice none 0 0, .int .i64 0, .int .u32 0, .slice none 0 0] 43)
  have hbz : Below w.heap.size w (w.alloc (.cells #[.int .i64 0, .int .i64 0, .int .i64 0, .int .i64 0, .int .i64 0, .int .i64 0, .slice none 0 0, .slice none 0 0, .int .i64 0, .int .u32 0, .slice none 0 0] 43)) := (Below.refl _ w).alloc (Nat.le_refl _) _
  have hsz : w.heap.size < (w.alloc (.cells #[.int .i64 0, .int .i64 0, .int .i64 0, .int .i64 0, .int .i64 0, .int .i64 0, .slice none 0 0, .slice none 0 0, .int .i64 0, .int .u32 0, .slice none 0 0] 43)).heap.size := by simp
  have hl0 := hl.below hbz
  have hG := hid (rigetV_any A c b (w.alloc (.cells #[.int .i64 0, .int .i64 0, .int .i64 0, .int .i64 0, .int .i64 0, .int .i64 0, .slice none 0 0, .slice none 0 0, .int .i64 0, .int .u32 0, .slice none 0 0] 43)) hl0 hc hcm)
  unfold GetIPost at hG
  obtain ⟨P, hP⟩ : ∃ P, P = parseF b := ⟨_, rfl⟩
  rw [← hP] at hR ⊢
  have HR := hid hR
  clear hP hR
  generalize infoOf b = iv at *
  obtain ⟨E, hEq⟩ : ∃ E, E = (getI b).1 := ⟨_, rfl⟩
  rw [← hEq] at hG HR hE
  have dE : (E != 0) = true := by simpa using hE
  obtain ⟨ik, ich, ibi, ira, ibl, ish⟩ := iv
  clear hEq hE
  unfold InfoV.v at hG
  (try simp only at hG)
  clear hl
  go_enter Tryz.func7, Tryz.ntmps7
  go_wp2_with fail
  generalize w.alloc (.cells #[.int .i64 0, .int .i64 0, .int .i64 0, .int .i64 0, .int .i64 0, .int .i64 0, .slice none 0 0, .slice none 0 0, .int .i64 0, .int .u32 0, .slice none 0 0] 43) = wz at *
  refine hG.out.mono ?_
  rintro e w1 ⟨rfl, hb1⟩
  clear hG
  have hzr := (hb1.block w.heap.size hsz).trans hz0
  have hb1z := hbz.trans (hb1.mono hbz.size)
  have hba : Below w1.heap.size w1 (w1.alloc (.cells #[.int .i64 ik, .int .i64 ich, .int .i64 ibi, .int .i64 ira, .int .i64 ibl, .int .i64 ish] 27)) := (Below.refl _ _).alloc (Nat.le_refl _) _
  have hgi := heap_alloc_new w1 (.cells #[.int .i64 ik, .int .i64 ich, .int .i64 ibi, .int .i64 ira, .int .i64 ibl, .int .i64 ish] 27)
  have hzr2 := (hba.block w.heap.size (Array.getElem?_eq_some_iff.1 hzr).1).trans hzr
  have hbw2 := hb1z.trans (hba.mono hb1z.size)
  have hl2 := SeesB.below (SeesB.below hl0 hb1) hba
  have hzi : w.heap.size < w1.heap.size := (Array.getElem?_eq_some_iff.1 hzr).1
  clear hb1 hz0 hbz hb1z hzr hl0 hba
  go_upto_region 2 with fail
  generalize w1.alloc (.cells #[.int .i64 ik, .int .i64 ich, .int .i64 ibi, .int .i64 ira, .int .i64 ibl, .int .i64 ish] 27) = w2 at *
  generalize w1.heap.size = gi at *
  clear hgi hl2
  go_wp2_with first | (refine wpList_build rfl 43 _ rfl (.agg #[.int .i64 0, .int .i64 0, .int .i64 0, .int .i64 0, .int .i64 0, .int .i64 0, .slice none 0 0, .slice none 0 0, .int .i64 0, .int .u32 0, .slice none 0 0]) (by kernel_rfl) ?_) | (refine wpList_store_row rfl 43 (.tmp 2) (.tmp 29) rfl rfl w.heap.size rfl #[.int .i64 0, .int .i64 0, .int .i64 0, .int .i64 0, .int .i64 0, .int .i64 0, .slice none 0 0, .slice none 0 0, .int .i64 0, .int .u32 0, .slice none 0 0] rfl 43 #[.int .i64 0, .int .i64 0, .int .i64 0, .int .i64 0, .int .i64 0, .int .i64 0, .slice none 0 0, .slice none 0 0, .int .i64 0, .int .u32 0, .slice none 0 0] hzr2 (by kernel_rfl) rfl (by simp [Value.oneCell']) ?_)
  refine bodyPost_ret (v := .tuple #[.agg #[.int .i64 0, .int .i64 0, .int .i64 0, .int .i64 0, .int .i64 0, .int .i64 0, .slice none 0 0, .slice none 0 0, .int .i64 0, .int .u32 0, .slice none 0 0], .int .i64 E]) (results_row_tmp (fn := Tryz.f7) (p := 2) (u := 3) (ty := 43) rfl _ _ w.heap.size _ _ _ _ rfl (setRow_heap _ _ _ _ _ _ hzr2) Tryz.underlying43 rfl (by kernel_rfl)) rfl ?_
  rw [HR.out]
  exact parse_bad E (below_setRow hbw2 (Nat.le_refl _) _)
set_option maxRecDepth 20000 in
set_option maxHeartbeats 8000000 in
theorem rparse_bad (A : Option Addr) (c : Nat) (b : List UInt8) (w : World) (hl : SeesB w A b) (hc : b.length ≤ c) (hcm : c ≤ maxLen) (hlen : b.length ≤ 1000000) (hE : (getI b).1 = 0) (hz : (getG (b.drop 19)).1 ≠ 0) (hc19 : ¬ c = 19) :
    Calls Tryz.prog 7 #[.slice A b.length c] w (ParsePost w (parseF b)) := by
  have hl19 := getI_long hE
  have hgr := (getG_range (b.drop 19)).1
  rw [List.length_drop] at hgr
  have hdl : (b.drop 19).length = b.length - 19 := List.length_drop
  have hR : parseF b = ((getG (b.drop 19)).1, FileV.zero) := by unfold parseF; rw [if_neg (by rw [hE]; simp), if_pos hz]
  have hz0 := heap_alloc_new w (.cells #[.int .i64 0, .int .i64 0, .int .i64 0, .int .i64 0, .int .i64 0, .int .i64 0, .slice none 0 0, .slice none 0 0, .int .i64 0, .int .u32 0, .slice none 0 0] 43)
  have hbz : Below w.heap.size w (w.alloc (.cells #[.int .i64 0, .int .i64 0, .int .i64 0, .int .i64 0, .int .i64 0, .int .i64 0, .slice none 0 0, .slice none 0 0, .int .i64 0, .int .u32 0, .slice none 0 0] 43)) := (Below.refl _ w).alloc (Nat.le_refl _) _
  have hsz : w.heap.size < (w.alloc (.cells #[.int .i64 0, .int .i64 0, .int .i64 0, .int .i64 0, .int .i64 0, .int .i64 0, .slice none 0 0, .slice none 0 0, .int .i64 0, .int .u32 0, .slice none 0 0] 43)).heap.size := by simp
  have hl0 := hl.below hbz
  have hG := hid (rigetV_any A c b (w.alloc (.cells #[.int .i64 0, .int .i64 0, .int .i64 0, .int .i64 0, .int .i64 0, .int .i64 0, .slice none 0 0, .slice none 0 0, .int .i64 0, .int .u32 0, .slice none 0 0] 43)) hl0 hc hcm)
  unfold GetIPost at hG
  obtain ⟨P, hP⟩ : ∃ P, P = parseF b := ⟨_, rfl⟩
  rw [← hP] at hR ⊢
  have HR := hid hR
  clear hP hR
  have HTG := hid (fun A c W hs h1 h2 => rtagget_any A c (b.drop 19) W hs h1 h2 (by rw [hdl]; omega))
  obtain ⟨⟨er, nr, l⟩, hr⟩ : ∃ r, getG (b.drop 19) = r := ⟨_, rfl⟩
  rw [hr] at hz hgr HR HTG
  simp only at hz hgr
  unfold GetGPost at HTG
  simp only at HTG
  rw [hdl] at HTG
  rw [hE] at hG
  have HDL := hid hdl
  clear hdl
  generalize infoOf b = iv at *
  have dE2 : (er != 0) = true := by simpa using hz
  clear hE hr
  obtain ⟨ik, ich, ibi, ira, ibl, ish⟩ := iv
  unfold InfoV.v at hG
  (try simp only at hG)
  clear hl
  go_enter Tryz.func7, Tryz.ntmps7
  go_wp2_with fail
  generalize w.alloc (.cells #[.int .i64 0, .int .i64 0, .int .i64 0, .int .i64 0, .int .i64 0, .int .i64 0, .slice none 0 0, .slice none 0 0, .int .i64 0, .int .u32 0, .slice none 0 0] 43) = wz at *
  refine hG.out.mono ?_
  rintro e w1 ⟨rfl, hb1⟩
  clear hG
  have hzr := (hb1.block w.heap.size hsz).trans hz0
  have hb1z := hbz.trans (hb1.mono hbz.size)
  have hba : Below w1.heap.size w1 (w1.alloc (.cells #[.int .i64 ik, .int .i64 ich, .int .i64 ibi, .int .i64 ira, .int .i64 ibl, .int .i64 ish] 27)) := (Below.refl _ _).alloc (Nat.le_refl _) _
  have hgi := heap_alloc_new w1 (.cells #[.int .i64 ik, .int .i64 ich, .int .i64 ibi, .int .i64 ira, .int .i64 ibl, .int .i64 ish] 27)
  have hzr2 := (hba.block w.heap.size (Array.getElem?_eq_some_iff.1 hzr).1).trans hzr
  have hbw2 := hb1z.trans (hba.mono hb1z.size)
  have hl2 := SeesB.below (SeesB.below hl0 hb1) hba
  have hzi : w.heap.size < w1.heap.size := (Array.getElem?_eq_some_iff.1 hzr).1
  clear hb1 hz0 hbz hb1z hzr hl0 hba
  go_upto_region 2 with fail
  generalize w1.alloc (.cells #[.int .i64 ik, .int .i64 ich, .int .i64 ibi, .int .i64 ira, .int .i64 ibl, .int .i64 ish] 27) = w2 at *
  generalize w1.heap.size = gi at *
  have hdl := HDL.out
  have f19 : (19 : Int) ≤ (b.length : Int) := by omega
  have f19c : (b.length : Int) ≤ (c : Int) := by omega
  obtain ⟨a, rfl, _⟩ := hl2.at (show 0 < b.length by omega)
  have hcx : ¬ c = 19 := hc19
  have hs19 : SeesB w2 (some ⟨a.block, a.off + 19, none⟩) (b.drop 19) := by
    have := SeesB.cutTo hl2 19 b.length
    rw [List.take_of_length_le (by rw [hdl]; omega)] at this
    exact this
  have HT2 := hid (HTG.out (some ⟨a.block, a.off + 19, none⟩) (c - 19) w2 hs19 (by omega) (by omega))
  clear hs19 HTG
  go_wp2_with fail
  refine HT2.out.mono ?_
  rintro e w3 ⟨At, ct, rfl, hst, hct, hb3⟩
  have hzr3 := (hb3.block w.heap.size (Array.getElem?_eq_some_iff.1 hzr2).1).trans hzr2
  have hgi3 := (hb3.block gi (Array.getElem?_eq_some_iff.1 hgi).1).trans hgi
  have hbw3 := hbw2.trans (hb3.mono hbw2.size)
  have hl3 := SeesB.below hl2 hb3
  clear hb3 hzr2 hgi hbw2 hl2 HT2
  clear hgi3 hl3 hst
  go_wp2_with first | (refine wpList_build rfl 43 _ rfl (.agg #[.int .i64 0, .int .i64 0, .int .i64 0, .int .i64 0, .int .i64 0, .int .i64 0, .slice none 0 0, .slice none 0 0, .int .i64 0, .int .u32 0, .slice none 0 0]) (by kernel_rfl) ?_) | (refine wpList_store_row rfl 43 (.tmp 2) (.tmp 40) rfl rfl w.heap.size rfl #[.int .i64 0, .int .i64 0, .int .i64 0, .int .i64 0, .int .i64 0, .int .i64 0, .slice none 0 0, .slice none 0 0, .int .i64 0, .int .u32 0, .slice none 0 0] rfl 43 #[.int .i64 0, .int .i64 0, .int .i64 0, .int .i64 0, .int .i64 0, .int .i64 0, .slice none 0 0, .slice none 0 0, .int .i64 0, .int .u32 0, .slice none 0 0] hzr3 (by kernel_rfl) rfl (by simp [Value.oneCell']) ?_)
  refine bodyPost_ret (v := .tuple #[.agg #[.int .i64 0, .int .i64 0, .int .i64 0, .int .i64 0, .int .i64 0, .int .i64 0, .slice none 0 0, .slice none 0 0, .int .i64 0, .int .u32 0, .slice none 0 0], .int .i64 er]) (results_row_tmp (fn := Tryz.f7) (p := 2) (u := 3) (ty := 43) rfl _ _ w.heap.size _ _ _ _ rfl (setRow_heap _ _ _ _ _ _ hzr3) Tryz.underlying43 rfl (by kernel_rfl)) rfl ?_
  rw [HR.out]
  exact parse_bad er (below_setRow hbw3 (Nat.le_refl _) _)
set_option maxRecDepth 20000 in
set_option maxHeartbeats 8000000 in
theorem rparse_edge (A : Option Addr) (c : Nat) (b : List UInt8) (w : World) (hl : SeesB w A b) (hc : b.length ≤ c) (hcm : c ≤ maxLen) (hlen : b.length ≤ 1000000) (hE : (getI b).1 = 0) (hz : (getG (b.drop 19)).1 ≠ 0) (hc19 : c = 19) :
    Calls Tryz.prog 7 #[.slice A b.length c] w (ParsePost w (parseF b)) := by
  subst hc19
  have hl19 := getI_long hE
  have hgr := (getG_range (b.drop 19)).1
  rw [List.length_drop] at hgr
  have hdl : (b.drop 19).length = b.length - 19 := List.length_drop
  have hR : parseF b = ((getG (b.drop 19)).1, FileV.zero) := by unfold parseF; rw [if_neg (by rw [hE]; simp), if_pos hz]
  have hz0 := heap_alloc_new w (.cells #[.int .i64 0, .int .i64 0, .int .i64 0, .int .i64 0, .int .i64 0, .int .i64 0, .slice none 0 0, .slice none 0 0, .int .i64 0, .int .u32 0, .slice none 0 0] 43)
  have hbz : Below w.heap.size w (w.alloc (.cells #[.int .i64 0, .int .i64 0, .int .i64 0, .int .i64 0, .int .i64 0, .int .i64 0, .slice none 0 0, .slice none 0 0, .int .i64 0, .int .u32 0, .slice none 0 0] 43)) := (Below.refl _ w).alloc (Nat.le_refl _) _
  have hsz : w.heap.size < (w.alloc (.cells #[.int .i64 0, .int .i64 0, .int .i64 0, .int .i64 0, .int .i64 0, .int .i64 0, .slice none 0 0, .slice none 0 0, .int .i64 0, .int .u32 0, .slice none 0 0] 43)).heap.size := by simp
  have hl0 := hl.below hbz
  have hG := hid (rigetV_any A 19 b (w.alloc (.cells #[.int .i64 0, .int .i64 0, .int .i64 0, .int .i64 0, .int .i64 0, .int .i64 0, .slice none 0 0, .slice none 0 0, .int .i64 0, .int .u32 0, .slice none 0 0] 43)) hl0 hc hcm)
  unfold GetIPost at hG
  obtain ⟨P, hP⟩ : ∃ P, P = parseF b := ⟨_, rfl⟩
  rw [← hP] at hR ⊢
  have HR := hid hR
  clear hP hR
  have hbl0 : b.length = 19 := by omega
  rw [hbl0] at hG ⊢
  have HBL := hid hbl0
  clear hbl0
  have HTG := hid (fun A c W hs h1 h2 => rtagget_any A c (b.drop 19) W hs h1 h2 (by rw [hdl]; omega))
  obtain ⟨⟨er, nr, l⟩, hr⟩ : ∃ r, getG (b.drop 19) = r := ⟨_, rfl⟩
  rw [hr] at hz hgr HR HTG
  simp only at hz hgr
  unfold GetGPost at HTG
  simp only at HTG
  rw [hdl] at HTG
  rw [hE] at hG
  have HDL := hid hdl
  clear hdl
  generalize infoOf b = iv at *
  have dE2 : (er != 0) = true := by simpa using hz
  clear hE hr
  obtain ⟨ik, ich, ibi, ira, ibl, ish⟩ := iv
  unfold InfoV.v at hG
  (try simp only at hG)
  clear hl
  go_enter Tryz.func7, Tryz.ntmps7
  go_wp2_with fail
  generalize w.alloc (.cells #[.int .i64 0, .int .i64 0, .int .i64 0, .int .i64 0, .int .i64 0, .int .i64 0, .slice none 0 0, .slice none 0 0, .int .i64 0, .int .u32 0, .slice none 0 0] 43) = wz at *
  refine hG.out.mono ?_
  rintro e w1 ⟨rfl, hb1⟩
  clear hG
  have hzr := (hb1.block w.heap.size hsz).trans hz0
  have hb1z := hbz.trans (hb1.mono hbz.size)
  have hba : Below w1.heap.size w1 (w1.alloc (.cells #[.int .i64 ik, .int .i64 ich, .int .i64 ibi, .int .i64 ira, .int .i64 ibl, .int .i64 ish] 27)) := (Below.refl _ _).alloc (Nat.le_refl _) _
  have hgi := heap_alloc_new w1 (.cells #[.int .i64 ik, .int .i64 ich, .int .i64 ibi, .int .i64 ira, .int .i64 ibl, .int .i64 ish] 27)
  have hzr2 := (hba.block w.heap.size (Array.getElem?_eq_some_iff.1 hzr).1).trans hzr
  have hbw2 := hb1z.trans (hba.mono hb1z.size)
  have hl2 := SeesB.below (SeesB.below hl0 hb1) hba
  have hzi : w.heap.size < w1.heap.size := (Array.getElem?_eq_some_iff.1 hzr).1
  clear hb1 hz0 hbz hb1z hzr hl0 hba
  go_upto_region 2 with fail
  generalize w1.alloc (.cells #[.int .i64 ik, .int .i64 ich, .int .i64 ibi, .int .i64 ira, .int .i64 ibl, .int .i64 ish] 27) = w2 at *
  generalize w1.heap.size = gi at *
  have hdl := HDL.out
  have hbl := HBL.out
  obtain ⟨a, rfl, hca⟩ := hl2.at (show 0 < b.length by omega)
  clear hca
  have hs19 : SeesB w2 (some a) (b.drop 19) := by rw [List.drop_eq_nil_of_le (by omega)]; exact Sees.nil _ _
  have HT2 := hid (HTG.out (some a) 0 w2 hs19 (by omega) (by omega))
  rw [hbl] at HT2
  clear hs19 HTG hbl hdl hl19 hgr hlen hc hcm HBL
  go_wp2_with fail
  refine HT2.out.mono ?_
  rintro e w3 ⟨At, ct, rfl, hst, hct, hb3⟩
  have hzr3 := (hb3.block w.heap.size (Array.getElem?_eq_some_iff.1 hzr2).1).trans hzr2
  have hbw3 := hbw2.trans (hb3.mono hbw2.size)
  clear hb3 hzr2 hgi hbw2 hl2 HT2 hst
  go_wp2_with first | (refine wpList_build rfl 43 _ rfl (.agg #[.int .i64 0, .int .i64 0, .int .i64 0, .int .i64 0, .int .i64 0, .int .i64 0, .slice none 0 0, .slice none 0 0, .int .i64 0, .int .u32 0, .slice none 0 0]) (by kernel_rfl) ?_) | (refine wpList_store_row rfl 43 (.tmp 2) (.tmp 40) rfl rfl w.heap.size rfl #[.int .i64 0, .int .i64 0, .int .i64 0, .int .i64 0, .int .i64 0, .int .i64 0, .slice none 0 0, .slice none 0 0, .int .i64 0, .int .u32 0, .slice none 0 0] rfl 43 #[.int .i64 0, .int .i64 0, .int .i64 0, .int .i64 0, .int .i64 0, .int .i64 0, .slice none 0 0, .slice none 0 0, .int .i64 0, .int .u32 0, .slice none 0 0] hzr3 (by kernel_rfl) rfl (by simp [Value.oneCell']) ?_)
  refine bodyPost_ret (v := .tuple #[.agg #[.int .i64 0, .int .i64 0, .int .i64 0, .int .i64 0, .int .i64 0, .int .i64 0, .slice none 0 0, .slice none 0 0, .int .i64 0, .int .u32 0, .slice none 0 0], .int .i64 er]) (results_row_tmp (fn := Tryz.f7) (p := 2) (u := 3) (ty := 43) rfl _ _ w.heap.size _ _ _ _ rfl (setRow_heap _ _ _ _ _ _ hzr3) Tryz.underlying43 rfl (by kernel_rfl)) rfl ?_
  rw [HR.out]
  exact parse_bad er (below_setRow hbw3 (Nat.le_refl _) _)
end Go.Proofs.YtkmhmehofipehaaGreatDoor
/- A file taken apart, by the reference: behind its loop. -/
namespace Go.Proofs.YtkmhmehofipehaaGreatDoor
set_option linter.unusedVariables false
open Go.RowKit
/-- a region of a function's code -/
def codeAt (n : Nat) : Code → Option Code
  | .region i o d => if i = n then some (.region i o d) else none
  | .seq x y => match codeAt n x with
    | some c => some c
    | none => codeAt n y
  | .cond _ x y => match codeAt n x with
    | some c => some c
    | none => codeAt n y
  | .block _ c => codeAt n c
  | .loop c => codeAt n c
  | .scope c => codeAt n c
  | _ => none
/-- what stands behind it -/
def codeBehind (n : Nat) : Code → Option Code
  | .seq (.region i o d) y => if i = n then some y else codeBehind n y
  | .seq x y => match codeBehind n x with
    | some c => some c
    | none => codeBehind n y
  | .cond _ x y => match codeBehind n x with
    | some c => some c
    | none => codeBehind n y
  | .block _ c => codeBehind n c
  | .loop c => codeBehind n c
  | .scope c => codeBehind n c
  | _ => none
set_option maxRecDepth 100000 in
set_option maxHeartbeats 8000000 in
theorem rend {a : Addr} {c : Nat} {b : List UInt8} {w w3 wr : World} {m : Nat} {P : Int × FileV} {l : List TagV} {At : Option Addr} {ct : Nat} {ik ich ibi ira ibl ish : Int} {s : PS} {L : List BlkM} {Ap : Option Addr} {cp : Nat} {Ak : Option Addr} {ck : Nat} {K : Act → World → Prop} {v1 v3 v4 v5 v6 v7 v8 v12 v14 v15 v16 v17 v18 v19 v20 v21 v22 v23 v24 v25 v26 v27 v28 v29 v30 v31 v32 v33 v34 v35 v36 v37 v38 v39 v40 v41 v42 v43 v44 v45 v46 v47 v48 v49 v50 v51 v52 v53 v54 v55 v56 v57 v58 v59 v60 v61 v62 v63 v64 v65 v66 v67 v68 v69 v70 v71 v72 v73 v74 v75 v76 v77 v78 v79 v80 v81 v82 v83 v84 v85 v86 v87 v88 v89 v90 v91 v92 v93 v94 v95 v96 v97 v98 v99 v100 v101 v102 v103 v104 v105 v106 v107 v108 v109 v110 v111 v112 v113 v114 v115 v116 v117 v118 v119 v120 v121 v122 v123 v124 v125 v126 v127 v128 v129 v130 v131 v132 v133 v134 v135 v136 v137 v138 v139 v140 v141 v142 v143 v144 v145 v146 v147 v148 v149 v150 v151 v152 v153 : Value}
    (hc : b.length ≤ c) (hcm : c ≤ maxLen) (hlen : b.length ≤ 1000000) (hl3 : SeesB w3 (some a) b) (hst : SeesT w3 At l) (hct : l.length ≤ ct) (hzr3 : w3.heap[w.heap.size]? = some (.cells #[.int .i64 0, .int .i64 0, .int .i64 0, .int .i64 0, .int .i64 0, .int .i64 0, .slice none 0 0, .slice none 0 0, .int .i64 0, .int .u32 0, .slice none 0 0] 43 (0, 0))) (hbw3 : Below w.heap.size w w3) (hzm : w.heap.size < m) (hmeq : Hid (w3.heap.size = m))
    (hm : wr.heap[m]? = some (.cells #[.int .i64 ik, .int .i64 ich, .int .i64 ibi, .int .i64 ira, .int .i64 ibl, .int .i64 ish, .slice At l.length ct, .slice Ak L.length ck, .int .i64 0, .int .u32 0, .slice none 0 0] 43 (0, 0))) (hp : wr.ownsRow (m + 1) 3 1 (.slice Ap s.pl.length cp) s.pl.length (s.pl.map intV)) (hk : wr.ownsRow (m + 1) 72 11 (.slice Ak L.length ck) L.length (flatM L)) (hpay : ∀ x ∈ L, SeesB w3 x.A x.p ∧ x.p.length ≤ x.c ∧ x.c ≤ maxLen) (hbl : s.bl = L.map BlkM.plain) (hbw : Below m w3 wr) (hmr : m + 1 ≤ wr.heap.size) (hs : s.ok b) (hHP : P = finP (⟨ik, ich, ibi, ira, ibl, ish⟩ : InfoV) l b (0, s)) (hpos : s.at_ < b.length)
    (hK : ∀ a' w', Code.wp Tryz.prog ((Tryz.f7.body.bind (codeBehind 28)).getD .skip) (bodyPost Tryz.prog Tryz.f7 (ParsePost w P)) a' w' → K a' w') :
    Code.wp Tryz.prog ((Tryz.f7.body.bind (codeAt 28)).getD .skip) (Exit.then K (bodyPost Tryz.prog Tryz.f7 (ParsePost w P))) ⟨#[.slice (some a) b.length c, v1, .pointer (some ⟨w.heap.size, 0, none⟩), v3, v4, v5, v6, v7, v8, .pointer (some ⟨m, 0, none⟩), .int .i64 (s.at_ : Int), .int .i64 s.cnt, v12, .slice Ap s.pl.length cp, v14, v15, v16, v17, v18, v19, v20, v21, v22, v23, v24, v25, v26, v27, v28, v29, v30, v31, v32, v33, v34, v35, v36, v37, v38, v39, v40, v41, v42, v43, v44, v45, v46, v47, v48, v49, v50, v51, v52, v53, v54, v55, v56, v57, v58, v59, v60, v61, v62, v63, v64, v65, v66, v67, v68, v69, v70, v71, v72, v73, v74, v75, v76, v77, v78, v79, v80, v81, v82, v83, v84, v85, v86, v87, v88, v89, v90, v91, v92, v93, v94, v95, v96, v97, v98, v99, v100, v101, v102, v103, v104, v105, v106, v107, v108, v109, v110, v111, v112, v113, v114, v115, v116, v117, v118, v119, v120, v121, v122, v123, v124, v125, v126, v127, v128, v129, v130, v131, v132, v133, v134, v135, v136, v137, v138, v139, v140, v141, v142, v143, v144, v145, v146, v147, v148, v149, v150, v151, v152, v153], []⟩ wr := by
  conv => arg 2; whnf
  conv at hK => enter [a', w', 1, 2]; whnf
  have hmw : w.heap.size ≤ m := Nat.le_of_lt hzm
  have hat := hs.at_
  have h36 := hs.at36
  have hdl2 : (b.drop s.at_).length = b.length - s.at_ := List.length_drop
  have hposi : (s.at_ : Int) < (b.length : Int) := by omega
  have hbwm : Below w3.heap.size w3 wr := by rw [hmeq.out]; exact hbw
  have hlr := SeesB.below hl3 hbwm
  have hamb : a.block < m := by
    have h1 := SeesB.lt hl3 (by intro h; rw [h] at hpos; simp at hpos) (a := a) rfl
    rw [hmeq.out] at h1
    exact h1
  have hsd : SeesB wr (some (a.add s.at_)) (b.drop s.at_) := by
    have := SeesB.cutTo hlr s.at_ b.length
    rw [List.take_of_length_le (by rw [hdl2]; omega)] at this
    exact this
  have hmrl : m < wr.heap.size := hmr
  have hmr2 : m ≤ wr.heap.size := Nat.le_of_lt hmr
  have hO := rtgetF_any (some (a.add s.at_)) (c - s.at_) (b.drop s.at_) wr hsd (by omega) (by omega) (by omega)
  have hTr := getT_range (b.drop s.at_)
  have hTf := getT_few (b.drop s.at_)
  unfold finP at hHP
  rw [if_neg (by simp)] at hHP
  simp only [tailE] at hHP
  have hnp : s.pl.length ≤ 100000 := by omega
  have hcn := hs.cnt
  obtain ⟨⟨E, tn, tc, ts, tp⟩, hr⟩ : ∃ r, getT (b.drop s.at_) = r := ⟨_, rfl⟩
  rw [hr] at hO hHP hTr hTf
  unfold GetTPostF at hO
  rw [hdl2] at hO hTr
  (try simp only at hO hHP hTr hTf)
  obtain ⟨tn, rfl⟩ := Int.eq_ofNat_of_zero_le hTr.1
  rw [Int.toNat_natCast] at hHP
  have HW := hid (show wrap64 ((s.at_ : Int) + (tn : Int)) = (s.at_ : Int) + (tn : Int) by unfold wrap64; omega)
  have HPP := hid hHP
  have HOP := hid hO
  have HTF := hid (show tp.length ≤ maxLen by unfold maxLen; omega)
  have HNP := hid (show s.pl.length ≤ maxLen by unfold maxLen; omega)
  have HBL := hid hbl
  have HPAY := hid hpay
  have HLL := hid (own_cap hk)
  clear hr hsd hlr hHP hO hTr hTf hnp hcn hbl hpay hdl2 h36 hs
  go_wp2_with fail
  refine HOP.out.mono ?_
  rintro e w5 ⟨Ax, cx, rfl, hs5, hc5, hcm5, hb5, hA5⟩
  have hm5 := (hb5.block m hmrl).trans hm
  have hp5 := own_keepF hp hb5
  have hk5 := own_keepF hk hb5
  have hbw5 : Below m w3 w5 := hbw.trans (hb5.mono hmr2)
  have hmr5 : m + 1 ≤ w5.heap.size := Nat.le_trans hmr hb5.size
  have hba : Below w5.heap.size w5 (w5.alloc (.cells #[.int .i64 tc, .int .u32 ts, .slice Ax tp.length cx] 33)) := (Below.refl _ _).alloc (Nat.le_refl _) _
  have hgx6 := heap_alloc_new w5 (.cells #[.int .i64 tc, .int .u32 ts, .slice Ax tp.length cx] 33)
  have hm6 := (hba.block m hmr5).trans hm5
  have hp6 := own_keepF hp5 hba
  have hk6 := own_keepF hk5 hba
  have hs6 := SeesI.below hs5 hba
  have hbw6 : Below m w3 (w5.alloc (.cells #[.int .i64 tc, .int .u32 ts, .slice Ax tp.length cx] 33)) := hbw5.trans (hba.mono (Nat.le_of_lt hmr5))
  have hmr6 := Nat.le_trans hmr5 hba.size
  have hA6 : ∀ x, Ax = some x → m + 1 ≤ x.block := fun x hx => Nat.le_trans hmr (hA5 x hx)
  clear hba hbw5 hb5 hm5 hp5 hk5 hs5 hA5 hmr5 hm hp hk hmr2 hmrl HOP
  go_upto_region 29 with fail
  generalize w5.alloc (.cells #[.int .i64 tc, .int .u32 ts, .slice Ax tp.length cx] 33) = w6 at *
  generalize w5.heap.size = gx at *
  by_cases hE0 : E = 0
  · subst hE0
    have dE : ((0 : Int) != 0) = false := rfl
    by_cases hmore : s.at_ + tn < b.length
    · have dm : decide ((s.at_ : Int) + (tn : Int) < (b.length : Int)) = true := decide_eq_true (by omega)
      have dmn : decide (s.at_ + tn < b.length) = true := decide_eq_true hmore
      have HF := hid (show P = (62, FileV.zero) by rw [HPP.out]; simp [hmore])
      clear hm6 hp6 hk6 hgx6 hs6 hmore
      have hwr := HW.out
      have hzrX := (hbw6.block w.heap.size hzm).trans hzr3
      have hbwX := hbw3.trans (hbw6.mono hmw)
      go_wp2_with first | (refine wpList_build rfl 43 _ rfl (.agg #[.int .i64 0, .int .i64 0, .int .i64 0, .int .i64 0, .int .i64 0, .int .i64 0, .slice none 0 0, .slice none 0 0, .int .i64 0, .int .u32 0, .slice none 0 0]) (by kernel_rfl) ?_) | (refine wpList_store_row rfl 43 (.tmp 2) (.tmp 139) rfl rfl w.heap.size rfl #[.int .i64 0, .int .i64 0, .int .i64 0, .int .i64 0, .int .i64 0, .int .i64 0, .slice none 0 0, .slice none 0 0, .int .i64 0, .int .u32 0, .slice none 0 0] rfl 43 #[.int .i64 0, .int .i64 0, .int .i64 0, .int .i64 0, .int .i64 0, .int .i64 0, .slice none 0 0, .slice none 0 0, .int .i64 0, .int .u32 0, .slice none 0 0] hzrX (by kernel_rfl) rfl (by simp [Value.oneCell']) ?_)
      refine bodyPost_ret (v := .tuple #[.agg #[.int .i64 0, .int .i64 0, .int .i64 0, .int .i64 0, .int .i64 0, .int .i64 0, .slice none 0 0, .slice none 0 0, .int .i64 0, .int .u32 0, .slice none 0 0], .int .i64 62]) (results_row_tmp (fn := Tryz.f7) (p := 2) (u := 3) (ty := 43) rfl _ _ w.heap.size _ _ _ _ rfl (setRow_heap _ _ _ _ _ _ hzrX) Tryz.underlying43 rfl (by kernel_rfl)) rfl ?_
      rw [HF.out]
      exact parse_bad _ (below_setRow hbwX (Nat.le_refl _) _)
    · by_cases hcnt : tc ≠ s.cnt
      · have dm : decide ((s.at_ : Int) + (tn : Int) < (b.length : Int)) = false := decide_eq_false (by omega)
        have dmn : decide (s.at_ + tn < b.length) = false := decide_eq_false hmore
        have dc : (tc != s.cnt) = true := by simpa using hcnt
        have HF := hid (show P = (61, FileV.zero) by rw [HPP.out]; simp [hmore, hcnt])
        have c0 : w6.cell? ⟨gx, 0, none⟩ = some (.int .i64 tc) := by rw [cell_of_row _ _ _ _ _ _ hgx6]; rfl
        clear hm6 hp6 hk6 hgx6 hs6 hmore hcnt
        have hwr := HW.out
        have hzrX := (hbw6.block w.heap.size hzm).trans hzr3
        have hbwX := hbw3.trans (hbw6.mono hmw)
        go_wp2_with first | (refine wpList_build rfl 43 _ rfl (.agg #[.int .i64 0, .int .i64 0, .int .i64 0, .int .i64 0, .int .i64 0, .int .i64 0, .slice none 0 0, .slice none 0 0, .int .i64 0, .int .u32 0, .slice none 0 0]) (by kernel_rfl) ?_) | (refine wpList_store_row rfl 43 (.tmp 2) (.tmp 144) rfl rfl w.heap.size rfl #[.int .i64 0, .int .i64 0, .int .i64 0, .int .i64 0, .int .i64 0, .int .i64 0, .slice none 0 0, .slice none 0 0, .int .i64 0, .int .u32 0, .slice none 0 0] rfl 43 #[.int .i64 0, .int .i64 0, .int .i64 0, .int .i64 0, .int .i64 0, .int .i64 0, .slice none 0 0, .slice none 0 0, .int .i64 0, .int .u32 0, .slice none 0 0] hzrX (by kernel_rfl) rfl (by simp [Value.oneCell']) ?_)
        refine bodyPost_ret (v := .tuple #[.agg #[.int .i64 0, .int .i64 0, .int .i64 0, .int .i64 0, .int .i64 0, .int .i64 0, .slice none 0 0, .slice none 0 0, .int .i64 0, .int .u32 0, .slice none 0 0], .int .i64 61]) (results_row_tmp (fn := Tryz.f7) (p := 2) (u := 3) (ty := 43) rfl _ _ w.heap.size _ _ _ _ rfl (setRow_heap _ _ _ _ _ _ hzrX) Tryz.underlying43 rfl (by kernel_rfl)) rfl ?_
        rw [HF.out]
        exact parse_bad _ (below_setRow hbwX (Nat.le_refl _) _)
      · by_cases hpl : tp = s.pl
        · have dt : decide (tp = s.pl) = true := decide_eq_true hpl
          have HF := hid (show P = (0, ⟨(⟨ik, ich, ibi, ira, ibl, ish⟩ : InfoV), l, s.bl, tc, ts, tp⟩) by rw [HPP.out]; simp [hmore, hcnt, hpl])
          have dc : (tc != s.cnt) = false := by simpa using hcnt
          have dm : decide ((s.at_ : Int) + (tn : Int) < (b.length : Int)) = false := decide_eq_false (by omega)
          have dmn : decide (s.at_ + tn < b.length) = false := decide_eq_false hmore
          have HPL := hid hpl
          clear hmore hcnt hpl HPP
          have c0 : w6.cell? ⟨gx, 0, none⟩ = some (.int .i64 tc) := by rw [cell_of_row _ _ _ _ _ _ hgx6]; rfl
          have c2 : w6.cell? ⟨gx, 2, none⟩ = some (.slice Ax tp.length cx) := by rw [cell_of_row _ _ _ _ _ _ hgx6]; rfl
          have HRI := hid (rints_any Ax Ap cx cp tp s.pl w6 hs6 (own_sees hp6) HTF.out HNP.out)
          have hwr := HW.out
          go_wp2_with fail
          clear hwr
          refine HRI.out.mono ?_
          rintro e w7 ⟨rfl, hb7⟩
          have hbw7 : Below m w3 w7 := hbw6.trans (hb7.mono (Nat.le_of_succ_le hmr6))
          have hm7 := (hb7.block m hmr6).trans hm6
          have hgx7 := (hb7.block gx (Array.getElem?_eq_some_iff.1 hgx6).1).trans hgx6
          have hk7 := own_keepF hk6 hb7
          have hs7 := SeesI.below hs6 hb7
          clear c0 c2 HRI hb7 hbw6 hm6 hgx6 hk6 hs6 hp6
          rw [dt]
          have hm8 := setRow_heap w7 m _ #[.int .i64 ik, .int .i64 ich, .int .i64 ibi, .int .i64 ira, .int .i64 ibl, .int .i64 ish, .slice At l.length ct, .slice Ak L.length ck, .int .i64 tc, .int .u32 ts, .slice Ax tp.length cx] _ _ hm7
          have hzr7 := (hbw7.block w.heap.size hzm).trans hzr3
          have hzr8 := (setRow_other w7 m w.heap.size #[.int .i64 ik, .int .i64 ich, .int .i64 ibi, .int .i64 ira, .int .i64 ibl, .int .i64 ish, .slice At l.length ct, .slice Ak L.length ck, .int .i64 tc, .int .u32 ts, .slice Ax tp.length cx] (by omega)).trans hzr7
          have hbw8 : Below m w3 (w7.setRow m #[.int .i64 ik, .int .i64 ich, .int .i64 ibi, .int .i64 ira, .int .i64 ibl, .int .i64 ish, .slice At l.length ct, .slice Ak L.length ck, .int .i64 tc, .int .u32 ts, .slice Ax tp.length cx]) := below_setRow hbw7 (Nat.le_refl _) _
          have hbwX := hbw3.trans (hbw8.mono hmw)
          have hbwm8 : Below w3.heap.size w3 (w7.setRow m #[.int .i64 ik, .int .i64 ich, .int .i64 ibi, .int .i64 ira, .int .i64 ibl, .int .i64 ish, .slice At l.length ct, .slice Ak L.length ck, .int .i64 tc, .int .u32 ts, .slice Ax tp.length cx]) := by rw [hmeq.out]; exact hbw8
          have hst8 := hst.below hbwm8
          have hA7 := fun x hx => (own_addr hk7 (a := x) hx).1
          have HFIN : ParsePost w P (.returned (.tuple #[.agg #[.int .i64 ik, .int .i64 ich, .int .i64 ibi, .int .i64 ira, .int .i64 ibl, .int .i64 ish, .slice At l.length ct, .slice Ak L.length ck, .int .i64 tc, .int .u32 ts, .slice Ax tp.length cx], .int .i64 0])) ((w7.setRow m #[.int .i64 ik, .int .i64 ich, .int .i64 ibi, .int .i64 ira, .int .i64 ibl, .int .i64 ish, .slice At l.length ct, .slice Ak L.length ck, .int .i64 tc, .int .u32 ts, .slice Ax tp.length cx]).setRow w.heap.size #[.int .i64 ik, .int .i64 ich, .int .i64 ibi, .int .i64 ira, .int .i64 ibl, .int .i64 ish, .slice At l.length ct, .slice Ak L.length ck, .int .i64 tc, .int .u32 ts, .slice Ax tp.length cx]) := by
            rw [HF.out]
            refine ⟨At, ct, Ak, ck, Ax, cx, L, rfl, hst8.butZ (but_row w.heap.size #[.int .i64 ik, .int .i64 ich, .int .i64 ibi, .int .i64 ira, .int .i64 ibl, .int .i64 ish, .slice At l.length ct, .slice Ak L.length ck, .int .i64 tc, .int .u32 ts, .slice Ax tp.length cx]) hzr8, hct, ?_, HBL.out, fun x hx => ?_, HLL.out.1, HLL.out.2, ?_, hc5, hcm5, below_setRow hbwX (Nat.le_refl _) _⟩
            · exact Sees.setRowFar (Sees.setRowFar (own_sees hk7) m _ (fun x hx => by have := hA7 x hx; omega)) w.heap.size _ (fun x hx => by have := hA7 x hx; omega)
            · obtain ⟨q1, q2, q3⟩ := HPAY.out x hx
              exact ⟨(q1.below hbwm8).butNob (but_row w.heap.size _) hzr8 zeroF_nob, q2, q3⟩
            · exact Sees.setRowFar (Sees.setRowFar (show Sees w7 Ax (tp.map intV) from hs7) m _ (fun x hx => by have := hA6 x hx; omega)) w.heap.size _ (fun x hx => by have := hA6 x hx; omega)
          clear hst8 hk7 hs7 hbw7 hbw8 hbwX hbwm8 HBL HPAY HLL HPL
          go_wp2_with first
            | (refine wpList_load_row rfl 33 (.tmp 19) rfl gx rfl 33 #[.int .i64 tc, .int .u32 ts, .slice Ax tp.length cx] (0, 0) _ hgx7 Tryz.underlying33 rfl (by kernel_rfl) ?_)
            | (refine wpList_store_part rfl 33 (.tmp 152) (.tmp 151) rfl rfl m 8 rfl #[.int .i64 tc, .int .u32 ts, .slice Ax tp.length cx] rfl 43 _ #[.int .i64 ik, .int .i64 ich, .int .i64 ibi, .int .i64 ira, .int .i64 ibl, .int .i64 ish, .slice At l.length ct, .slice Ak L.length ck, .int .i64 tc, .int .u32 ts, .slice Ax tp.length cx] hm7 (by kernel_rfl) (by simp) (by simp [Value.oneCell']) rfl ?_)
            | (refine wpList_load_row rfl 43 (.tmp 9) rfl m rfl 43 #[.int .i64 ik, .int .i64 ich, .int .i64 ibi, .int .i64 ira, .int .i64 ibl, .int .i64 ish, .slice At l.length ct, .slice Ak L.length ck, .int .i64 tc, .int .u32 ts, .slice Ax tp.length cx] (0, 0) _ hm8 Tryz.underlying43 rfl (by kernel_rfl) ?_)
            | (refine wpList_store_row rfl 43 (.tmp 2) (.tmp 153) rfl rfl w.heap.size rfl #[.int .i64 ik, .int .i64 ich, .int .i64 ibi, .int .i64 ira, .int .i64 ibl, .int .i64 ish, .slice At l.length ct, .slice Ak L.length ck, .int .i64 tc, .int .u32 ts, .slice Ax tp.length cx] rfl 43 #[.int .i64 0, .int .i64 0, .int .i64 0, .int .i64 0, .int .i64 0, .int .i64 0, .slice none 0 0, .slice none 0 0, .int .i64 0, .int .u32 0, .slice none 0 0] hzr8 (by kernel_rfl) rfl (by simp [Value.oneCell']) ?_)
          refine bodyPost_ret (v := .tuple #[.agg #[.int .i64 ik, .int .i64 ich, .int .i64 ibi, .int .i64 ira, .int .i64 ibl, .int .i64 ish, .slice At l.length ct, .slice Ak L.length ck, .int .i64 tc, .int .u32 ts, .slice Ax tp.length cx], .int .i64 0]) (results_row_tmp (fn := Tryz.f7) (p := 2) (u := 3) (ty := 43) rfl _ _ w.heap.size _ _ _ _ rfl (setRow_heap _ _ _ _ _ _ hzr8) Tryz.underlying43 rfl (by kernel_rfl)) rfl ?_
          exact HFIN
        · have dt : decide (tp = s.pl) = false := decide_eq_false hpl
          have HF := hid (show P = (60, FileV.zero) by rw [HPP.out]; simp [hmore, hcnt, hpl])
          have dc : (tc != s.cnt) = false := by simpa using hcnt
          have dm : decide ((s.at_ : Int) + (tn : Int) < (b.length : Int)) = false := decide_eq_false (by omega)
          have dmn : decide (s.at_ + tn < b.length) = false := decide_eq_false hmore
          clear hmore hcnt hpl HPP
          have c0 : w6.cell? ⟨gx, 0, none⟩ = some (.int .i64 tc) := by rw [cell_of_row _ _ _ _ _ _ hgx6]; rfl
          have c2 : w6.cell? ⟨gx, 2, none⟩ = some (.slice Ax tp.length cx) := by rw [cell_of_row _ _ _ _ _ _ hgx6]; rfl
          have HRI := hid (rints_any Ax Ap cx cp tp s.pl w6 hs6 (own_sees hp6) HTF.out HNP.out)
          have hwr := HW.out
          go_wp2_with fail
          clear hwr
          refine HRI.out.mono ?_
          rintro e w7 ⟨rfl, hb7⟩
          have hbw7 : Below m w3 w7 := hbw6.trans (hb7.mono (Nat.le_of_succ_le hmr6))
          have hm7 := (hb7.block m hmr6).trans hm6
          have hgx7 := (hb7.block gx (Array.getElem?_eq_some_iff.1 hgx6).1).trans hgx6
          have hk7 := own_keepF hk6 hb7
          have hs7 := SeesI.below hs6 hb7
          clear c0 c2 HRI hb7 hbw6 hm6 hgx6 hk6 hs6 hp6
          rw [dt]
          have hzrX := (hbw7.block w.heap.size hzm).trans hzr3
          have hbwX := hbw3.trans (hbw7.mono hmw)
          go_wp2_with first | (refine wpList_build rfl 43 _ rfl (.agg #[.int .i64 0, .int .i64 0, .int .i64 0, .int .i64 0, .int .i64 0, .int .i64 0, .slice none 0 0, .slice none 0 0, .int .i64 0, .int .u32 0, .slice none 0 0]) (by kernel_rfl) ?_) | (refine wpList_store_row rfl 43 (.tmp 2) (.tmp 150) rfl rfl w.heap.size rfl #[.int .i64 0, .int .i64 0, .int .i64 0, .int .i64 0, .int .i64 0, .int .i64 0, .slice none 0 0, .slice none 0 0, .int .i64 0, .int .u32 0, .slice none 0 0] rfl 43 #[.int .i64 0, .int .i64 0, .int .i64 0, .int .i64 0, .int .i64 0, .int .i64 0, .slice none 0 0, .slice none 0 0, .int .i64 0, .int .u32 0, .slice none 0 0] hzrX (by kernel_rfl) rfl (by simp [Value.oneCell']) ?_)
          refine bodyPost_ret (v := .tuple #[.agg #[.int .i64 0, .int .i64 0, .int .i64 0, .int .i64 0, .int .i64 0, .int .i64 0, .slice none 0 0, .slice none 0 0, .int .i64 0, .int .u32 0, .slice none 0 0], .int .i64 60]) (results_row_tmp (fn := Tryz.f7) (p := 2) (u := 3) (ty := 43) rfl _ _ w.heap.size _ _ _ _ rfl (setRow_heap _ _ _ _ _ _ hzrX) Tryz.underlying43 rfl (by kernel_rfl)) rfl ?_
          rw [HF.out]
          exact parse_bad _ (below_setRow hbwX (Nat.le_refl _) _)
  · have dE : (E != 0) = true := by simpa using hE0
    have HF := hid (show P = (E, FileV.zero) by rw [HPP.out, if_pos hE0, if_pos hE0])
    clear hm6 hp6 hk6 hgx6 hs6
    have hzrX := (hbw6.block w.heap.size hzm).trans hzr3
    have hbwX := hbw3.trans (hbw6.mono hmw)
    go_wp2_with first | (refine wpList_build rfl 43 _ rfl (.agg #[.int .i64 0, .int .i64 0, .int .i64 0, .int .i64 0, .int .i64 0, .int .i64 0, .slice none 0 0, .slice none 0 0, .int .i64 0, .int .u32 0, .slice none 0 0]) (by kernel_rfl) ?_) | (refine wpList_store_row rfl 43 (.tmp 2) (.tmp 131) rfl rfl w.heap.size rfl #[.int .i64 0, .int .i64 0, .int .i64 0, .int .i64 0, .int .i64 0, .int .i64 0, .slice none 0 0, .slice none 0 0, .int .i64 0, .int .u32 0, .slice none 0 0] rfl 43 #[.int .i64 0, .int .i64 0, .int .i64 0, .int .i64 0, .int .i64 0, .int .i64 0, .slice none 0 0, .slice none 0 0, .int .i64 0, .int .u32 0, .slice none 0 0] hzrX (by kernel_rfl) rfl (by simp [Value.oneCell']) ?_)
    refine bodyPost_ret (v := .tuple #[.agg #[.int .i64 0, .int .i64 0, .int .i64 0, .int .i64 0, .int .i64 0, .int .i64 0, .slice none 0 0, .slice none 0 0, .int .i64 0, .int .u32 0, .slice none 0 0], .int .i64 E]) (results_row_tmp (fn := Tryz.f7) (p := 2) (u := 3) (ty := 43) rfl _ _ w.heap.size _ _ _ _ rfl (setRow_heap _ _ _ _ _ _ hzrX) Tryz.underlying43 rfl (by kernel_rfl)) rfl ?_
    rw [HF.out]
    exact parse_bad _ (below_setRow hbwX (Nat.le_refl _) _)
end Go.Proofs.YtkmhmehofipehaaGreatDoor
/- A file taken apart, by the reference: a block more. -/
namespace Go.Proofs.YtkmhmehofipehaaGreatDoor
set_option linter.unusedVariables false
open Go.RowKit
def NextFacts (p N B n pl : Nat) (cnt len : Int) : Prop :=
  Value.int .i64 (wrap64 (wrap64 ((p : Int) + 36) + (N : Int))) = .int .i64 ((p + (36 + N) : Nat) : Int) ∧ Value.int .i64 (wrap64 (cnt + len)) = .int .i64 (cnt + len) ∧ Value.int .i64 (wrap64 ((pl : Int) + 1)) = .int .i64 ((pl + 1 : Nat) : Int) ∧
    B - (p + (36 + N)) < n ∧ B - (intOf (Value.int .i64 (wrap64 (wrap64 ((p : Int) + 36) + (N : Int))))).toNat < B - (intOf (Value.int .i64 (p : Int))).toNat
theorem next_facts (p N B n pl : Nat) (cnt len : Int) (h1 : p + (36 + N) ≤ B) (hB : B ≤ 1000000) (hpl : pl ≤ 100000) (hf : B - p < n + 1) (hp : p < B) (hc : 0 ≤ cnt ∧ cnt ≤ 65536 * pl) (hl : 0 ≤ len ∧ len ≤ 65536) : NextFacts p N B n pl cnt len := by
  have e1 : wrap64 (wrap64 ((p : Int) + 36) + (N : Int)) = ((p + (36 + N) : Nat) : Int) := by
    have h : wrap64 ((p : Int) + 36) = (p : Int) + 36 := by unfold wrap64; omega
    rw [h]
    unfold wrap64
    omega
  have e2 : wrap64 (cnt + len) = cnt + len := by unfold wrap64; omega
  have e3 : wrap64 ((pl : Int) + 1) = ((pl + 1 : Nat) : Int) := by unfold wrap64; omega
  unfold NextFacts
  rw [e1, e2, e3]
  refine ⟨rfl, rfl, rfl, by omega, ?_⟩
  show B - ((p + (36 + N) : Nat) : Int).toNat < B - ((p : Nat) : Int).toNat
  rw [Int.toNat_natCast, Int.toNat_natCast]
  omega
set_option maxRecDepth 100000 in
set_option maxHeartbeats 8000000 in
theorem rnext {a : Addr} {c z gi gh : Nat} {b : List UInt8} {w3 w7 : World} {m n : Nat} {P : Int × FileV} {l : List TagV} {At : Option Addr} {ct : Nat} {ik ich ibi ira ibl ish : Int} {s : PS} {L : List BlkM} {Ap : Option Addr} {cp : Nat} {Ak : Option Addr} {ck : Nat} {A5 : Option Addr} {c5 N : Nat} {pay : List UInt8} {sm : Int} {zk zidx zlen zstp zbnd : Int} {zlst : Bool} {zlnk : Int} {K K1 R : Act → World → Prop} {Q0 : Exit → Act → World → Prop} {v1 v3 v5 v6 v7 v8 v19 v20 v21 v22 v23 v24 v25 v26 v27 v28 v29 v30 v31 v32 v33 v34 v35 v36 v37 v38 v39 v40 v41 v42 v43 v44 v45 v46 v47 v48 v49 v50 v51 v52 v53 v54 v55 v56 v57 v58 v59 v60 v61 v62 v63 v64 v65 v66 v67 v68 v69 v70 v71 v72 v73 v74 v75 v76 v77 v78 v79 v80 v81 v82 v83 v84 v85 v86 v87 v88 v89 v90 v91 v92 v93 v94 v95 v96 v97 v98 v99 v100 v101 v102 v103 v104 v105 v106 v107 v108 v109 v110 v111 v112 v113 v114 v115 v116 v117 v118 v119 v120 v121 v122 v123 v124 v125 v126 v127 v128 v129 v130 v131 v132 v133 v134 v135 v136 v137 v138 v139 v140 v141 v142 v143 v144 v145 v146 v147 v148 v149 v150 v151 v152 v153 : Value}
    (hgi3 : w3.heap[gi]? = some (.cells #[.int .i64 ik, .int .i64 ich, .int .i64 ibi, .int .i64 ira, .int .i64 ibl, .int .i64 ish] 27 (0, 0))) (him : gi < m) (hm7 : w7.heap[m]? = some (.cells #[.int .i64 ik, .int .i64 ich, .int .i64 ibi, .int .i64 ira, .int .i64 ibl, .int .i64 ish, .slice At l.length ct, .slice Ak L.length ck, .int .i64 0, .int .u32 0, .slice none 0 0] 43 (0, 0))) (hp7 : w7.ownsRow (m + 1) 3 1 (.slice Ap s.pl.length cp) s.pl.length (s.pl.map intV)) (hk7 : w7.ownsRow (m + 1) 72 11 (.slice Ak L.length ck) L.length (flatM L)) (hgh7 : w7.heap[gh]? = some (.cells #[.int .i64 zk, .int .i64 zidx, .int .i64 zlen, .int .i64 zstp, .int .i64 zbnd, .bool zlst, .int .u32 zlnk, .int .i64 (N : Int)] 67 (0, 0))) (hbw7 : Below m w3 w7) (hmr7 : m + 1 ≤ w7.heap.size) (hghm : m + 1 ≤ gh) (hs3 : SeesB w3 A5 pay) (hc5 : pay.length ≤ c5) (hcm5 : c5 ≤ maxLen)
    (HPAY : Hid (∀ x ∈ L, SeesB w3 x.A x.p ∧ x.p.length ≤ x.c ∧ x.c ≤ maxLen)) (HBL : Hid (s.bl = L.map BlkM.plain)) (HLE : Hid (s.pl.length ≤ 100000)) (HLB : Hid (L.length ≤ 100000)) (HF : Hid (NextFacts s.at_ N b.length n s.pl.length s.cnt zlen))
    (HOK : Hid ((s.next (⟨ik, ich, ibi, ira, ibl, ish⟩ : InfoV) (0, ⟨zk, zidx, zlen, zstp, zbnd, zlst, zlnk, (N : Int)⟩, pay, sm)).ok b)) (HP7 : Hid (P = finP (⟨ik, ich, ibi, ira, ibl, ish⟩ : InfoV) l b (loopP (⟨ik, ich, ibi, ira, ibl, ish⟩ : InfoV) b n (s.next (⟨ik, ich, ibi, ira, ibl, ish⟩ : InfoV) (0, ⟨zk, zidx, zlen, zstp, zbnd, zlst, zlnk, (N : Int)⟩, pay, sm)))))
    (hR : ∀ (W : World) (x10 x11 x12 x13 x14 x64 x65 x93 x94 x95 x96 x97 x98 x99 x100 x101 x102 x103 x104 x105 x106 x107 x108 x109 x110 x111 x112 x113 x114 x115 x116 x117 x118 x119 x120 : Value), (∃ (k : Nat) (s : PS) (L : List BlkM) (Ap : Option Addr) (cp : Nat) (Ak : Option Addr) (ck : Nat), x10 = .int .i64 (s.at_ : Int) ∧ x11 = .int .i64 s.cnt ∧ x12 = .bool s.short ∧ x13 = .slice Ap s.pl.length cp ∧ x14 = .int .i64 (s.pl.length : Int) ∧ W.heap[m]? = some (.cells #[.int .i64 ik, .int .i64 ich, .int .i64 ibi, .int .i64 ira, .int .i64 ibl, .int .i64 ish, .slice At l.length ct, .slice Ak L.length ck, .int .i64 0, .int .u32 0, .slice none 0 0] 43 (0, 0)) ∧ W.ownsRow (m + 1) 3 1 (.slice Ap s.pl.length cp) s.pl.length (s.pl.map intV) ∧ W.ownsRow (m + 1) 72 11 (.slice Ak L.length ck) L.length (flatM L) ∧ (∀ x ∈ L, SeesB w3 x.A x.p ∧ x.p.length ≤ x.c ∧ x.c ≤ maxLen) ∧ s.bl = L.map BlkM.plain ∧ Below m w3 W ∧ m + 1 ≤ W.heap.size ∧ s.ok b ∧ Hid (P = finP (⟨ik, ich, ibi, ira, ibl, ish⟩ : InfoV) l b (loopP (⟨ik, ich, ibi, ira, ibl, ish⟩ : InfoV) b k s)) ∧ b.length - s.at_ < k) → b.length - (intOf x10).toNat < b.length - (intOf (.int .i64 (s.at_ : Int))).toNat → R ⟨#[.slice (some a) b.length c, v1, .pointer (some ⟨z, 0, none⟩), v3, .pointer (some ⟨gi, 0, none⟩), v5, v6, v7, v8, .pointer (some ⟨m, 0, none⟩), x10, x11, x12, x13, x14, .pointer (some ⟨gh, 0, none⟩), .slice A5 pay.length c5, .int .u32 sm, .int .i64 0, v19, v20, v21, v22, v23, v24, v25, v26, v27, v28, v29, v30, v31, v32, v33, v34, v35, v36, v37, v38, v39, v40, v41, v42, v43, v44, v45, v46, v47, v48, v49, v50, v51, v52, v53, v54, v55, v56, v57, v58, v59, v60, v61, v62, v63, x64, x65, v66, v67, v68, v69, v70, v71, v72, v73, v74, v75, v76, v77, v78, v79, v80, v81, v82, v83, v84, v85, v86, v87, v88, v89, v90, v91, v92, x93, x94, x95, x96, x97, x98, x99, x100, x101, x102, x103, x104, x105, x106, x107, x108, x109, x110, x111, x112, x113, x114, x115, x116, x117, x118, x119, x120, v121, v122, v123, v124, v125, v126, v127, v128, v129, v130, v131, v132, v133, v134, v135, v136, v137, v138, v139, v140, v141, v142, v143, v144, v145, v146, v147, v148, v149, v150, v151, v152, v153], []⟩ W)
    (hK1 : ∀ a' w', Code.wp Tryz.prog ((Tryz.f7.body.bind (codeAt 14)).getD .skip) (Exit.then R Q0) a' w' → K1 a' w')
    (hK : ∀ a' w', Code.wp Tryz.prog ((Tryz.f7.body.bind (codeBehind 23)).getD .skip) (Exit.inBlock 1 (Exit.then K1 (Exit.then R Q0))) a' w' → K a' w') :
    Code.wp Tryz.prog ((Tryz.f7.body.bind (codeAt 23)).getD .skip) (Exit.then K (Exit.inBlock 1 (Exit.then K1 (Exit.then R Q0)))) ⟨#[.slice (some a) b.length c, v1, .pointer (some ⟨z, 0, none⟩), v3, .pointer (some ⟨gi, 0, none⟩), v5, v6, v7, v8, .pointer (some ⟨m, 0, none⟩), .int .i64 (s.at_ : Int), .int .i64 s.cnt, .bool s.short, .slice Ap s.pl.length cp, .int .i64 (s.pl.length : Int), .pointer (some ⟨gh, 0, none⟩), .slice A5 pay.length c5, .int .u32 sm, .int .i64 0, v19, v20, v21, v22, v23, v24, v25, v26, v27, v28, v29, v30, v31, v32, v33, v34, v35, v36, v37, v38, v39, v40, v41, v42, v43, v44, v45, v46, v47, v48, v49, v50, v51, v52, v53, v54, v55, v56, v57, v58, v59, v60, v61, v62, v63, v64, v65, v66, v67, v68, v69, v70, v71, v72, v73, v74, v75, v76, v77, v78, v79, v80, v81, v82, v83, v84, v85, v86, v87, v88, v89, v90, v91, v92, v93, v94, v95, v96, v97, v98, v99, v100, v101, v102, v103, v104, v105, v106, v107, v108, v109, v110, v111, v112, v113, v114, v115, v116, v117, v118, v119, v120, v121, v122, v123, v124, v125, v126, v127, v128, v129, v130, v131, v132, v133, v134, v135, v136, v137, v138, v139, v140, v141, v142, v143, v144, v145, v146, v147, v148, v149, v150, v151, v152, v153], []⟩ w7 := by
  conv => arg 2; whnf
  conv at hK => enter [a', w', 1, 2]; whnf
  conv at hK1 => enter [a', w', 1, 2]; whnf
  have c7 : w7.cell? ⟨m, 7, none⟩ = some (.slice Ak L.length ck) := by rw [cell_of_row _ _ _ _ _ _ hm7]; rfl
  have hba8 : Below w7.heap.size w7 (w7.alloc (.cells #[.int .i64 zk, .int .i64 zidx, .int .i64 zlen, .int .i64 zstp, .int .i64 zbnd, .bool zlst, .int .u32 zlnk, .int .i64 (N : Int), .slice A5 pay.length c5, .int .u32 sm, .int .i64 (s.at_ : Int)] 72)) := (Below.refl _ _).alloc (Nat.le_refl _) _
  have hm8 := (hba8.block m hmr7).trans hm7
  have hgh8 := (hba8.block gh (Array.getElem?_eq_some_iff.1 hgh7).1).trans hgh7
  have hp8 := own_keepF hp7 hba8
  have hk8 := own_keepF hk7 hba8
  have hbw8 : Below m w3 (w7.alloc (.cells #[.int .i64 zk, .int .i64 zidx, .int .i64 zlen, .int .i64 zstp, .int .i64 zbnd, .bool zlst, .int .u32 zlnk, .int .i64 (N : Int), .slice A5 pay.length c5, .int .u32 sm, .int .i64 (s.at_ : Int)] 72)) := hbw7.trans (hba8.mono (Nat.le_of_lt hmr7))
  have hmr8 := Nat.le_trans hmr7 hba8.size
  have hseen : Sees (w7.alloc (.cells #[.int .i64 zk, .int .i64 zidx, .int .i64 zlen, .int .i64 zstp, .int .i64 zbnd, .bool zlst, .int .u32 zlnk, .int .i64 (N : Int), .slice A5 pay.length c5, .int .u32 sm, .int .i64 (s.at_ : Int)] 72)) (some ⟨w7.heap.size, 0, none⟩) (flatM [(⟨⟨zk, zidx, zlen, zstp, zbnd, zlst, zlnk, (N : Int)⟩, A5, c5, pay, sm, s.at_⟩ : BlkM)]) := Sees.of_alloc _ _ _ rfl
  have c8 : (w7.alloc (.cells #[.int .i64 zk, .int .i64 zidx, .int .i64 zlen, .int .i64 zstp, .int .i64 zbnd, .bool zlst, .int .u32 zlnk, .int .i64 (N : Int), .slice A5 pay.length c5, .int .u32 sm, .int .i64 (s.at_ : Int)] 72)).cell? ⟨m, 7, none⟩ = some (.slice Ak L.length ck) := by rw [cell_of_row _ _ _ _ _ _ hm8]; rfl
  have hgm : gh ≠ m := by omega
  clear hm7 hp7 hk7 hba8
  go_upto_region 24 with first
    | (refine wpList_load_row rfl 67 (.tmp 15) rfl gh rfl 67 #[.int .i64 zk, .int .i64 zidx, .int .i64 zlen, .int .i64 zstp, .int .i64 zbnd, .bool zlst, .int .u32 zlnk, .int .i64 (N : Int)] (0, 0) _ hgh7 Tryz.underlying67 rfl (by kernel_rfl) ?_)
    | (at_builtin
       refine wpList_app rfl (.tmp 94) (.tmp 100) _ rfl elKR rfl hk8 (some ⟨w7.heap.size, 0, none⟩) 1 1 rfl (flatM [(⟨⟨zk, zidx, zlen, zstp, zbnd, zlst, zlnk, (N : Int)⟩, A5, c5, pay, sm, s.at_⟩ : BlkM)]) hseen (by rw [flatM_len]; rfl) (flatM_one _) (L.length + 1) rfl (flatM (L ++ [(⟨⟨zk, zidx, zlen, zstp, zbnd, zlst, zlnk, (N : Int)⟩, A5, c5, pay, sm, s.at_⟩ : BlkM)])) (flatM_app _ _).symm (by have := HLB.out; unfold maxLen; omega) (by have := HLB.out; omega) hmr8 ?_
       intro Ak2 ck2 w9 hk9 hgr hatk hbel
       have hB := But.of_grown hgr hbel
       have hm9 := (hB.block m (Array.getElem?_eq_some_iff.1 hm8).1 (own_other hk8 hm8 (by decide))).trans hm8
       have hgh9 := (hB.block gh (Array.getElem?_eq_some_iff.1 hgh8).1 (own_other hk8 hgh8 (by decide))).trans hgh8
       have hp9 := own_but hp8 hB (fun k hk => own_apart hp8 hk8 (by decide) k hk)
       have hbw9 := hbw8.trans (hbel.mono (Nat.le_succ m))
       have hmr9 := Nat.le_trans hmr8 hbel.size
       have c9 : w9.cell? ⟨m, 7, none⟩ = some (.slice Ak L.length ck) := by rw [cell_of_row _ _ _ _ _ _ hm9]; rfl
       have f9 : w9.frozen? ⟨m, 7, none⟩ = false := frozen_of_row _ _ _ _ _ hm9
       have hm10 : (w9.setCell ⟨m, 7, none⟩ (.slice Ak2 (L.length + 1) ck2)).heap[m]? = some (.cells #[.int .i64 ik, .int .i64 ich, .int .i64 ibi, .int .i64 ira, .int .i64 ibl, .int .i64 ish, .slice At l.length ct, .slice Ak2 (L.length + 1) ck2, .int .i64 0, .int .u32 0, .slice none 0 0] 43 (0, 0)) := heap_setCell_same w9 m 7 _ 43 (.slice Ak2 (L.length + 1) ck2) hm9
       have hgh10 := (heap_setCell_other w9 ⟨m, 7, none⟩ gh (.slice Ak2 (L.length + 1) ck2) hgm).trans hgh9
       have hp10 := own_but hp9 (but_cell m 7 (.slice Ak2 (L.length + 1) ck2)) (fun k hk hh => own_other hp9 hm9 (by decide) (by have h2 : k = m := hh; rw [← h2]; exact hk))
       have hk10 := own_but hk9 (but_cell m 7 (.slice Ak2 (L.length + 1) ck2)) (fun k hk hh => own_other hk9 hm9 (by decide) (by have h2 : k = m := hh; rw [← h2]; exact hk))
       have hbw10 := But.below hbw9 (but_cell m 7 (.slice Ak2 (L.length + 1) ck2)) (fun bb hh => by have h2 : bb = m := hh; omega) (Nat.le_of_succ_le hmr9)
       have hmr10 : m + 1 ≤ (w9.setCell ⟨m, 7, none⟩ (.slice Ak2 (L.length + 1) ck2)).heap.size := Nat.le_trans hmr9 (but_cell m 7 (.slice Ak2 (L.length + 1) ck2)).size
       clear hgr hatk hbel hB hm9 hgh9 hp9 hk9 hbw9 hmr9 hm8 hgh8 hp8 hk8 hbw8 hmr8 hseen)
  clear c7 c8 c9 f9
  generalize w9.setCell ⟨m, 7, none⟩ (.slice Ak2 (L.length + 1) ck2) = w10 at *
  have hba11 : Below w10.heap.size w10 (w10.alloc (.cells #[.int .i64 (s.at_ : Int)] 3)) := (Below.refl _ _).alloc (Nat.le_refl _) _
  have hm11 := (hba11.block m hmr10).trans hm10
  have hgh11 := (hba11.block gh (Array.getElem?_eq_some_iff.1 hgh10).1).trans hgh10
  have hp11 := own_keepF hp10 hba11
  have hk11 := own_keepF hk10 hba11
  have hbw11 : Below m w3 (w10.alloc (.cells #[.int .i64 (s.at_ : Int)] 3)) := hbw10.trans (hba11.mono (Nat.le_of_lt hmr10))
  have hmr11 := Nat.le_trans hmr10 hba11.size
  have HMM := hid (show s.pl.map intV ++ [intV (s.at_ : Int)] = (s.pl ++ [(s.at_ : Int)]).map intV by simp)
  clear hm10 hgh10 hp10 hk10 hbw10 hmr10 hba11
  go_upto_region 25 with (at_builtin; refine wpList_app rfl (.tmp 103) (.tmp 105) _ rfl elI rfl hp11 (some ⟨w10.heap.size, 0, none⟩) 1 1 rfl [intV (s.at_ : Int)] (Sees.of_alloc _ _ _ rfl) (by simp) (by simp [intV, Value.oneCell']) (s.pl.length + 1) rfl _ HMM.out (by have := HLE.out; unfold maxLen; omega) (by have := HLE.out; omega) hmr11 ?_; intro A6 c6 w12 hp12 hgr12 hat12 hbel12)
  have hB12 := But.of_grown hgr12 hbel12
  have hm12 := (hB12.block m (Array.getElem?_eq_some_iff.1 hm11).1 (own_other hp11 hm11 (by decide))).trans hm11
  have hgh12 := (hB12.block gh (Array.getElem?_eq_some_iff.1 hgh11).1 (own_other hp11 hgh11 (by decide))).trans hgh11
  have hk12 := own_but hk11 hB12 (fun k hk => own_apart hk11 hp11 (by decide) k hk)
  have hbw12 := hbw11.trans (hbel12.mono (Nat.le_succ m))
  have hmr12 := Nat.le_trans hmr11 hbel12.size
  have hgi12 := (hbw12.block gi him).trans hgi3
  have e2 : w12.cell? ⟨gh, 2, none⟩ = some (.int .i64 zlen) := by rw [cell_of_row _ _ _ _ _ _ hgh12]; rfl
  have e7 : w12.cell? ⟨gh, 7, none⟩ = some (.int .i64 (N : Int)) := by rw [cell_of_row _ _ _ _ _ _ hgh12]; rfl
  have i4 : w12.cell? ⟨gi, 4, none⟩ = some (.int .i64 ibl) := by rw [cell_of_row _ _ _ _ _ _ hgi12]; rfl
  clear hgr12 hat12 hbel12 hB12 hm11 hgh11 hp11 hk11 hbw11 hmr11 hgh12 hgi12 HMM
  go_wp2_with fail
  have HG := HF.out
  unfold NextFacts at HG
  obtain ⟨g1, g2, g3, g4, g5⟩ := HG
  refine hR _ _ _ _ _ _ _ _ _ _ _ _ _ _ _ _ _ _ _ _ _ _ _ _ _ _ _ _ _ _ _ _ _ _ _ _ ⟨n, s.next (⟨ik, ich, ibi, ira, ibl, ish⟩ : InfoV) (0, ⟨zk, zidx, zlen, zstp, zbnd, zlst, zlnk, (N : Int)⟩, pay, sm), L ++ [(⟨⟨zk, zidx, zlen, zstp, zbnd, zlst, zlnk, (N : Int)⟩, A5, c5, pay, sm, s.at_⟩ : BlkM)], A6, c6, Ak2, ck2, g1, g2, rfl, ?_, ?_, ?_, ?_, ?_, ?_, ?_, hbw12, hmr12, HOK.out, HP7, g4⟩ g5
  · show Value.slice A6 (s.pl.length + 1) c6 = Value.slice A6 (s.pl ++ [(s.at_ : Int)]).length c6
    rw [List.length_append]
    rfl
  · rw [g3]
    show Value.int .i64 ((s.pl.length + 1 : Nat) : Int) = Value.int .i64 (((s.pl ++ [(s.at_ : Int)]).length : Nat) : Int)
    rw [List.length_append]
    rfl
  · simp only [List.length_append, List.length_singleton]
    exact hm12
  · simp only [PS.next, List.length_append, List.length_singleton]
    exact hp12
  · simp only [List.length_append, List.length_singleton]
    exact hk12
  · intro x hx
    rcases List.mem_append.1 hx with hx | hx
    · exact HPAY.out x hx
    · rw [List.mem_singleton.1 hx]
      exact ⟨hs3, hc5, hcm5⟩
  · show s.bl ++ _ = _
    rw [HBL.out, List.map_append]
    rfl
end Go.Proofs.YtkmhmehofipehaaGreatDoor
