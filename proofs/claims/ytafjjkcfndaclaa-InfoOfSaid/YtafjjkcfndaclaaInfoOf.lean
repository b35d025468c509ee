/- Info of a kind, a format and settings. -/
import Derived.Test.YtafjjkcfndaclaaInfoRefConf
import Derived.Test.YtafjjkcfndaclaaRight
namespace Go.Proofs.Ytafjjkcfndaclaa
set_option linter.unusedVariables false
open Go.RowKit
theorem three_allocs (w : World) (a b c : Obj) : (((w.alloc a).alloc b).alloc c).heap[w.heap.size]? = some a ∧ (((w.alloc a).alloc b).alloc c).heap[w.heap.size + 1]? = some b ∧ (((w.alloc a).alloc b).alloc c).heap[w.heap.size + 2]? = some c ∧ Below w.heap.size w (((w.alloc a).alloc b).alloc c) ∧ (((w.alloc a).alloc b).alloc c).heap.size = w.heap.size + 3 := by
  have s1 : (w.alloc a).heap.size = w.heap.size + 1 := by first | rfl | simp | exact Array.size_push ..
  have s2 : ((w.alloc a).alloc b).heap.size = w.heap.size + 2 := by first | rfl | simp | exact Array.size_push ..
  have s3 : (((w.alloc a).alloc b).alloc c).heap.size = w.heap.size + 3 := by first | rfl | simp | exact Array.size_push ..
  have b1 : Below w.heap.size w (w.alloc a) := (Below.refl _ w).alloc (Nat.le_refl _) _
  have b2 : Below (w.alloc a).heap.size (w.alloc a) ((w.alloc a).alloc b) := (Below.refl _ _).alloc (Nat.le_refl _) _
  have b3 : Below ((w.alloc a).alloc b).heap.size ((w.alloc a).alloc b) (((w.alloc a).alloc b).alloc c) := (Below.refl _ _).alloc (Nat.le_refl _) _
  have h1 := heap_alloc_new w a
  have h2 := heap_alloc_new (w.alloc a) b
  have h3 := heap_alloc_new ((w.alloc a).alloc b) c
  rw [s1] at h2
  rw [s2] at h3
  refine ⟨((b3.block _ (by omega)).trans (b2.block _ (by omega))).trans h1, (b3.block _ (by omega)).trans h2, h3, (b1.trans (b2.mono (by omega))).trans (b3.mono (by omega)), s3⟩
/-- the code, and the info -/
def ofI (k ch bi ra blk ord win shp tgt res : Int) : Int × Int × Int × Int × Int × Int × Int :=
  if ¬ (1 ≤ k ∧ k ≤ 3) then (31, 0, 0, 0, 0, 0, 0) else if rightF ch bi ra = false then (20, 0, 0, 0, 0, 0, 0) else if codeC blk ord win shp tgt res ≠ 0 then (23, 0, 0, 0, 0, 0, 0)
  else (0, k, ch, bi, ra, blk, if k = 3 then 0 else shp)
def OfPost (w : World) (r : Int × Int × Int × Int × Int × Int × Int) (e : Ending) (w' : World) : Prop :=
  e = .returned (.tuple #[.agg #[.int .i64 r.2.1, .int .i64 r.2.2.1, .int .i64 r.2.2.2.1, .int .i64 r.2.2.2.2.1, .int .i64 r.2.2.2.2.2.1, .int .i64 r.2.2.2.2.2.2], .int .i64 r.1]) ∧ Below w.heap.size w w'
set_option maxRecDepth 20000 in
set_option maxHeartbeats 4000000 in
theorem of_any (k ch bi ra blk ord win shp tgt res : Int) (w : World) :
    Calls Try.prog 17 #[.int .i64 k, .agg #[.int .i64 ch, .int .i64 bi, .int .i64 ra], .agg #[.int .i64 blk, .int .i64 ord, .int .i64 win, .int .i64 shp, .int .i64 tgt, .int .i64 res]] w (OfPost w (ofI k ch bi ra blk ord win shp tgt res)) := by
  obtain ⟨R, hR⟩ : ∃ R, R = ofI k ch bi ra blk ord win shp tgt res := ⟨_, rfl⟩
  rw [← hR]
  have HR := hid hR
  clear hR
  have HRT := hid (fun W => pright_any ch bi ra W)
  have HCF := hid (fun W => config_any blk ord win shp tgt res W)
  by_cases hk : ¬ (1 ≤ k ∧ k ≤ 3)
  · obtain rfl : R = (31, 0, 0, 0, 0, 0, 0) := by rw [HR.out]; unfold ofI; rw [if_pos hk]
    clear HR
    obtain ⟨hF, hC, hZ, hb, hsz⟩ := three_allocs w (.cells #[.int .i64 ch, .int .i64 bi, .int .i64 ra] 23) (.cells #[.int .i64 blk, .int .i64 ord, .int .i64 win, .int .i64 shp, .int .i64 tgt, .int .i64 res] 37) (.cells #[.int .i64 0, .int .i64 0, .int .i64 0, .int .i64 0, .int .i64 0, .int .i64 0] 25)
    have hlt : w.heap.size + 2 < (((w.alloc (.cells #[.int .i64 ch, .int .i64 bi, .int .i64 ra] 23)).alloc (.cells #[.int .i64 blk, .int .i64 ord, .int .i64 win, .int .i64 shp, .int .i64 tgt, .int .i64 res] 37)).alloc (.cells #[.int .i64 0, .int .i64 0, .int .i64 0, .int .i64 0, .int .i64 0, .int .i64 0] 25)).heap.size := by omega
    clear hsz
    go_enter Try.func17, Try.ntmps17
    go_upto_region 1 with (fail)
    generalize (((w.alloc (.cells #[.int .i64 ch, .int .i64 bi, .int .i64 ra] 23)).alloc (.cells #[.int .i64 blk, .int .i64 ord, .int .i64 win, .int .i64 shp, .int .i64 tgt, .int .i64 res] 37)).alloc (.cells #[.int .i64 0, .int .i64 0, .int .i64 0, .int .i64 0, .int .i64 0, .int .i64 0] 25)) = w0 at *
    have q0 : w0.cell? ⟨w.heap.size + 1, 0, none⟩ = some (.int .i64 blk) := by rw [cell_of_row _ _ _ _ _ _ hC]; rfl
    have q3 : w0.cell? ⟨w.heap.size + 1, 3, none⟩ = some (.int .i64 shp) := by rw [cell_of_row _ _ _ _ _ _ hC]; rfl
    have hx : Below w0.heap.size w0 (w0.alloc (.cells #[.int .i64 k, .int .i64 ch, .int .i64 bi, .int .i64 ra, .int .i64 blk, .int .i64 shp] 25)) := (Below.refl _ _).alloc (Nat.le_refl _) _
    have hI := heap_alloc_new w0 (.cells #[.int .i64 k, .int .i64 ch, .int .i64 bi, .int .i64 ra, .int .i64 blk, .int .i64 shp] 25)
    have hF1 := (hx.block w.heap.size (by omega)).trans hF
    have hC1 := (hx.block (w.heap.size + 1) (by omega)).trans hC
    have hZ1 := (hx.block (w.heap.size + 2) (by omega)).trans hZ
    have hb1 := hb.trans (hx.mono hb.size)
    have hlt1 : w0.heap.size < (w0.alloc (.cells #[.int .i64 k, .int .i64 ch, .int .i64 bi, .int .i64 ra, .int .i64 blk, .int .i64 shp] 25)).heap.size := (Array.getElem?_eq_some_iff.1 hI).1
    go_wp2_with first | (refine wpList_load_row rfl 23 (.tmp 4) rfl w.heap.size rfl 23 #[.int .i64 ch, .int .i64 bi, .int .i64 ra] (0, 0) _ hF Try.underlying23 rfl (by kernel_rfl) ?_)
    refine (iwithin_any k 1 3 false _ (decide_eq_false hk)).mono ?_
    rintro e w4 ⟨rfl, rfl⟩
    go_wp2_with first | (refine wpList_store_row rfl 25 (.tmp 6) (.tmp 20) rfl rfl (w.heap.size + 2) rfl #[.int .i64 0, .int .i64 0, .int .i64 0, .int .i64 0, .int .i64 0, .int .i64 0] rfl 25 #[.int .i64 0, .int .i64 0, .int .i64 0, .int .i64 0, .int .i64 0, .int .i64 0] hZ1 (by kernel_rfl) rfl (by simp [Value.oneCell']) ?_)
    exact bodyPost_ret (v := .tuple #[.agg #[.int .i64 0, .int .i64 0, .int .i64 0, .int .i64 0, .int .i64 0, .int .i64 0], .int .i64 31]) (results_row_tmp (fn := Try.f17) (p := 6) (u := 7) (ty := 25) rfl _ _ (w.heap.size + 2) _ _ _ _ rfl (setRow_heap _ _ _ _ _ _ hZ1) Try.underlying25 rfl (by kernel_rfl)) rfl ⟨rfl, below_setRow hb1 (by omega) _⟩
  have hk1 := Decidable.not_not.1 hk
  by_cases hr : rightF ch bi ra = false
  · obtain rfl : R = (20, 0, 0, 0, 0, 0, 0) := by rw [HR.out]; unfold ofI; rw [if_neg hk, if_pos hr]
    clear HR
    rw [hr] at HRT
    obtain ⟨hF, hC, hZ, hb, hsz⟩ := three_allocs w (.cells #[.int .i64 ch, .int .i64 bi, .int .i64 ra] 23) (.cells #[.int .i64 blk, .int .i64 ord, .int .i64 win, .int .i64 shp, .int .i64 tgt, .int .i64 res] 37) (.cells #[.int .i64 0, .int .i64 0, .int .i64 0, .int .i64 0, .int .i64 0, .int .i64 0] 25)
    have hlt : w.heap.size + 2 < (((w.alloc (.cells #[.int .i64 ch, .int .i64 bi, .int .i64 ra] 23)).alloc (.cells #[.int .i64 blk, .int .i64 ord, .int .i64 win, .int .i64 shp, .int .i64 tgt, .int .i64 res] 37)).alloc (.cells #[.int .i64 0, .int .i64 0, .int .i64 0, .int .i64 0, .int .i64 0, .int .i64 0] 25)).heap.size := by omega
    clear hsz
    go_enter Try.func17, Try.ntmps17
    go_upto_region 1 with (fail)
    generalize (((w.alloc (.cells #[.int .i64 ch, .int .i64 bi, .int .i64 ra] 23)).alloc (.cells #[.int .i64 blk, .int .i64 ord, .int .i64 win, .int .i64 shp, .int .i64 tgt, .int .i64 res] 37)).alloc (.cells #[.int .i64 0, .int .i64 0, .int .i64 0, .int .i64 0, .int .i64 0, .int .i64 0] 25)) = w0 at *
    have q0 : w0.cell? ⟨w.heap.size + 1, 0, none⟩ = some (.int .i64 blk) := by rw [cell_of_row _ _ _ _ _ _ hC]; rfl
    have q3 : w0.cell? ⟨w.heap.size + 1, 3, none⟩ = some (.int .i64 shp) := by rw [cell_of_row _ _ _ _ _ _ hC]; rfl
    have hx : Below w0.heap.size w0 (w0.alloc (.cells #[.int .i64 k, .int .i64 ch, .int .i64 bi, .int .i64 ra, .int .i64 blk, .int .i64 shp] 25)) := (Below.refl _ _).alloc (Nat.le_refl _) _
    have hI := heap_alloc_new w0 (.cells #[.int .i64 k, .int .i64 ch, .int .i64 bi, .int .i64 ra, .int .i64 blk, .int .i64 shp] 25)
    have hF1 := (hx.block w.heap.size (by omega)).trans hF
    have hC1 := (hx.block (w.heap.size + 1) (by omega)).trans hC
    have hZ1 := (hx.block (w.heap.size + 2) (by omega)).trans hZ
    have hb1 := hb.trans (hx.mono hb.size)
    have hlt1 : w0.heap.size < (w0.alloc (.cells #[.int .i64 k, .int .i64 ch, .int .i64 bi, .int .i64 ra, .int .i64 blk, .int .i64 shp] 25)).heap.size := (Array.getElem?_eq_some_iff.1 hI).1
    go_wp2_with first | (refine wpList_load_row rfl 23 (.tmp 4) rfl w.heap.size rfl 23 #[.int .i64 ch, .int .i64 bi, .int .i64 ra] (0, 0) _ hF Try.underlying23 rfl (by kernel_rfl) ?_)
    refine (iwithin_any k 1 3 true _ (decide_eq_true hk1)).mono ?_
    rintro e w4 ⟨rfl, rfl⟩
    go_wp2_with first | (refine wpList_load_row rfl 23 (.tmp 4) rfl w.heap.size rfl 23 #[.int .i64 ch, .int .i64 bi, .int .i64 ra] (0, 0) _ hF1 Try.underlying23 rfl (by kernel_rfl) ?_)
    generalize w0.alloc (.cells #[.int .i64 k, .int .i64 ch, .int .i64 bi, .int .i64 ra, .int .i64 blk, .int .i64 shp] 25) = w1 at *
    clear hx
    refine (HRT.out _).mono ?_
    rintro e w2 ⟨rfl, hx⟩
    have hZ2 := (hx.block (w.heap.size + 2) (by omega)).trans hZ1
    have hb2 := hb1.trans (hx.mono hb1.size)
    go_wp2_with first | (refine wpList_store_row rfl 25 (.tmp 6) (.tmp 25) rfl rfl (w.heap.size + 2) rfl #[.int .i64 0, .int .i64 0, .int .i64 0, .int .i64 0, .int .i64 0, .int .i64 0] rfl 25 #[.int .i64 0, .int .i64 0, .int .i64 0, .int .i64 0, .int .i64 0, .int .i64 0] hZ2 (by kernel_rfl) rfl (by simp [Value.oneCell']) ?_)
    exact bodyPost_ret (v := .tuple #[.agg #[.int .i64 0, .int .i64 0, .int .i64 0, .int .i64 0, .int .i64 0, .int .i64 0], .int .i64 20]) (results_row_tmp (fn := Try.f17) (p := 6) (u := 7) (ty := 25) rfl _ _ (w.heap.size + 2) _ _ _ _ rfl (setRow_heap _ _ _ _ _ _ hZ2) Try.underlying25 rfl (by kernel_rfl)) rfl ⟨rfl, below_setRow hb2 (by omega) _⟩
  have hr1 : rightF ch bi ra = true := by simpa using hr
  rw [hr1] at HRT
  by_cases hc : codeC blk ord win shp tgt res ≠ 0
  · obtain rfl : R = (23, 0, 0, 0, 0, 0, 0) := by rw [HR.out]; unfold ofI; rw [if_neg hk, if_neg hr, if_pos hc]
    clear HR
    have e_c : (codeC blk ord win shp tgt res != 0) = true := by simpa using hc
    generalize codeC blk ord win shp tgt res = cc at *
    obtain ⟨hF, hC, hZ, hb, hsz⟩ := three_allocs w (.cells #[.int .i64 ch, .int .i64 bi, .int .i64 ra] 23) (.cells #[.int .i64 blk, .int .i64 ord, .int .i64 win, .int .i64 shp, .int .i64 tgt, .int .i64 res] 37) (.cells #[.int .i64 0, .int .i64 0, .int .i64 0, .int .i64 0, .int .i64 0, .int .i64 0] 25)
    have hlt : w.heap.size + 2 < (((w.alloc (.cells #[.int .i64 ch, .int .i64 bi, .int .i64 ra] 23)).alloc (.cells #[.int .i64 blk, .int .i64 ord, .int .i64 win, .int .i64 shp, .int .i64 tgt, .int .i64 res] 37)).alloc (.cells #[.int .i64 0, .int .i64 0, .int .i64 0, .int .i64 0, .int .i64 0, .int .i64 0] 25)).heap.size := by omega
    clear hsz
    go_enter Try.func17, Try.ntmps17
    go_upto_region 1 with (fail)
    generalize (((w.alloc (.cells #[.int .i64 ch, .int .i64 bi, .int .i64 ra] 23)).alloc (.cells #[.int .i64 blk, .int .i64 ord, .int .i64 win, .int .i64 shp, .int .i64 tgt, .int .i64 res] 37)).alloc (.cells #[.int .i64 0, .int .i64 0, .int .i64 0, .int .i64 0, .int .i64 0, .int .i64 0] 25)) = w0 at *
    have q0 : w0.cell? ⟨w.heap.size + 1, 0, none⟩ = some (.int .i64 blk) := by rw [cell_of_row _ _ _ _ _ _ hC]; rfl
    have q3 : w0.cell? ⟨w.heap.size + 1, 3, none⟩ = some (.int .i64 shp) := by rw [cell_of_row _ _ _ _ _ _ hC]; rfl
    have hx : Below w0.heap.size w0 (w0.alloc (.cells #[.int .i64 k, .int .i64 ch, .int .i64 bi, .int .i64 ra, .int .i64 blk, .int .i64 shp] 25)) := (Below.refl _ _).alloc (Nat.le_refl _) _
    have hI := heap_alloc_new w0 (.cells #[.int .i64 k, .int .i64 ch, .int .i64 bi, .int .i64 ra, .int .i64 blk, .int .i64 shp] 25)
    have hF1 := (hx.block w.heap.size (by omega)).trans hF
    have hC1 := (hx.block (w.heap.size + 1) (by omega)).trans hC
    have hZ1 := (hx.block (w.heap.size + 2) (by omega)).trans hZ
    have hb1 := hb.trans (hx.mono hb.size)
    have hlt1 : w0.heap.size < (w0.alloc (.cells #[.int .i64 k, .int .i64 ch, .int .i64 bi, .int .i64 ra, .int .i64 blk, .int .i64 shp] 25)).heap.size := (Array.getElem?_eq_some_iff.1 hI).1
    go_wp2_with first | (refine wpList_load_row rfl 23 (.tmp 4) rfl w.heap.size rfl 23 #[.int .i64 ch, .int .i64 bi, .int .i64 ra] (0, 0) _ hF Try.underlying23 rfl (by kernel_rfl) ?_)
    refine (iwithin_any k 1 3 true _ (decide_eq_true hk1)).mono ?_
    rintro e w4 ⟨rfl, rfl⟩
    go_wp2_with first | (refine wpList_load_row rfl 23 (.tmp 4) rfl w.heap.size rfl 23 #[.int .i64 ch, .int .i64 bi, .int .i64 ra] (0, 0) _ hF1 Try.underlying23 rfl (by kernel_rfl) ?_)
    generalize w0.alloc (.cells #[.int .i64 k, .int .i64 ch, .int .i64 bi, .int .i64 ra, .int .i64 blk, .int .i64 shp] 25) = w1 at *
    clear hx
    refine (HRT.out _).mono ?_
    rintro e w2 ⟨rfl, hx⟩
    have hC2 := (hx.block (w.heap.size + 1) (by omega)).trans hC1
    have hZ2 := (hx.block (w.heap.size + 2) (by omega)).trans hZ1
    have hI2 := (hx.block w0.heap.size (by omega)).trans hI
    have hb2 := hb1.trans (hx.mono hb1.size)
    have hlt2 := Nat.lt_of_lt_of_le hlt1 hx.size
    clear hx hF hC hZ hb hF1 hC1 hZ1 hI hb1 q0 q3
    go_wp2_with first | (refine wpList_load_row rfl 37 (.tmp 5) rfl (w.heap.size + 1) rfl 37 #[.int .i64 blk, .int .i64 ord, .int .i64 win, .int .i64 shp, .int .i64 tgt, .int .i64 res] (0, 0) _ hC2 Try.underlying37 rfl (by kernel_rfl) ?_)
    refine (HCF.out _).mono ?_
    rintro e w3 ⟨rfl, hx⟩
    have hZ3 := (hx.block (w.heap.size + 2) (by omega)).trans hZ2
    have hI3 := (hx.block w0.heap.size (by omega)).trans hI2
    have hb3 := hb2.trans (hx.mono hb2.size)
    clear hx
    go_wp2_with first | (refine wpList_store_row rfl 25 (.tmp 6) (.tmp 30) rfl rfl (w.heap.size + 2) rfl #[.int .i64 0, .int .i64 0, .int .i64 0, .int .i64 0, .int .i64 0, .int .i64 0] rfl 25 #[.int .i64 0, .int .i64 0, .int .i64 0, .int .i64 0, .int .i64 0, .int .i64 0] hZ3 (by kernel_rfl) rfl (by simp [Value.oneCell']) ?_)
    exact bodyPost_ret (v := .tuple #[.agg #[.int .i64 0, .int .i64 0, .int .i64 0, .int .i64 0, .int .i64 0, .int .i64 0], .int .i64 23]) (results_row_tmp (fn := Try.f17) (p := 6) (u := 7) (ty := 25) rfl _ _ (w.heap.size + 2) _ _ _ _ rfl (setRow_heap _ _ _ _ _ _ hZ3) Try.underlying25 rfl (by kernel_rfl)) rfl ⟨rfl, below_setRow hb3 (by omega) _⟩
  have hc0 : codeC blk ord win shp tgt res = 0 := Decidable.not_not.1 hc
  rw [hc0] at HCF
  by_cases h3 : k = 3
  · obtain rfl : R = (0, k, ch, bi, ra, blk, 0) := by rw [HR.out]; unfold ofI; rw [if_neg hk, if_neg hr, if_neg hc, if_pos h3]
    have e_3 : (k == 3) = true := by simpa using h3
    clear HR h3
    obtain ⟨hF, hC, hZ, hb, hsz⟩ := three_allocs w (.cells #[.int .i64 ch, .int .i64 bi, .int .i64 ra] 23) (.cells #[.int .i64 blk, .int .i64 ord, .int .i64 win, .int .i64 shp, .int .i64 tgt, .int .i64 res] 37) (.cells #[.int .i64 0, .int .i64 0, .int .i64 0, .int .i64 0, .int .i64 0, .int .i64 0] 25)
    have hlt : w.heap.size + 2 < (((w.alloc (.cells #[.int .i64 ch, .int .i64 bi, .int .i64 ra] 23)).alloc (.cells #[.int .i64 blk, .int .i64 ord, .int .i64 win, .int .i64 shp, .int .i64 tgt, .int .i64 res] 37)).alloc (.cells #[.int .i64 0, .int .i64 0, .int .i64 0, .int .i64 0, .int .i64 0, .int .i64 0] 25)).heap.size := by omega
    clear hsz
    go_enter Try.func17, Try.ntmps17
    go_upto_region 1 with (fail)
    generalize (((w.alloc (.cells #[.int .i64 ch, .int .i64 bi, .int .i64 ra] 23)).alloc (.cells #[.int .i64 blk, .int .i64 ord, .int .i64 win, .int .i64 shp, .int .i64 tgt, .int .i64 res] 37)).alloc (.cells #[.int .i64 0, .int .i64 0, .int .i64 0, .int .i64 0, .int .i64 0, .int .i64 0] 25)) = w0 at *
    have q0 : w0.cell? ⟨w.heap.size + 1, 0, none⟩ = some (.int .i64 blk) := by rw [cell_of_row _ _ _ _ _ _ hC]; rfl
    have q3 : w0.cell? ⟨w.heap.size + 1, 3, none⟩ = some (.int .i64 shp) := by rw [cell_of_row _ _ _ _ _ _ hC]; rfl
    have hx : Below w0.heap.size w0 (w0.alloc (.cells #[.int .i64 k, .int .i64 ch, .int .i64 bi, .int .i64 ra, .int .i64 blk, .int .i64 shp] 25)) := (Below.refl _ _).alloc (Nat.le_refl _) _
    have hI := heap_alloc_new w0 (.cells #[.int .i64 k, .int .i64 ch, .int .i64 bi, .int .i64 ra, .int .i64 blk, .int .i64 shp] 25)
    have hF1 := (hx.block w.heap.size (by omega)).trans hF
    have hC1 := (hx.block (w.heap.size + 1) (by omega)).trans hC
    have hZ1 := (hx.block (w.heap.size + 2) (by omega)).trans hZ
    have hb1 := hb.trans (hx.mono hb.size)
    have hlt1 : w0.heap.size < (w0.alloc (.cells #[.int .i64 k, .int .i64 ch, .int .i64 bi, .int .i64 ra, .int .i64 blk, .int .i64 shp] 25)).heap.size := (Array.getElem?_eq_some_iff.1 hI).1
    go_wp2_with first | (refine wpList_load_row rfl 23 (.tmp 4) rfl w.heap.size rfl 23 #[.int .i64 ch, .int .i64 bi, .int .i64 ra] (0, 0) _ hF Try.underlying23 rfl (by kernel_rfl) ?_)
    refine (iwithin_any k 1 3 true _ (decide_eq_true hk1)).mono ?_
    rintro e w4 ⟨rfl, rfl⟩
    go_wp2_with first | (refine wpList_load_row rfl 23 (.tmp 4) rfl w.heap.size rfl 23 #[.int .i64 ch, .int .i64 bi, .int .i64 ra] (0, 0) _ hF1 Try.underlying23 rfl (by kernel_rfl) ?_)
    generalize w0.alloc (.cells #[.int .i64 k, .int .i64 ch, .int .i64 bi, .int .i64 ra, .int .i64 blk, .int .i64 shp] 25) = w1 at *
    clear hx
    refine (HRT.out _).mono ?_
    rintro e w2 ⟨rfl, hx⟩
    have hC2 := (hx.block (w.heap.size + 1) (by omega)).trans hC1
    have hZ2 := (hx.block (w.heap.size + 2) (by omega)).trans hZ1
    have hI2 := (hx.block w0.heap.size (by omega)).trans hI
    have hb2 := hb1.trans (hx.mono hb1.size)
    have hlt2 := Nat.lt_of_lt_of_le hlt1 hx.size
    clear hx hF hC hZ hb hF1 hC1 hZ1 hI hb1 q0 q3
    go_wp2_with first | (refine wpList_load_row rfl 37 (.tmp 5) rfl (w.heap.size + 1) rfl 37 #[.int .i64 blk, .int .i64 ord, .int .i64 win, .int .i64 shp, .int .i64 tgt, .int .i64 res] (0, 0) _ hC2 Try.underlying37 rfl (by kernel_rfl) ?_)
    refine (HCF.out _).mono ?_
    rintro e w3 ⟨rfl, hx⟩
    have hZ3 := (hx.block (w.heap.size + 2) (by omega)).trans hZ2
    have hI3 := (hx.block w0.heap.size (by omega)).trans hI2
    have hb3 := hb2.trans (hx.mono hb2.size)
    clear hx
    have k5 : w3.cell? ⟨w0.heap.size, 5, none⟩ = some (.int .i64 shp) := by rw [cell_of_row _ _ _ _ _ _ hI3]; rfl
    have f5 : w3.frozen? ⟨w0.heap.size, 5, none⟩ = false := frozen_of_row _ _ _ _ _ hI3
    have hI6 : (w3.setCell ⟨w0.heap.size, 5, none⟩ (.int .i64 0)).heap[w0.heap.size]? = some (.cells #[.int .i64 k, .int .i64 ch, .int .i64 bi, .int .i64 ra, .int .i64 blk, .int .i64 0] 25 (0, 0)) := heap_setCell_same _ w0.heap.size 5 _ _ (.int .i64 0) hI3
    have hZ6 := (heap_setCell_other w3 ⟨w0.heap.size, 5, none⟩ (w.heap.size + 2) (.int .i64 0) (by show w.heap.size + 2 ≠ w0.heap.size; omega)).trans hZ3
    have hb6 := hb3.setCell (p := ⟨w0.heap.size, 5, none⟩) (by show w.heap.size ≤ w0.heap.size; omega) (.int .i64 0)
    go_wp2_with first | (refine wpList_load_row rfl 25 (.tmp 8) rfl w0.heap.size rfl 25 #[.int .i64 k, .int .i64 ch, .int .i64 bi, .int .i64 ra, .int .i64 blk, .int .i64 0] (0, 0) _ hI6 Try.underlying25 rfl (by kernel_rfl) ?_) | (refine wpList_store_row rfl 25 (.tmp 6) (.tmp 35) rfl rfl (w.heap.size + 2) rfl #[.int .i64 k, .int .i64 ch, .int .i64 bi, .int .i64 ra, .int .i64 blk, .int .i64 0] rfl 25 #[.int .i64 0, .int .i64 0, .int .i64 0, .int .i64 0, .int .i64 0, .int .i64 0] hZ6 (by kernel_rfl) rfl (by simp [Value.oneCell']) ?_)
    exact bodyPost_ret (v := .tuple #[.agg #[.int .i64 k, .int .i64 ch, .int .i64 bi, .int .i64 ra, .int .i64 blk, .int .i64 0], .int .i64 0]) (results_row_tmp (fn := Try.f17) (p := 6) (u := 7) (ty := 25) rfl _ _ (w.heap.size + 2) _ _ _ _ rfl (setRow_heap _ _ _ _ _ _ hZ6) Try.underlying25 rfl (by kernel_rfl)) rfl ⟨rfl, below_setRow hb6 (by omega) _⟩
  · obtain rfl : R = (0, k, ch, bi, ra, blk, shp) := by rw [HR.out]; unfold ofI; rw [if_neg hk, if_neg hr, if_neg hc, if_neg h3]
    have e_3 : (k == 3) = false := by simpa using h3
    clear HR h3
    obtain ⟨hF, hC, hZ, hb, hsz⟩ := three_allocs w (.cells #[.int .i64 ch, .int .i64 bi, .int .i64 ra] 23) (.cells #[.int .i64 blk, .int .i64 ord, .int .i64 win, .int .i64 shp, .int .i64 tgt, .int .i64 res] 37) (.cells #[.int .i64 0, .int .i64 0, .int .i64 0, .int .i64 0, .int .i64 0, .int .i64 0] 25)
    have hlt : w.heap.size + 2 < (((w.alloc (.cells #[.int .i64 ch, .int .i64 bi, .int .i64 ra] 23)).alloc (.cells #[.int .i64 blk, .int .i64 ord, .int .i64 win, .int .i64 shp, .int .i64 tgt, .int .i64 res] 37)).alloc (.cells #[.int .i64 0, .int .i64 0, .int .i64 0, .int .i64 0, .int .i64 0, .int .i64 0] 25)).heap.size := by omega
    clear hsz
    go_enter Try.func17, Try.ntmps17
    go_upto_region 1 with (fail)
    generalize (((w.alloc (.cells #[.int .i64 ch, .int .i64 bi, .int .i64 ra] 23)).alloc (.cells #[.int .i64 blk, .int .i64 ord, .int .i64 win, .int .i64 shp, .int .i64 tgt, .int .i64 res] 37)).alloc (.cells #[.int .i64 0, .int .i64 0, .int .i64 0, .int .i64 0, .int .i64 0, .int .i64 0] 25)) = w0 at *
    have q0 : w0.cell? ⟨w.heap.size + 1, 0, none⟩ = some (.int .i64 blk) := by rw [cell_of_row _ _ _ _ _ _ hC]; rfl
    have q3 : w0.cell? ⟨w.heap.size + 1, 3, none⟩ = some (.int .i64 shp) := by rw [cell_of_row _ _ _ _ _ _ hC]; rfl
    have hx : Below w0.heap.size w0 (w0.alloc (.cells #[.int .i64 k, .int .i64 ch, .int .i64 bi, .int .i64 ra, .int .i64 blk, .int .i64 shp] 25)) := (Below.refl _ _).alloc (Nat.le_refl _) _
    have hI := heap_alloc_new w0 (.cells #[.int .i64 k, .int .i64 ch, .int .i64 bi, .int .i64 ra, .int .i64 blk, .int .i64 shp] 25)
    have hF1 := (hx.block w.heap.size (by omega)).trans hF
    have hC1 := (hx.block (w.heap.size + 1) (by omega)).trans hC
    have hZ1 := (hx.block (w.heap.size + 2) (by omega)).trans hZ
    have hb1 := hb.trans (hx.mono hb.size)
    have hlt1 : w0.heap.size < (w0.alloc (.cells #[.int .i64 k, .int .i64 ch, .int .i64 bi, .int .i64 ra, .int .i64 blk, .int .i64 shp] 25)).heap.size := (Array.getElem?_eq_some_iff.1 hI).1
    go_wp2_with first | (refine wpList_load_row rfl 23 (.tmp 4) rfl w.heap.size rfl 23 #[.int .i64 ch, .int .i64 bi, .int .i64 ra] (0, 0) _ hF Try.underlying23 rfl (by kernel_rfl) ?_)
    refine (iwithin_any k 1 3 true _ (decide_eq_true hk1)).mono ?_
    rintro e w4 ⟨rfl, rfl⟩
    go_wp2_with first | (refine wpList_load_row rfl 23 (.tmp 4) rfl w.heap.size rfl 23 #[.int .i64 ch, .int .i64 bi, .int .i64 ra] (0, 0) _ hF1 Try.underlying23 rfl (by kernel_rfl) ?_)
    generalize w0.alloc (.cells #[.int .i64 k, .int .i64 ch, .int .i64 bi, .int .i64 ra, .int .i64 blk, .int .i64 shp] 25) = w1 at *
    clear hx
    refine (HRT.out _).mono ?_
    rintro e w2 ⟨rfl, hx⟩
    have hC2 := (hx.block (w.heap.size + 1) (by omega)).trans hC1
    have hZ2 := (hx.block (w.heap.size + 2) (by omega)).trans hZ1
    have hI2 := (hx.block w0.heap.size (by omega)).trans hI
    have hb2 := hb1.trans (hx.mono hb1.size)
    have hlt2 := Nat.lt_of_lt_of_le hlt1 hx.size
    clear hx hF hC hZ hb hF1 hC1 hZ1 hI hb1 q0 q3
    go_wp2_with first | (refine wpList_load_row rfl 37 (.tmp 5) rfl (w.heap.size + 1) rfl 37 #[.int .i64 blk, .int .i64 ord, .int .i64 win, .int .i64 shp, .int .i64 tgt, .int .i64 res] (0, 0) _ hC2 Try.underlying37 rfl (by kernel_rfl) ?_)
    refine (HCF.out _).mono ?_
    rintro e w3 ⟨rfl, hx⟩
    have hZ3 := (hx.block (w.heap.size + 2) (by omega)).trans hZ2
    have hI3 := (hx.block w0.heap.size (by omega)).trans hI2
    have hb3 := hb2.trans (hx.mono hb2.size)
    clear hx
    go_wp2_with first | (refine wpList_load_row rfl 25 (.tmp 8) rfl w0.heap.size rfl 25 #[.int .i64 k, .int .i64 ch, .int .i64 bi, .int .i64 ra, .int .i64 blk, .int .i64 shp] (0, 0) _ hI3 Try.underlying25 rfl (by kernel_rfl) ?_) | (refine wpList_store_row rfl 25 (.tmp 6) (.tmp 35) rfl rfl (w.heap.size + 2) rfl #[.int .i64 k, .int .i64 ch, .int .i64 bi, .int .i64 ra, .int .i64 blk, .int .i64 shp] rfl 25 #[.int .i64 0, .int .i64 0, .int .i64 0, .int .i64 0, .int .i64 0, .int .i64 0] hZ3 (by kernel_rfl) rfl (by simp [Value.oneCell']) ?_)
    exact bodyPost_ret (v := .tuple #[.agg #[.int .i64 k, .int .i64 ch, .int .i64 bi, .int .i64 ra, .int .i64 blk, .int .i64 shp], .int .i64 0]) (results_row_tmp (fn := Try.f17) (p := 6) (u := 7) (ty := 25) rfl _ _ (w.heap.size + 2) _ _ _ _ rfl (setRow_heap _ _ _ _ _ _ hZ3) Try.underlying25 rfl (by kernel_rfl)) rfl ⟨rfl, below_setRow hb3 (by omega) _⟩
set_option maxRecDepth 20000 in
set_option maxHeartbeats 4000000 in
theorem rof_any (k ch bi ra blk ord win shp tgt res : Int) (w : World) :
    Calls Try.prog 18 #[.int .i64 k, .agg #[.int .i64 ch, .int .i64 bi, .int .i64 ra], .agg #[.int .i64 blk, .int .i64 ord, .int .i64 win, .int .i64 shp, .int .i64 tgt, .int .i64 res]] w (OfPost w (ofI k ch bi ra blk ord win shp tgt res)) := by
  obtain ⟨R, hR⟩ : ∃ R, R = ofI k ch bi ra blk ord win shp tgt res := ⟨_, rfl⟩
  rw [← hR]
  have HR := hid hR
  clear hR
  have HRT := hid (fun W => rpright_any ch bi ra W)
  have HCF := hid (fun W => rconfig_any blk ord win shp tgt res W)
  by_cases a0 : k < 1
  · obtain rfl : R = (31, 0, 0, 0, 0, 0, 0) := by rw [HR.out]; unfold ofI; rw [if_pos (by omega)]
    clear HR
    have e_a0 : decide (k < 1) = true := decide_eq_true a0
    obtain ⟨hF, hC, hZ, hb, hsz⟩ := three_allocs w (.cells #[.int .i64 ch, .int .i64 bi, .int .i64 ra] 23) (.cells #[.int .i64 blk, .int .i64 ord, .int .i64 win, .int .i64 shp, .int .i64 tgt, .int .i64 res] 37) (.cells #[.int .i64 0, .int .i64 0, .int .i64 0, .int .i64 0, .int .i64 0, .int .i64 0] 25)
    have hlt : w.heap.size + 2 < (((w.alloc (.cells #[.int .i64 ch, .int .i64 bi, .int .i64 ra] 23)).alloc (.cells #[.int .i64 blk, .int .i64 ord, .int .i64 win, .int .i64 shp, .int .i64 tgt, .int .i64 res] 37)).alloc (.cells #[.int .i64 0, .int .i64 0, .int .i64 0, .int .i64 0, .int .i64 0, .int .i64 0] 25)).heap.size := by omega
    clear hsz
    go_enter Try.func18, Try.ntmps18
    go_upto_region 1 with (fail)
    generalize (((w.alloc (.cells #[.int .i64 ch, .int .i64 bi, .int .i64 ra] 23)).alloc (.cells #[.int .i64 blk, .int .i64 ord, .int .i64 win, .int .i64 shp, .int .i64 tgt, .int .i64 res] 37)).alloc (.cells #[.int .i64 0, .int .i64 0, .int .i64 0, .int .i64 0, .int .i64 0, .int .i64 0] 25)) = w0 at *
    have q0 : w0.cell? ⟨w.heap.size + 1, 0, none⟩ = some (.int .i64 blk) := by rw [cell_of_row _ _ _ _ _ _ hC]; rfl
    have q3 : w0.cell? ⟨w.heap.size + 1, 3, none⟩ = some (.int .i64 shp) := by rw [cell_of_row _ _ _ _ _ _ hC]; rfl
    go_wp2_with first | (refine wpList_store_row rfl 25 (.tmp 6) (.tmp 15) rfl rfl (w.heap.size + 2) rfl #[.int .i64 0, .int .i64 0, .int .i64 0, .int .i64 0, .int .i64 0, .int .i64 0] rfl 25 #[.int .i64 0, .int .i64 0, .int .i64 0, .int .i64 0, .int .i64 0, .int .i64 0] hZ (by kernel_rfl) rfl (by simp [Value.oneCell']) ?_)
    exact bodyPost_ret (v := .tuple #[.agg #[.int .i64 0, .int .i64 0, .int .i64 0, .int .i64 0, .int .i64 0, .int .i64 0], .int .i64 31]) (results_row_tmp (fn := Try.f18) (p := 6) (u := 7) (ty := 25) rfl _ _ (w.heap.size + 2) _ _ _ _ rfl (setRow_heap _ _ _ _ _ _ hZ) Try.underlying25 rfl (by kernel_rfl)) rfl ⟨rfl, below_setRow hb (by omega) _⟩
  by_cases a1 : 3 < k
  · obtain rfl : R = (31, 0, 0, 0, 0, 0, 0) := by rw [HR.out]; unfold ofI; rw [if_pos (by omega)]
    clear HR
    have e_a0 : decide (k < 1) = false := decide_eq_false a0
    have e_a1 : decide (3 < k) = true := decide_eq_true a1
    obtain ⟨hF, hC, hZ, hb, hsz⟩ := three_allocs w (.cells #[.int .i64 ch, .int .i64 bi, .int .i64 ra] 23) (.cells #[.int .i64 blk, .int .i64 ord, .int .i64 win, .int .i64 shp, .int .i64 tgt, .int .i64 res] 37) (.cells #[.int .i64 0, .int .i64 0, .int .i64 0, .int .i64 0, .int .i64 0, .int .i64 0] 25)
    have hlt : w.heap.size + 2 < (((w.alloc (.cells #[.int .i64 ch, .int .i64 bi, .int .i64 ra] 23)).alloc (.cells #[.int .i64 blk, .int .i64 ord, .int .i64 win, .int .i64 shp, .int .i64 tgt, .int .i64 res] 37)).alloc (.cells #[.int .i64 0, .int .i64 0, .int .i64 0, .int .i64 0, .int .i64 0, .int .i64 0] 25)).heap.size := by omega
    clear hsz
    go_enter Try.func18, Try.ntmps18
    go_upto_region 1 with (fail)
    generalize (((w.alloc (.cells #[.int .i64 ch, .int .i64 bi, .int .i64 ra] 23)).alloc (.cells #[.int .i64 blk, .int .i64 ord, .int .i64 win, .int .i64 shp, .int .i64 tgt, .int .i64 res] 37)).alloc (.cells #[.int .i64 0, .int .i64 0, .int .i64 0, .int .i64 0, .int .i64 0, .int .i64 0] 25)) = w0 at *
    have q0 : w0.cell? ⟨w.heap.size + 1, 0, none⟩ = some (.int .i64 blk) := by rw [cell_of_row _ _ _ _ _ _ hC]; rfl
    have q3 : w0.cell? ⟨w.heap.size + 1, 3, none⟩ = some (.int .i64 shp) := by rw [cell_of_row _ _ _ _ _ _ hC]; rfl
    go_wp2_with first | (refine wpList_store_row rfl 25 (.tmp 6) (.tmp 15) rfl rfl (w.heap.size + 2) rfl #[.int .i64 0, .int .i64 0, .int .i64 0, .int .i64 0, .int .i64 0, .int .i64 0] rfl 25 #[.int .i64 0, .int .i64 0, .int .i64 0, .int .i64 0, .int .i64 0, .int .i64 0] hZ (by kernel_rfl) rfl (by simp [Value.oneCell']) ?_)
    exact bodyPost_ret (v := .tuple #[.agg #[.int .i64 0, .int .i64 0, .int .i64 0, .int .i64 0, .int .i64 0, .int .i64 0], .int .i64 31]) (results_row_tmp (fn := Try.f18) (p := 6) (u := 7) (ty := 25) rfl _ _ (w.heap.size + 2) _ _ _ _ rfl (setRow_heap _ _ _ _ _ _ hZ) Try.underlying25 rfl (by kernel_rfl)) rfl ⟨rfl, below_setRow hb (by omega) _⟩
  have e_a0 : decide (k < 1) = false := decide_eq_false a0
  have e_a1 : decide (3 < k) = false := decide_eq_false a1
  have hk : ¬ ¬ (1 ≤ k ∧ k ≤ 3) := by omega
  by_cases hr : rightF ch bi ra = false
  · obtain rfl : R = (20, 0, 0, 0, 0, 0, 0) := by rw [HR.out]; unfold ofI; rw [if_neg hk, if_pos hr]
    clear HR
    rw [hr] at HRT
    obtain ⟨hF, hC, hZ, hb, hsz⟩ := three_allocs w (.cells #[.int .i64 ch, .int .i64 bi, .int .i64 ra] 23) (.cells #[.int .i64 blk, .int .i64 ord, .int .i64 win, .int .i64 shp, .int .i64 tgt, .int .i64 res] 37) (.cells #[.int .i64 0, .int .i64 0, .int .i64 0, .int .i64 0, .int .i64 0, .int .i64 0] 25)
    have hlt : w.heap.size + 2 < (((w.alloc (.cells #[.int .i64 ch, .int .i64 bi, .int .i64 ra] 23)).alloc (.cells #[.int .i64 blk, .int .i64 ord, .int .i64 win, .int .i64 shp, .int .i64 tgt, .int .i64 res] 37)).alloc (.cells #[.int .i64 0, .int .i64 0, .int .i64 0, .int .i64 0, .int .i64 0, .int .i64 0] 25)).heap.size := by omega
    clear hsz
    go_enter Try.func18, Try.ntmps18
    go_upto_region 1 with (fail)
    generalize (((w.alloc (.cells #[.int .i64 ch, .int .i64 bi, .int .i64 ra] 23)).alloc (.cells #[.int .i64 blk, .int .i64 ord, .int .i64 win, .int .i64 shp, .int .i64 tgt, .int .i64 res] 37)).alloc (.cells #[.int .i64 0, .int .i64 0, .int .i64 0, .int .i64 0, .int .i64 0, .int .i64 0] 25)) = w0 at *
    have q0 : w0.cell? ⟨w.heap.size + 1, 0, none⟩ = some (.int .i64 blk) := by rw [cell_of_row _ _ _ _ _ _ hC]; rfl
    have q3 : w0.cell? ⟨w.heap.size + 1, 3, none⟩ = some (.int .i64 shp) := by rw [cell_of_row _ _ _ _ _ _ hC]; rfl
    go_wp2_with first | (refine wpList_load_row rfl 23 (.tmp 4) rfl w.heap.size rfl 23 #[.int .i64 ch, .int .i64 bi, .int .i64 ra] (0, 0) _ hF Try.underlying23 rfl (by kernel_rfl) ?_)
    refine (HRT.out _).mono ?_
    rintro e w2 ⟨rfl, hx⟩
    have hZ2 := (hx.block (w.heap.size + 2) (by omega)).trans hZ
    have hb2 := hb.trans (hx.mono hb.size)
    go_wp2_with first | (refine wpList_store_row rfl 25 (.tmp 6) (.tmp 19) rfl rfl (w.heap.size + 2) rfl #[.int .i64 0, .int .i64 0, .int .i64 0, .int .i64 0, .int .i64 0, .int .i64 0] rfl 25 #[.int .i64 0, .int .i64 0, .int .i64 0, .int .i64 0, .int .i64 0, .int .i64 0] hZ2 (by kernel_rfl) rfl (by simp [Value.oneCell']) ?_)
    exact bodyPost_ret (v := .tuple #[.agg #[.int .i64 0, .int .i64 0, .int .i64 0, .int .i64 0, .int .i64 0, .int .i64 0], .int .i64 20]) (results_row_tmp (fn := Try.f18) (p := 6) (u := 7) (ty := 25) rfl _ _ (w.heap.size + 2) _ _ _ _ rfl (setRow_heap _ _ _ _ _ _ hZ2) Try.underlying25 rfl (by kernel_rfl)) rfl ⟨rfl, below_setRow hb2 (by omega) _⟩
  have hr1 : rightF ch bi ra = true := by simpa using hr
  rw [hr1] at HRT
  by_cases hc : codeC blk ord win shp tgt res ≠ 0
  · obtain rfl : R = (23, 0, 0, 0, 0, 0, 0) := by rw [HR.out]; unfold ofI; rw [if_neg hk, if_neg hr, if_pos hc]
    clear HR
    have e_c : (codeC blk ord win shp tgt res != 0) = true := by simpa using hc
    generalize codeC blk ord win shp tgt res = cc at *
    obtain ⟨hF, hC, hZ, hb, hsz⟩ := three_allocs w (.cells #[.int .i64 ch, .int .i64 bi, .int .i64 ra] 23) (.cells #[.int .i64 blk, .int .i64 ord, .int .i64 win, .int .i64 shp, .int .i64 tgt, .int .i64 res] 37) (.cells #[.int .i64 0, .int .i64 0, .int .i64 0, .int .i64 0, .int .i64 0, .int .i64 0] 25)
    have hlt : w.heap.size + 2 < (((w.alloc (.cells #[.int .i64 ch, .int .i64 bi, .int .i64 ra] 23)).alloc (.cells #[.int .i64 blk, .int .i64 ord, .int .i64 win, .int .i64 shp, .int .i64 tgt, .int .i64 res] 37)).alloc (.cells #[.int .i64 0, .int .i64 0, .int .i64 0, .int .i64 0, .int .i64 0, .int .i64 0] 25)).heap.size := by omega
    clear hsz
    go_enter Try.func18, Try.ntmps18
    go_upto_region 1 with (fail)
    generalize (((w.alloc (.cells #[.int .i64 ch, .int .i64 bi, .int .i64 ra] 23)).alloc (.cells #[.int .i64 blk, .int .i64 ord, .int .i64 win, .int .i64 shp, .int .i64 tgt, .int .i64 res] 37)).alloc (.cells #[.int .i64 0, .int .i64 0, .int .i64 0, .int .i64 0, .int .i64 0, .int .i64 0] 25)) = w0 at *
    have q0 : w0.cell? ⟨w.heap.size + 1, 0, none⟩ = some (.int .i64 blk) := by rw [cell_of_row _ _ _ _ _ _ hC]; rfl
    have q3 : w0.cell? ⟨w.heap.size + 1, 3, none⟩ = some (.int .i64 shp) := by rw [cell_of_row _ _ _ _ _ _ hC]; rfl
    go_wp2_with first | (refine wpList_load_row rfl 23 (.tmp 4) rfl w.heap.size rfl 23 #[.int .i64 ch, .int .i64 bi, .int .i64 ra] (0, 0) _ hF Try.underlying23 rfl (by kernel_rfl) ?_)
    refine (HRT.out _).mono ?_
    rintro e w2 ⟨rfl, hx⟩
    have hF2 := (hx.block w.heap.size (by omega)).trans hF
    have hC2 := (hx.block (w.heap.size + 1) (by omega)).trans hC
    have hZ2 := (hx.block (w.heap.size + 2) (by omega)).trans hZ
    have hb2 := hb.trans (hx.mono hb.size)
    have hlt2 := Nat.lt_of_lt_of_le hlt hx.size
    clear hx hF hC hZ hb q0 q3
    go_wp2_with first | (refine wpList_load_row rfl 37 (.tmp 5) rfl (w.heap.size + 1) rfl 37 #[.int .i64 blk, .int .i64 ord, .int .i64 win, .int .i64 shp, .int .i64 tgt, .int .i64 res] (0, 0) _ hC2 Try.underlying37 rfl (by kernel_rfl) ?_)
    refine (HCF.out _).mono ?_
    rintro e w3 ⟨rfl, hx⟩
    have hF3 := (hx.block w.heap.size (by omega)).trans hF2
    have hC3 := (hx.block (w.heap.size + 1) (by omega)).trans hC2
    have hZ3 := (hx.block (w.heap.size + 2) (by omega)).trans hZ2
    have hb3 := hb2.trans (hx.mono hb2.size)
    have hlt3 := Nat.lt_of_lt_of_le hlt2 hx.size
    clear hx hF2 hC2 hZ2 hb2
    go_wp2_with first | (refine wpList_store_row rfl 25 (.tmp 6) (.tmp 23) rfl rfl (w.heap.size + 2) rfl #[.int .i64 0, .int .i64 0, .int .i64 0, .int .i64 0, .int .i64 0, .int .i64 0] rfl 25 #[.int .i64 0, .int .i64 0, .int .i64 0, .int .i64 0, .int .i64 0, .int .i64 0] hZ3 (by kernel_rfl) rfl (by simp [Value.oneCell']) ?_)
    exact bodyPost_ret (v := .tuple #[.agg #[.int .i64 0, .int .i64 0, .int .i64 0, .int .i64 0, .int .i64 0, .int .i64 0], .int .i64 23]) (results_row_tmp (fn := Try.f18) (p := 6) (u := 7) (ty := 25) rfl _ _ (w.heap.size + 2) _ _ _ _ rfl (setRow_heap _ _ _ _ _ _ hZ3) Try.underlying25 rfl (by kernel_rfl)) rfl ⟨rfl, below_setRow hb3 (by omega) _⟩
  have hc0 : codeC blk ord win shp tgt res = 0 := Decidable.not_not.1 hc
  rw [hc0] at HCF
  by_cases h3 : k = 3
  · obtain rfl : R = (0, k, ch, bi, ra, blk, 0) := by rw [HR.out]; unfold ofI; rw [if_neg hk, if_neg hr, if_neg hc, if_pos h3]
    have e_3 : (k == 3) = true := by simpa using h3
    clear HR h3
    obtain ⟨hF, hC, hZ, hb, hsz⟩ := three_allocs w (.cells #[.int .i64 ch, .int .i64 bi, .int .i64 ra] 23) (.cells #[.int .i64 blk, .int .i64 ord, .int .i64 win, .int .i64 shp, .int .i64 tgt, .int .i64 res] 37) (.cells #[.int .i64 0, .int .i64 0, .int .i64 0, .int .i64 0, .int .i64 0, .int .i64 0] 25)
    have hlt : w.heap.size + 2 < (((w.alloc (.cells #[.int .i64 ch, .int .i64 bi, .int .i64 ra] 23)).alloc (.cells #[.int .i64 blk, .int .i64 ord, .int .i64 win, .int .i64 shp, .int .i64 tgt, .int .i64 res] 37)).alloc (.cells #[.int .i64 0, .int .i64 0, .int .i64 0, .int .i64 0, .int .i64 0, .int .i64 0] 25)).heap.size := by omega
    clear hsz
    go_enter Try.func18, Try.ntmps18
    go_upto_region 1 with (fail)
    generalize (((w.alloc (.cells #[.int .i64 ch, .int .i64 bi, .int .i64 ra] 23)).alloc (.cells #[.int .i64 blk, .int .i64 ord, .int .i64 win, .int .i64 shp, .int .i64 tgt, .int .i64 res] 37)).alloc (.cells #[.int .i64 0, .int .i64 0, .int .i64 0, .int .i64 0, .int .i64 0, .int .i64 0] 25)) = w0 at *
    have q0 : w0.cell? ⟨w.heap.size + 1, 0, none⟩ = some (.int .i64 blk) := by rw [cell_of_row _ _ _ _ _ _ hC]; rfl
    have q3 : w0.cell? ⟨w.heap.size + 1, 3, none⟩ = some (.int .i64 shp) := by rw [cell_of_row _ _ _ _ _ _ hC]; rfl
    go_wp2_with first | (refine wpList_load_row rfl 23 (.tmp 4) rfl w.heap.size rfl 23 #[.int .i64 ch, .int .i64 bi, .int .i64 ra] (0, 0) _ hF Try.underlying23 rfl (by kernel_rfl) ?_)
    refine (HRT.out _).mono ?_
    rintro e w2 ⟨rfl, hx⟩
    have hF2 := (hx.block w.heap.size (by omega)).trans hF
    have hC2 := (hx.block (w.heap.size + 1) (by omega)).trans hC
    have hZ2 := (hx.block (w.heap.size + 2) (by omega)).trans hZ
    have hb2 := hb.trans (hx.mono hb.size)
    have hlt2 := Nat.lt_of_lt_of_le hlt hx.size
    clear hx hF hC hZ hb q0 q3
    go_wp2_with first | (refine wpList_load_row rfl 37 (.tmp 5) rfl (w.heap.size + 1) rfl 37 #[.int .i64 blk, .int .i64 ord, .int .i64 win, .int .i64 shp, .int .i64 tgt, .int .i64 res] (0, 0) _ hC2 Try.underlying37 rfl (by kernel_rfl) ?_)
    refine (HCF.out _).mono ?_
    rintro e w3 ⟨rfl, hx⟩
    have hF3 := (hx.block w.heap.size (by omega)).trans hF2
    have hC3 := (hx.block (w.heap.size + 1) (by omega)).trans hC2
    have hZ3 := (hx.block (w.heap.size + 2) (by omega)).trans hZ2
    have hb3 := hb2.trans (hx.mono hb2.size)
    have hlt3 := Nat.lt_of_lt_of_le hlt2 hx.size
    clear hx hF2 hC2 hZ2 hb2
    have q0 : w3.cell? ⟨w.heap.size + 1, 0, none⟩ = some (.int .i64 blk) := by rw [cell_of_row _ _ _ _ _ _ hC3]; rfl
    have q3 : w3.cell? ⟨w.heap.size + 1, 3, none⟩ = some (.int .i64 shp) := by rw [cell_of_row _ _ _ _ _ _ hC3]; rfl
    have hx : Below w3.heap.size w3 (w3.alloc (.cells #[.int .i64 k, .int .i64 ch, .int .i64 bi, .int .i64 ra, .int .i64 blk, .int .i64 shp] 25)) := (Below.refl _ _).alloc (Nat.le_refl _) _
    have hI4 := heap_alloc_new w3 (.cells #[.int .i64 k, .int .i64 ch, .int .i64 bi, .int .i64 ra, .int .i64 blk, .int .i64 shp] 25)
    have hZ4 := (hx.block (w.heap.size + 2) (by omega)).trans hZ3
    have hb4 := hb3.trans (hx.mono hb3.size)
    clear hx
    have k5 : (w3.alloc (.cells #[.int .i64 k, .int .i64 ch, .int .i64 bi, .int .i64 ra, .int .i64 blk, .int .i64 shp] 25)).cell? ⟨w3.heap.size, 5, none⟩ = some (.int .i64 shp) := by rw [cell_of_row _ _ _ _ _ _ hI4]; rfl
    have f5 : (w3.alloc (.cells #[.int .i64 k, .int .i64 ch, .int .i64 bi, .int .i64 ra, .int .i64 blk, .int .i64 shp] 25)).frozen? ⟨w3.heap.size, 5, none⟩ = false := frozen_of_row _ _ _ _ _ hI4
    have hx : Below w3.heap.size w3 (w3.alloc (.cells #[.int .i64 k, .int .i64 ch, .int .i64 bi, .int .i64 ra, .int .i64 blk, .int .i64 0] 25)) := (Below.refl _ _).alloc (Nat.le_refl _) _
    have hI6 := heap_alloc_new w3 (.cells #[.int .i64 k, .int .i64 ch, .int .i64 bi, .int .i64 ra, .int .i64 blk, .int .i64 0] 25)
    have hZ6 := (hx.block (w.heap.size + 2) (by omega)).trans hZ3
    have hb6 := hb3.trans (hx.mono hb3.size)
    clear hx
    go_wp2_with first | (refine wpList_load_row rfl 25 (.tmp 8) rfl w3.heap.size rfl 25 #[.int .i64 k, .int .i64 ch, .int .i64 bi, .int .i64 ra, .int .i64 blk, .int .i64 0] (0, 0) _ hI6 Try.underlying25 rfl (by kernel_rfl) ?_) | (refine wpList_store_row rfl 25 (.tmp 6) (.tmp 34) rfl rfl (w.heap.size + 2) rfl #[.int .i64 k, .int .i64 ch, .int .i64 bi, .int .i64 ra, .int .i64 blk, .int .i64 0] rfl 25 #[.int .i64 0, .int .i64 0, .int .i64 0, .int .i64 0, .int .i64 0, .int .i64 0] hZ6 (by kernel_rfl) rfl (by simp [Value.oneCell']) ?_) | (refine wpList_load_row rfl 23 (.tmp 4) rfl w.heap.size rfl 23 #[.int .i64 ch, .int .i64 bi, .int .i64 ra] (0, 0) _ hF3 Try.underlying23 rfl (by kernel_rfl) ?_)
    exact bodyPost_ret (v := .tuple #[.agg #[.int .i64 k, .int .i64 ch, .int .i64 bi, .int .i64 ra, .int .i64 blk, .int .i64 0], .int .i64 0]) (results_row_tmp (fn := Try.f18) (p := 6) (u := 7) (ty := 25) rfl _ _ (w.heap.size + 2) _ _ _ _ rfl (setRow_heap _ _ _ _ _ _ hZ6) Try.underlying25 rfl (by kernel_rfl)) rfl ⟨rfl, below_setRow hb6 (by omega) _⟩
  · obtain rfl : R = (0, k, ch, bi, ra, blk, shp) := by rw [HR.out]; unfold ofI; rw [if_neg hk, if_neg hr, if_neg hc, if_neg h3]
    have e_3 : (k == 3) = false := by simpa using h3
    clear HR h3
    obtain ⟨hF, hC, hZ, hb, hsz⟩ := three_allocs w (.cells #[.int .i64 ch, .int .i64 bi, .int .i64 ra] 23) (.cells #[.int .i64 blk, .int .i64 ord, .int .i64 win, .int .i64 shp, .int .i64 tgt, .int .i64 res] 37) (.cells #[.int .i64 0, .int .i64 0, .int .i64 0, .int .i64 0, .int .i64 0, .int .i64 0] 25)
    have hlt : w.heap.size + 2 < (((w.alloc (.cells #[.int .i64 ch, .int .i64 bi, .int .i64 ra] 23)).alloc (.cells #[.int .i64 blk, .int .i64 ord, .int .i64 win, .int .i64 shp, .int .i64 tgt, .int .i64 res] 37)).alloc (.cells #[.int .i64 0, .int .i64 0, .int .i64 0, .int .i64 0, .int .i64 0, .int .i64 0] 25)).heap.size := by omega
    clear hsz
    go_enter Try.func18, Try.ntmps18
    go_upto_region 1 with (fail)
    generalize (((w.alloc (.cells #[.int .i64 ch, .int .i64 bi, .int .i64 ra] 23)).alloc (.cells #[.int .i64 blk, .int .i64 ord, .int .i64 win, .int .i64 shp, .int .i64 tgt, .int .i64 res] 37)).alloc (.cells #[.int .i64 0, .int .i64 0, .int .i64 0, .int .i64 0, .int .i64 0, .int .i64 0] 25)) = w0 at *
    have q0 : w0.cell? ⟨w.heap.size + 1, 0, none⟩ = some (.int .i64 blk) := by rw [cell_of_row _ _ _ _ _ _ hC]; rfl
    have q3 : w0.cell? ⟨w.heap.size + 1, 3, none⟩ = some (.int .i64 shp) := by rw [cell_of_row _ _ _ _ _ _ hC]; rfl
    go_wp2_with first | (refine wpList_load_row rfl 23 (.tmp 4) rfl w.heap.size rfl 23 #[.int .i64 ch, .int .i64 bi, .int .i64 ra] (0, 0) _ hF Try.underlying23 rfl (by kernel_rfl) ?_)
    refine (HRT.out _).mono ?_
    rintro e w2 ⟨rfl, hx⟩
    have hF2 := (hx.block w.heap.size (by omega)).trans hF
    have hC2 := (hx.block (w.heap.size + 1) (by omega)).trans hC
    have hZ2 := (hx.block (w.heap.size + 2) (by omega)).trans hZ
    have hb2 := hb.trans (hx.mono hb.size)
    have hlt2 := Nat.lt_of_lt_of_le hlt hx.size
    clear hx hF hC hZ hb q0 q3
    go_wp2_with first | (refine wpList_load_row rfl 37 (.tmp 5) rfl (w.heap.size + 1) rfl 37 #[.int .i64 blk, .int .i64 ord, .int .i64 win, .int .i64 shp, .int .i64 tgt, .int .i64 res] (0, 0) _ hC2 Try.underlying37 rfl (by kernel_rfl) ?_)
    refine (HCF.out _).mono ?_
    rintro e w3 ⟨rfl, hx⟩
    have hF3 := (hx.block w.heap.size (by omega)).trans hF2
    have hC3 := (hx.block (w.heap.size + 1) (by omega)).trans hC2
    have hZ3 := (hx.block (w.heap.size + 2) (by omega)).trans hZ2
    have hb3 := hb2.trans (hx.mono hb2.size)
    have hlt3 := Nat.lt_of_lt_of_le hlt2 hx.size
    clear hx hF2 hC2 hZ2 hb2
    have q0 : w3.cell? ⟨w.heap.size + 1, 0, none⟩ = some (.int .i64 blk) := by rw [cell_of_row _ _ _ _ _ _ hC3]; rfl
    have q3 : w3.cell? ⟨w.heap.size + 1, 3, none⟩ = some (.int .i64 shp) := by rw [cell_of_row _ _ _ _ _ _ hC3]; rfl
    have hx : Below w3.heap.size w3 (w3.alloc (.cells #[.int .i64 k, .int .i64 ch, .int .i64 bi, .int .i64 ra, .int .i64 blk, .int .i64 shp] 25)) := (Below.refl _ _).alloc (Nat.le_refl _) _
    have hI4 := heap_alloc_new w3 (.cells #[.int .i64 k, .int .i64 ch, .int .i64 bi, .int .i64 ra, .int .i64 blk, .int .i64 shp] 25)
    have hZ4 := (hx.block (w.heap.size + 2) (by omega)).trans hZ3
    have hb4 := hb3.trans (hx.mono hb3.size)
    clear hx
    go_wp2_with first | (refine wpList_load_row rfl 25 (.tmp 8) rfl w3.heap.size rfl 25 #[.int .i64 k, .int .i64 ch, .int .i64 bi, .int .i64 ra, .int .i64 blk, .int .i64 shp] (0, 0) _ hI4 Try.underlying25 rfl (by kernel_rfl) ?_) | (refine wpList_store_row rfl 25 (.tmp 6) (.tmp 34) rfl rfl (w.heap.size + 2) rfl #[.int .i64 k, .int .i64 ch, .int .i64 bi, .int .i64 ra, .int .i64 blk, .int .i64 shp] rfl 25 #[.int .i64 0, .int .i64 0, .int .i64 0, .int .i64 0, .int .i64 0, .int .i64 0] hZ4 (by kernel_rfl) rfl (by simp [Value.oneCell']) ?_) | (refine wpList_load_row rfl 23 (.tmp 4) rfl w.heap.size rfl 23 #[.int .i64 ch, .int .i64 bi, .int .i64 ra] (0, 0) _ hF3 Try.underlying23 rfl (by kernel_rfl) ?_)
    exact bodyPost_ret (v := .tuple #[.agg #[.int .i64 k, .int .i64 ch, .int .i64 bi, .int .i64 ra, .int .i64 blk, .int .i64 shp], .int .i64 0]) (results_row_tmp (fn := Try.f18) (p := 6) (u := 7) (ty := 25) rfl _ _ (w.heap.size + 2) _ _ _ _ rfl (setRow_heap _ _ _ _ _ _ hZ4) Try.underlying25 rfl (by kernel_rfl)) rfl ⟨rfl, below_setRow hb4 (by omega) _⟩
end Go.Proofs.Ytafjjkcfndaclaa
