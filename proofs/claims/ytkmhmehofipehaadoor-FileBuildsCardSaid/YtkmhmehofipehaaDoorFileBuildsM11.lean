/- A file on its way: what is noted of the next block. -/
import Derived.Test.YtkmhmehofipehaaDoorFileBuildsM10
import Derived.Deep.RegionHeld3
namespace Go.Proofs.YtkmhmehofipehaaDoor
set_option linter.unusedVariables false
open Go.RowKit
theorem undrewF {B : Nat} {w w' : World} (h : Below B w.drew w') : Below B w w' := ⟨h.os, h.tape, h.output, h.size, h.block⟩
set_option maxRecDepth 20000 in
set_option maxHeartbeats 4000000 in
theorem mnext_bad (m : Nat) (cs : Array Value) (t : TypeId) (i : InfoV) (h : HeadV) (at_ : Int) (np cp : Nat) (Ap : Option Addr) (short : Bool) (w : World) (hbi : 8 ≤ i.bi ∧ i.bi ≤ 24)
    (hm : w.heap[m]? = some (.cells cs t (0, 0))) (h1 : cs[1]? = some (.int .i64 i.k)) (h2 : cs[2]? = some (.int .i64 i.ch)) (h3 : cs[3]? = some (.int .i64 i.bi)) (h4 : cs[4]? = some (.int .i64 i.ra)) (h5 : cs[5]? = some (.int .i64 i.bl)) (h6 : cs[6]? = some (.int .i64 i.sh))
    (h8 : cs[8]? = some (.slice Ap np cp)) (h10 : cs[10]? = some (.bool short)) (hE : nextE i h np short ≠ 0) :
    Calls Tryd.prog 43 #[.pointer (some ⟨m, 0, none⟩), h.v, .int .i64 at_] w fun e w' => e = .returned (.int .i64 (nextE i h np short)) ∧ Below w.heap.size w w' := by
  have hN := hid (fun W => fnext_any i h np short W hbi)
  obtain ⟨E, hEE⟩ : ∃ E, E = nextE i h np short := ⟨_, rfl⟩
  rw [← hEE] at hN hE ⊢
  clear hEE
  have dE : (E != 0) = true := by simpa using hE
  obtain ⟨ik, ich, ibi, ira, ibl, ish⟩ := i
  obtain ⟨hk, hidx, hlen, hstp, hbnd, hlst, hlnk, hsiz⟩ := h
  unfold InfoV.v HeadV.v at hN
  unfold HeadV.v
  simp only at h1 h2 h3 h4 h5 h6 hN hbi ⊢
  have hmlt := (Array.getElem?_eq_some_iff.1 hm).1
  have hb0 : Below w.heap.size w (w.alloc (.cells #[.int .i64 hk, .int .i64 hidx, .int .i64 hlen, .int .i64 hstp, .int .i64 hbnd, .bool hlst, .int .u32 hlnk, .int .i64 hsiz] 52)) := (Below.refl _ w).alloc (Nat.le_refl _) _
  have hrow := heap_alloc_new w (.cells #[.int .i64 hk, .int .i64 hidx, .int .i64 hlen, .int .i64 hstp, .int .i64 hbnd, .bool hlst, .int .u32 hlnk, .int .i64 hsiz] 52)
  have hm0 := (hb0.block m hmlt).trans hm
  go_enter Tryd.func43, Tryd.ntmps43
  go_wp2_with fail
  generalize w.alloc (.cells #[.int .i64 hk, .int .i64 hidx, .int .i64 hlen, .int .i64 hstp, .int .i64 hbnd, .bool hlst, .int .u32 hlnk, .int .i64 hsiz] 52) = w0 at *
  have c1 : w0.cell? ⟨m, 1, none⟩ = some (.int .i64 ik) := by rw [cell_of_row _ _ _ _ _ _ hm0]; exact h1
  have c2 : w0.cell? ⟨m, 2, none⟩ = some (.int .i64 ich) := by rw [cell_of_row _ _ _ _ _ _ hm0]; exact h2
  have c3 : w0.cell? ⟨m, 3, none⟩ = some (.int .i64 ibi) := by rw [cell_of_row _ _ _ _ _ _ hm0]; exact h3
  have c4 : w0.cell? ⟨m, 4, none⟩ = some (.int .i64 ira) := by rw [cell_of_row _ _ _ _ _ _ hm0]; exact h4
  have c5 : w0.cell? ⟨m, 5, none⟩ = some (.int .i64 ibl) := by rw [cell_of_row _ _ _ _ _ _ hm0]; exact h5
  have c6 : w0.cell? ⟨m, 6, none⟩ = some (.int .i64 ish) := by rw [cell_of_row _ _ _ _ _ _ hm0]; exact h6
  have c8 : w0.cell? ⟨m, 8, none⟩ = some (.slice Ap np cp) := by rw [cell_of_row _ _ _ _ _ _ hm0]; exact h8
  have c10 : w0.cell? ⟨m, 10, none⟩ = some (.bool short) := by rw [cell_of_row _ _ _ _ _ _ hm0]; exact h10
  have e0 : w0.cell? ⟨w.heap.size, 0, none⟩ = some (.int .i64 hk) := by rw [cell_of_row _ _ _ _ _ _ hrow]; rfl
  have e1 : w0.cell? ⟨w.heap.size, 1, none⟩ = some (.int .i64 hidx) := by rw [cell_of_row _ _ _ _ _ _ hrow]; rfl
  have e2 : w0.cell? ⟨w.heap.size, 2, none⟩ = some (.int .i64 hlen) := by rw [cell_of_row _ _ _ _ _ _ hrow]; rfl
  have e3 : w0.cell? ⟨w.heap.size, 3, none⟩ = some (.int .i64 hstp) := by rw [cell_of_row _ _ _ _ _ _ hrow]; rfl
  have e4 : w0.cell? ⟨w.heap.size, 4, none⟩ = some (.int .i64 hbnd) := by rw [cell_of_row _ _ _ _ _ _ hrow]; rfl
  have e5 : w0.cell? ⟨w.heap.size, 5, none⟩ = some (.bool hlst) := by rw [cell_of_row _ _ _ _ _ _ hrow]; rfl
  have e6 : w0.cell? ⟨w.heap.size, 6, none⟩ = some (.int .u32 hlnk) := by rw [cell_of_row _ _ _ _ _ _ hrow]; rfl
  have e7 : w0.cell? ⟨w.heap.size, 7, none⟩ = some (.int .i64 hsiz) := by rw [cell_of_row _ _ _ _ _ _ hrow]; rfl
  clear hm hm0 hrow h1 h2 h3 h4 h5 h6 h8 h10 hE
  go_region_held3 (fun w' => w'.cell? ⟨m, 1, none⟩ = some (.int .i64 ik) ∧ w'.cell? ⟨m, 2, none⟩ = some (.int .i64 ich) ∧ w'.cell? ⟨m, 3, none⟩ = some (.int .i64 ibi) ∧ w'.cell? ⟨m, 4, none⟩ = some (.int .i64 ira) ∧ w'.cell? ⟨m, 5, none⟩ = some (.int .i64 ibl) ∧ w'.cell? ⟨m, 6, none⟩ = some (.int .i64 ish) ∧ w'.cell? ⟨m, 8, none⟩ = some (.slice Ap np cp) ∧ w'.cell? ⟨m, 10, none⟩ = some (.bool short) ∧ w'.cell? ⟨w.heap.size, 0, none⟩ = some (.int .i64 hk) ∧ w'.cell? ⟨w.heap.size, 1, none⟩ = some (.int .i64 hidx) ∧ w'.cell? ⟨w.heap.size, 2, none⟩ = some (.int .i64 hlen) ∧ w'.cell? ⟨w.heap.size, 3, none⟩ = some (.int .i64 hstp) ∧ w'.cell? ⟨w.heap.size, 4, none⟩ = some (.int .i64 hbnd) ∧ w'.cell? ⟨w.heap.size, 5, none⟩ = some (.bool hlst) ∧ w'.cell? ⟨w.heap.size, 6, none⟩ = some (.int .u32 hlnk) ∧ w'.cell? ⟨w.heap.size, 7, none⟩ = some (.int .i64 hsiz))
    (first | exact ⟨c1, c2, c3, c4, c5, c6, c8, c10, e0, e1, e2, e3, e4, e5, e6, e7⟩ | exact ⟨f1, f2, f3, f4, f5, f6, f8, f10, k0, k1, k2, k3, k4, k5, k6, k7⟩ | go_keep)
    (first | (go_at_call 72; refine (hN.out _).mono ?_; rintro e w1 ⟨rfl, hb1⟩; have f1 := keep1 hb1 c1; have f2 := keep1 hb1 c2; have f3 := keep1 hb1 c3; have f4 := keep1 hb1 c4; have f5 := keep1 hb1 c5; have f6 := keep1 hb1 c6; have f8 := keep1 hb1 c8; have f10 := keep1 hb1 c10; have k0 := keep1 hb1 e0; have k1 := keep1 hb1 e1; have k2 := keep1 hb1 e2; have k3 := keep1 hb1 e3; have k4 := keep1 hb1 e4; have k5 := keep1 hb1 e5; have k6 := keep1 hb1 e6; have k7 := keep1 hb1 e7))
  have hbw := hb0.trans ((undrewF hb1).mono hb0.size)
  clear c1 f1 c2 f2 c3 f3 c4 f4 c5 f5 c6 f6 c8 f8 c10 f10 e0 k0 e1 k1 e2 k2 e3 k3 e4 k4 e5 k5 e6 k6 e7 k7 hb1
  go_wp2_with fail
  go_ret
  exact ⟨rfl, hbw⟩
/-- what next leaves where the block may be next -/
def MNext (base m : Nat) (cs : Array Value) (t : TypeId) (pl : List Int) (Ap : Option Addr) (cp : Nat) (at_ cnt : Int) (short : Bool) (w : World) (e : Ending) (w' : World) : Prop :=
  e = .returned (.int .i64 0) ∧ ∃ (Aq : Option Addr) (cq : Nat), w'.heap[m]? = some (.cells (((cs.setIfInBounds 8 (.slice Aq (pl.length + 1) cq)).setIfInBounds 9 (.int .i64 cnt)).setIfInBounds 10 (.bool short)) t (0, 0)) ∧
    w'.ownsRow base 3 1 (.slice Aq (pl.length + 1) cq) (pl.length + 1) ((pl ++ [at_]).map intV) ∧ But (fun b => b = m ∨ (Value.slice Ap pl.length cp).ownBlock = some b) w w'
set_option maxRecDepth 20000 in
set_option maxHeartbeats 4000000 in
theorem mnext_ok (m : Nat) (cs : Array Value) (t : TypeId) (i : InfoV) (h : HeadV) (at_ : Int) (np cp : Nat) (Ap : Option Addr) (short : Bool) (w : World) (hbi : 8 ≤ i.bi ∧ i.bi ≤ 24)
    (hm : w.heap[m]? = some (.cells cs t (0, 0))) (h1 : cs[1]? = some (.int .i64 i.k)) (h2 : cs[2]? = some (.int .i64 i.ch)) (h3 : cs[3]? = some (.int .i64 i.bi)) (h4 : cs[4]? = some (.int .i64 i.ra)) (h5 : cs[5]? = some (.int .i64 i.bl)) (h6 : cs[6]? = some (.int .i64 i.sh))
    (h8 : cs[8]? = some (.slice Ap np cp)) (h10 : cs[10]? = some (.bool short)) (cnt : Int) (h9 : cs[9]? = some (.int .i64 cnt)) (base : Nat) (pl : List Int) (hpl : np = pl.length) (hown : w.ownsRow base 3 1 (.slice Ap np cp) np (pl.map intV)) (hbase : base ≤ w.heap.size) (ht : 3 ≠ t) (hp : pl.length ≤ 100000) (hcnt : 0 ≤ cnt ∧ cnt ≤ 1000000000000000) (hhl : 0 ≤ h.len ∧ h.len ≤ 1000000) (hE : nextE i h np short = 0) :
    Calls Tryd.prog 43 #[.pointer (some ⟨m, 0, none⟩), h.v, .int .i64 at_] w (MNext base m cs t pl Ap cp at_ (cnt + h.len) (decide (h.len < i.bl)) w) := by
  have hN := hid (fun W => fnext_any i h np short W hbi)
  obtain ⟨E, hEE⟩ : ∃ E, E = nextE i h np short := ⟨_, rfl⟩
  rw [← hEE] at hN hE
  have HE := hid hE
  clear hEE hE
  obtain ⟨ik, ich, ibi, ira, ibl, ish⟩ := i
  obtain ⟨hk, hidx, hlen, hstp, hbnd, hlst, hlnk, hsiz⟩ := h
  unfold InfoV.v HeadV.v at hN
  unfold HeadV.v
  simp only at h1 h2 h3 h4 h5 h6 hN hbi ⊢
  have hmlt := (Array.getElem?_eq_some_iff.1 hm).1
  have hb0 : Below w.heap.size w (w.alloc (.cells #[.int .i64 hk, .int .i64 hidx, .int .i64 hlen, .int .i64 hstp, .int .i64 hbnd, .bool hlst, .int .u32 hlnk, .int .i64 hsiz] 52)) := (Below.refl _ w).alloc (Nat.le_refl _) _
  have hrow := heap_alloc_new w (.cells #[.int .i64 hk, .int .i64 hidx, .int .i64 hlen, .int .i64 hstp, .int .i64 hbnd, .bool hlst, .int .u32 hlnk, .int .i64 hsiz] 52)
  have hm0 := (hb0.block m hmlt).trans hm
  simp only at hhl
  go_enter Tryd.func43, Tryd.ntmps43
  go_wp2_with fail
  generalize hw0 : w.alloc (.cells #[.int .i64 hk, .int .i64 hidx, .int .i64 hlen, .int .i64 hstp, .int .i64 hbnd, .bool hlst, .int .u32 hlnk, .int .i64 hsiz] 52) = w0 at *
  clear hw0
  have c1 : w0.cell? ⟨m, 1, none⟩ = some (.int .i64 ik) := by rw [cell_of_row _ _ _ _ _ _ hm0]; exact h1
  have c2 : w0.cell? ⟨m, 2, none⟩ = some (.int .i64 ich) := by rw [cell_of_row _ _ _ _ _ _ hm0]; exact h2
  have c3 : w0.cell? ⟨m, 3, none⟩ = some (.int .i64 ibi) := by rw [cell_of_row _ _ _ _ _ _ hm0]; exact h3
  have c4 : w0.cell? ⟨m, 4, none⟩ = some (.int .i64 ira) := by rw [cell_of_row _ _ _ _ _ _ hm0]; exact h4
  have c5 : w0.cell? ⟨m, 5, none⟩ = some (.int .i64 ibl) := by rw [cell_of_row _ _ _ _ _ _ hm0]; exact h5
  have c6 : w0.cell? ⟨m, 6, none⟩ = some (.int .i64 ish) := by rw [cell_of_row _ _ _ _ _ _ hm0]; exact h6
  have c8 : w0.cell? ⟨m, 8, none⟩ = some (.slice Ap np cp) := by rw [cell_of_row _ _ _ _ _ _ hm0]; exact h8
  have c10 : w0.cell? ⟨m, 10, none⟩ = some (.bool short) := by rw [cell_of_row _ _ _ _ _ _ hm0]; exact h10
  have e0 : w0.cell? ⟨w.heap.size, 0, none⟩ = some (.int .i64 hk) := by rw [cell_of_row _ _ _ _ _ _ hrow]; rfl
  have e1 : w0.cell? ⟨w.heap.size, 1, none⟩ = some (.int .i64 hidx) := by rw [cell_of_row _ _ _ _ _ _ hrow]; rfl
  have e2 : w0.cell? ⟨w.heap.size, 2, none⟩ = some (.int .i64 hlen) := by rw [cell_of_row _ _ _ _ _ _ hrow]; rfl
  have e3 : w0.cell? ⟨w.heap.size, 3, none⟩ = some (.int .i64 hstp) := by rw [cell_of_row _ _ _ _ _ _ hrow]; rfl
  have e4 : w0.cell? ⟨w.heap.size, 4, none⟩ = some (.int .i64 hbnd) := by rw [cell_of_row _ _ _ _ _ _ hrow]; rfl
  have e5 : w0.cell? ⟨w.heap.size, 5, none⟩ = some (.bool hlst) := by rw [cell_of_row _ _ _ _ _ _ hrow]; rfl
  have e6 : w0.cell? ⟨w.heap.size, 6, none⟩ = some (.int .u32 hlnk) := by rw [cell_of_row _ _ _ _ _ _ hrow]; rfl
  have e7 : w0.cell? ⟨w.heap.size, 7, none⟩ = some (.int .i64 hsiz) := by rw [cell_of_row _ _ _ _ _ _ hrow]; rfl
  have H5 := hid h5
  have H8 := hid h8
  have H9 := hid h9
  have H10 := hid h10
  have HPL := hid hpl
  have HOW := hid hown
  clear hm h1 h2 h3 h4 h5 h6 h8 h9 h10 hpl hown
  go_region_held3 (fun w' => w'.cell? ⟨m, 1, none⟩ = some (.int .i64 ik) ∧ w'.cell? ⟨m, 2, none⟩ = some (.int .i64 ich) ∧ w'.cell? ⟨m, 3, none⟩ = some (.int .i64 ibi) ∧ w'.cell? ⟨m, 4, none⟩ = some (.int .i64 ira) ∧ w'.cell? ⟨m, 5, none⟩ = some (.int .i64 ibl) ∧ w'.cell? ⟨m, 6, none⟩ = some (.int .i64 ish) ∧ w'.cell? ⟨m, 8, none⟩ = some (.slice Ap np cp) ∧ w'.cell? ⟨m, 10, none⟩ = some (.bool short) ∧ w'.cell? ⟨w.heap.size, 0, none⟩ = some (.int .i64 hk) ∧ w'.cell? ⟨w.heap.size, 1, none⟩ = some (.int .i64 hidx) ∧ w'.cell? ⟨w.heap.size, 2, none⟩ = some (.int .i64 hlen) ∧ w'.cell? ⟨w.heap.size, 3, none⟩ = some (.int .i64 hstp) ∧ w'.cell? ⟨w.heap.size, 4, none⟩ = some (.int .i64 hbnd) ∧ w'.cell? ⟨w.heap.size, 5, none⟩ = some (.bool hlst) ∧ w'.cell? ⟨w.heap.size, 6, none⟩ = some (.int .u32 hlnk) ∧ w'.cell? ⟨w.heap.size, 7, none⟩ = some (.int .i64 hsiz))
    (first | exact ⟨c1, c2, c3, c4, c5, c6, c8, c10, e0, e1, e2, e3, e4, e5, e6, e7⟩ | exact ⟨f1, f2, f3, f4, f5, f6, f8, f10, k0, k1, k2, k3, k4, k5, k6, k7⟩ | go_keep)
    (first | (go_at_call 72; refine (hN.out _).mono ?_; rintro e w1 ⟨rfl, hb1⟩; have f1 := keep1 hb1 c1; have f2 := keep1 hb1 c2; have f3 := keep1 hb1 c3; have f4 := keep1 hb1 c4; have f5 := keep1 hb1 c5; have f6 := keep1 hb1 c6; have f8 := keep1 hb1 c8; have f10 := keep1 hb1 c10; have k0 := keep1 hb1 e0; have k1 := keep1 hb1 e1; have k2 := keep1 hb1 e2; have k3 := keep1 hb1 e3; have k4 := keep1 hb1 e4; have k5 := keep1 hb1 e5; have k6 := keep1 hb1 e6; have k7 := keep1 hb1 e7))
  have hb1' := undrewF hb1
  have hm1 := (hb1'.block m (Array.getElem?_eq_some_iff.1 hm0).1).trans hm0
  have hg1 := (hb1'.block w.heap.size (Array.getElem?_eq_some_iff.1 hrow).1).trans hrow
  have hbw := hb0.trans (hb1'.mono hb0.size)
  clear c1 f1 c2 f2 c3 f3 c4 f4 c5 f5 c6 f6 c10 f10 c8 e0 k0 e1 k1 e2 k2 e3 k3 e4 k4 e5 k5 e6 k6 e7 k7 hb1 hb1' hm0 hrow hb0
  obtain rfl : E = 0 := HE.out
  have hown1 : w1.ownsRow base 3 1 (.slice Ap np cp) np (pl.map intV) := own_but HOW.out (But.of_below (R := fun _ => False) hbw) (fun _ _ h => h)
  have hlm1 := (Array.getElem?_eq_some_iff.1 hm1).1
  have hlg1 := (Array.getElem?_eq_some_iff.1 hg1).1
  have c8 : w1.cell? ⟨m, 8, none⟩ = some (.slice Ap np cp) := by rw [cell_of_row _ _ _ _ _ _ hm1]; exact H8.out
  have hba : Below w1.heap.size w1 (w1.alloc (.cells #[.int .i64 at_] 3)) := (Below.refl _ w1).alloc (Nat.le_refl _) _
  have HMM := hid (show pl.map intV ++ [intV at_] = (pl ++ [at_]).map intV by simp)
  have hmA := (hba.block m hlm1).trans hm1
  have hgA := (hba.block w.heap.size hlg1).trans hg1
  have hnp := HPL.out
  have hnp2 : np ≤ 100000 := by omega
  clear hnp
  have hmg : m ≠ w.heap.size := by omega
  have hownA := hown1.alloc (.cells #[.int .i64 at_] 3)
  have HNM := hid (own_other hownA hmA ht)
  have HNG := hid (own_other hownA hgA (show 3 ≠ 52 by decide))
  have hbaseA : base ≤ (w1.alloc (.cells #[.int .i64 at_] 3)).heap.size := Nat.le_trans hbase (Nat.le_trans hbw.size hba.size)
  have hwba := hbw.trans (hba.mono hbw.size)
  clear hown1
  go_wp2_with (at_builtin; refine wpList_app rfl (.tmp 30) (.tmp 32) _ rfl elI rfl hownA (some ⟨w1.heap.size, 0, none⟩) 1 1 rfl [intV at_] (Sees.of_alloc _ _ _ rfl) (by simp) (by simp [intV, Value.oneCell']) (np + 1) rfl _ HMM.out (by unfold maxLen; omega) (by omega) hbaseA ?_; intro A3 c3 w3 hown3 hgr hat hbel; have hm3 := (hgr.block m (Nat.lt_of_lt_of_le hlm1 hba.size) (fun hh => HNM.out hh.symm)).trans hmA; have hg3 := (hgr.block w.heap.size (Nat.lt_of_lt_of_le hlg1 hba.size) (fun hh => HNG.out hh.symm)).trans hgA; have c8b : w3.cell? ⟨m, 8, none⟩ = some (.slice Ap np cp) := (by rw [cell_of_row _ _ _ _ _ _ hm3]; exact H8.out); have f8b : w3.frozen? ⟨m, 8, none⟩ = false := frozen_of_row _ _ _ _ _ hm3)
  have hmk : m < w3.heap.size := (Array.getElem?_eq_some_iff.1 hm3).1
  have hR := hid (show But (fun b => b = m ∨ (Value.slice Ap np cp).ownBlock = some b) w w3 from (But.of_below hwba).trans (But.of_grown hgr hbel) (fun n h => .inl (.inr h)))
  have hm4 := heap_setCell_same w3 m 8 cs t (.slice A3 (np + 1) c3) hm3
  have hg4 := (heap_setCell_other w3 ⟨m, 8, none⟩ w.heap.size (.slice A3 (np + 1) c3) (Ne.symm hmg)).trans hg3
  have hB4 : But (Only m) w3 (w3.setCell ⟨m, 8, none⟩ (.slice A3 (np + 1) c3)) := ⟨rfl, rfl, rfl, by simp [World.setCell], fun b _ hb => heap_setCell_other w3 _ b _ (fun h => hb h)⟩
  have hown4 := own_but hown3 hB4 (fun k hk hh => own_other hown3 hm3 ht (by have h2 : k = m := hh; rw [← h2]; exact hk))
  have hR4 := hid (hR.out.trans hB4 (fun n h => .inl (.inl h)))
  clear hm3 hg3 hB4 hown3 hR c8b f8b hgr hat hbel hmA hgA hownA hm1 hg1 c8 hba hbaseA hwba hbw HNM HNG HMM
  generalize w3.setCell ⟨m, 8, none⟩ (.slice A3 (np + 1) c3) = w4 at *
  obtain ⟨cs4, hcs4⟩ : ∃ cs4, cs4 = cs.setIfInBounds 8 (.slice A3 (np + 1) c3) := ⟨_, rfl⟩
  rw [← hcs4] at hm4
  have hw9 : wrap64 (cnt + hlen) = cnt + hlen := by unfold wrap64; omega
  have d9 : w4.cell? ⟨m, 9, none⟩ = some (.int .i64 cnt) := by rw [cell_of_row _ _ _ _ _ _ hm4, hcs4, Array.getElem?_setIfInBounds_ne (by decide)]; exact H9.out
  have f9 : w4.frozen? ⟨m, 9, none⟩ = false := frozen_of_row _ _ _ _ _ hm4
  have d2 : w4.cell? ⟨w.heap.size, 2, none⟩ = some (.int .i64 hlen) := by rw [cell_of_row _ _ _ _ _ _ hg4]; rfl
  have HCS := hid hcs4
  clear hcs4
  go_region
  have hm5 : (w4.setCell ⟨m, 9, none⟩ (.int .i64 (cnt + hlen))).drew.heap[m]? = _ := heap_setCell_same w4 m 9 cs4 t (.int .i64 (cnt + hlen)) hm4
  have hg5 : (w4.setCell ⟨m, 9, none⟩ (.int .i64 (cnt + hlen))).drew.heap[w.heap.size]? = _ := (heap_setCell_other w4 ⟨m, 9, none⟩ w.heap.size (.int .i64 (cnt + hlen)) (Ne.symm hmg)).trans hg4
  have hB5 : But (Only m) w4 (w4.setCell ⟨m, 9, none⟩ (.int .i64 (cnt + hlen))).drew := ⟨rfl, rfl, rfl, by simp [World.setCell], fun b _ hb => heap_setCell_other w4 _ b _ (fun h => hb h)⟩
  have hown5 := own_but hown4 hB5 (fun k hk hh => own_other hown4 hm4 ht (by have h2 : k = m := hh; rw [← h2]; exact hk))
  have hR5 := hid (hR4.out.trans hB5 (fun n h => .inl (.inl h)))
  clear hB5 hown4 hm4 hg4 hR4 d9 f9 d2 hw9
  generalize (w4.setCell ⟨m, 9, none⟩ (.int .i64 (cnt + hlen))).drew = w5 at *
  obtain ⟨cs5, hcs5⟩ : ∃ cs5, cs5 = cs4.setIfInBounds 9 (.int .i64 (cnt + hlen)) := ⟨_, rfl⟩
  rw [← hcs5] at hm5
  have d5 : w5.cell? ⟨m, 5, none⟩ = some (.int .i64 ibl) := by rw [cell_of_row _ _ _ _ _ _ hm5, hcs5, Array.getElem?_setIfInBounds_ne (by decide), HCS.out, Array.getElem?_setIfInBounds_ne (by decide)]; exact H5.out
  have f10 : w5.frozen? ⟨m, 10, none⟩ = false := frozen_of_row _ _ _ _ _ hm5
  have d10 : w5.cell? ⟨m, 10, none⟩ = some (.bool short) := by rw [cell_of_row _ _ _ _ _ _ hm5, hcs5, Array.getElem?_setIfInBounds_ne (by decide), HCS.out, Array.getElem?_setIfInBounds_ne (by decide)]; exact H10.out
  have d2 : w5.cell? ⟨w.heap.size, 2, none⟩ = some (.int .i64 hlen) := by rw [cell_of_row _ _ _ _ _ _ hg5]; rfl
  have HCS5 := hid hcs5
  clear hcs5
  go_wp2_with fail
  go_region
  have hm6 : (w5.setCell ⟨m, 10, none⟩ (.bool (decide (hlen < ibl)))).drew.heap[m]? = _ := heap_setCell_same w5 m 10 cs5 t (.bool (decide (hlen < ibl))) hm5
  have hB6 : But (Only m) w5 (w5.setCell ⟨m, 10, none⟩ (.bool (decide (hlen < ibl)))).drew := ⟨rfl, rfl, rfl, by simp [World.setCell], fun b _ hb => heap_setCell_other w5 _ b _ (fun h => hb h)⟩
  have hown6 := own_but hown5 hB6 (fun k hk hh => own_other hown5 hm5 ht (by have h2 : k = m := hh; rw [← h2]; exact hk))
  have hR6 := hR5.out.trans hB6 (fun n h => .inl (.inl h))
  have hfin : MNext base m cs t pl Ap cp at_ (cnt + hlen) (decide (hlen < ibl)) w (.returned (.int .i64 0)) (w5.setCell ⟨m, 10, none⟩ (.bool (decide (hlen < ibl)))).drew := by
    have e := HPL.out
    subst e
    refine ⟨rfl, A3, c3, ?_, hown6, hR6⟩
    rw [hm6, HCS5.out, HCS.out]
  clear hm6 hB6 hown6 hR6 hown5 hR5 hm5 hg5 d5 f10 d10 d2
  go_wp2_with fail
  go_ret
  exact hfin
end Go.Proofs.YtkmhmehofipehaaDoor
