/- A head read: the reference's At and Get. -/
import Derived.Test.YtkmhmehofipehaaDoorFileBuildsM9
import Derived.Test.YtkmhmehofipehaaDoorFileBuildsM12
import Derived.Deep.DeepCutAuto
namespace Go.Proofs.YtkmhmehofipehaaDoor
set_option linter.unusedVariables false
open Go.RowKit
set_option maxHeartbeats 2000000 in
theorem hrat_any (a : Addr) (c : Nat) (l : List UInt8) (k : Nat) (w : World) (hl : SeesB w (some a) l) (hk : k + 4 ≤ l.length) (hc : l.length ≤ c) (hcm : c ≤ maxLen) :
    Calls Tryd.prog 55 #[.slice (some a) l.length c, .int .i64 k] w fun e w' => e = .returned (.int .i64 (fldH l k 4 : Nat)) ∧ w = w' := by
  have hcut : SeesB w (some (a.add k)) ((l.drop k).take 4) := hl.cutTo k 4
  have h4 : ((l.drop k).take 4).length = 4 := by simp; omega
  have hv := rvalue_any (some (a.add k)) (c - k) ((l.drop k).take 4) w hcut (by omega)
  rw [h4, show valLE ((l.drop k).take 4) = fldH l k 4 from rfl] at hv
  have v : fldH l k 4 < 4294967296 := fldH_lt l k 4
  generalize fldH l k 4 = y at *
  have HV := hid hv
  have g1 : (k : Int) + 4 ≤ c := by omega
  have g2 : ¬ c = k := by omega
  have g3 : (k : Int) + 4 ≤ l.length := by omega
  have g4 : (l.length : Int) ≤ c := by omega
  have g5 : (k : Int) ≤ (k : Int) + 4 := by omega
  have hcm' : (c : Int) ≤ 9223372036854775807 := by unfold maxLen at hcm; omega
  clear hcut h4 hv
  go_enter Tryd.func55, Tryd.ntmps55
  go_wp2_with fail
  simp only [show k + 4 - k = 4 by omega]
  refine HV.out.mono ?_
  rintro e w1 ⟨rfl, rfl⟩
  go_wp2_with fail
  go_ret
  exact ⟨rfl, rfl⟩
set_option maxHeartbeats 2000000 in
theorem hrget_sync0 (A : Option Addr) (c : Nat) (l : List UInt8) (w : World) (hl : SeesB w A l) (h0 : 0 < l.length) (hx : ((l[0].toNat : Int) != 222) = true) :
    Calls Tryd.prog 54 #[.slice A l.length c] w (GetHPost w (30, HeadV.zero)) := by
  have hb : Below w.heap.size w (w.alloc (.cells #[.int .i64 0, .int .i64 0, .int .i64 0, .int .i64 0, .int .i64 0, .bool false, .int .u32 0, .int .i64 0] 52)) := (Below.refl _ w).alloc (Nat.le_refl _) _
  have hrow := heap_alloc_new w (.cells #[.int .i64 0, .int .i64 0, .int .i64 0, .int .i64 0, .int .i64 0, .bool false, .int .u32 0, .int .i64 0] 52)
  obtain ⟨a, rfl, _⟩ := hl.at (show 0 < l.length by omega)
  obtain ⟨a0, ha0, b0⟩ := (hl.below hb).at (show 0 < l.length by omega)
  injection ha0 with ha0
  subst ha0
  have q0 : (w.alloc (.cells #[.int .i64 0, .int .i64 0, .int .i64 0, .int .i64 0, .int .i64 0, .bool false, .int .u32 0, .int .i64 0] 52)).cell? a = some (.int .u8 (l[0].toNat : Int)) := b0
  clear b0
  have d0 : decide (0 < (l.length : Int)) = true := by simp; omega
  have d0' : (0 : Int) < (l.length : Int) := by omega
  go_enter Tryd.func54, Tryd.ntmps54
  go_wp2_with first | (refine wpList_store_row rfl 52 (.tmp 2) (.tmp 25) rfl rfl w.heap.size rfl #[.int .i64 0, .int .i64 0, .int .i64 0, .int .i64 0, .int .i64 0, .bool false, .int .u32 0, .int .i64 0] rfl 52 #[.int .i64 0, .int .i64 0, .int .i64 0, .int .i64 0, .int .i64 0, .bool false, .int .u32 0, .int .i64 0] hrow (by kernel_rfl) rfl (by simp [Value.oneCell']) ?_)
  exact bodyPost_ret (v := .tuple #[.agg #[.int .i64 0, .int .i64 0, .int .i64 0, .int .i64 0, .int .i64 0, .bool false, .int .u32 0, .int .i64 0], .int .i64 30]) (results_row_tmp (fn := Tryd.f54) (p := 2) (u := 3) (ty := 52) rfl _ _ w.heap.size _ _ _ _ rfl (setRow_heap _ _ _ _ _ _ hrow) Tryd.underlying52 rfl (by kernel_rfl)) rfl ⟨rfl, below_setRow hb (Nat.le_refl _) _⟩
set_option maxHeartbeats 2000000 in
theorem hrget_sync1 (A : Option Addr) (c : Nat) (l : List UInt8) (w : World) (hl : SeesB w A l) (h0 : 1 < l.length) (hx : ((l[0].toNat : Int) != 222) = false) (hy : ((l[1].toNat : Int) != 92) = true) :
    Calls Tryd.prog 54 #[.slice A l.length c] w (GetHPost w (30, HeadV.zero)) := by
  have hb : Below w.heap.size w (w.alloc (.cells #[.int .i64 0, .int .i64 0, .int .i64 0, .int .i64 0, .int .i64 0, .bool false, .int .u32 0, .int .i64 0] 52)) := (Below.refl _ w).alloc (Nat.le_refl _) _
  have hrow := heap_alloc_new w (.cells #[.int .i64 0, .int .i64 0, .int .i64 0, .int .i64 0, .int .i64 0, .bool false, .int .u32 0, .int .i64 0] 52)
  obtain ⟨a, rfl, _⟩ := hl.at (show 0 < l.length by omega)
  obtain ⟨a0, ha0, b0⟩ := (hl.below hb).at (show 0 < l.length by omega)
  injection ha0 with ha0
  subst ha0
  have q0 : (w.alloc (.cells #[.int .i64 0, .int .i64 0, .int .i64 0, .int .i64 0, .int .i64 0, .bool false, .int .u32 0, .int .i64 0] 52)).cell? a = some (.int .u8 (l[0].toNat : Int)) := b0
  clear b0
  obtain ⟨a1, ha1, b1⟩ := (hl.below hb).at (show 1 < l.length by omega)
  injection ha1 with ha1
  subst ha1
  have q1 : (w.alloc (.cells #[.int .i64 0, .int .i64 0, .int .i64 0, .int .i64 0, .int .i64 0, .bool false, .int .u32 0, .int .i64 0] 52)).cell? { block := a.block, off := a.off + 1 } = some (.int .u8 (l[1].toNat : Int)) := b1
  clear b1
  have d0 : decide (0 < (l.length : Int)) = true := by simp; omega
  have d0' : (0 : Int) < (l.length : Int) := by omega
  have d1 : decide (1 < (l.length : Int)) = true := by simp; omega
  have d1' : (1 : Int) < (l.length : Int) := by omega
  go_enter Tryd.func54, Tryd.ntmps54
  go_wp2_with first | (refine wpList_store_row rfl 52 (.tmp 2) (.tmp 25) rfl rfl w.heap.size rfl #[.int .i64 0, .int .i64 0, .int .i64 0, .int .i64 0, .int .i64 0, .bool false, .int .u32 0, .int .i64 0] rfl 52 #[.int .i64 0, .int .i64 0, .int .i64 0, .int .i64 0, .int .i64 0, .bool false, .int .u32 0, .int .i64 0] hrow (by kernel_rfl) rfl (by simp [Value.oneCell']) ?_)
  exact bodyPost_ret (v := .tuple #[.agg #[.int .i64 0, .int .i64 0, .int .i64 0, .int .i64 0, .int .i64 0, .bool false, .int .u32 0, .int .i64 0], .int .i64 30]) (results_row_tmp (fn := Tryd.f54) (p := 2) (u := 3) (ty := 52) rfl _ _ w.heap.size _ _ _ _ rfl (setRow_heap _ _ _ _ _ _ hrow) Tryd.underlying52 rfl (by kernel_rfl)) rfl ⟨rfl, below_setRow hb (Nat.le_refl _) _⟩
set_option maxHeartbeats 2000000 in
theorem hrget_end0 (A : Option Addr) (c : Nat) (l : List UInt8) (w : World) (hl : SeesB w A l) (h0 : l.length = 0) :
    Calls Tryd.prog 54 #[.slice A l.length c] w (GetHPost w (10, HeadV.zero)) := by
  have hb : Below w.heap.size w (w.alloc (.cells #[.int .i64 0, .int .i64 0, .int .i64 0, .int .i64 0, .int .i64 0, .bool false, .int .u32 0, .int .i64 0] 52)) := (Below.refl _ w).alloc (Nat.le_refl _) _
  have hrow := heap_alloc_new w (.cells #[.int .i64 0, .int .i64 0, .int .i64 0, .int .i64 0, .int .i64 0, .bool false, .int .u32 0, .int .i64 0] 52)
  obtain rfl : l = [] := List.length_eq_zero_iff.1 h0
  clear h0 hl
  rw [List.length_nil]
  go_enter Tryd.func54, Tryd.ntmps54
  go_wp2_with first | (refine wpList_store_row rfl 52 (.tmp 2) (.tmp 29) rfl rfl w.heap.size rfl #[.int .i64 0, .int .i64 0, .int .i64 0, .int .i64 0, .int .i64 0, .bool false, .int .u32 0, .int .i64 0] rfl 52 #[.int .i64 0, .int .i64 0, .int .i64 0, .int .i64 0, .int .i64 0, .bool false, .int .u32 0, .int .i64 0] hrow (by kernel_rfl) rfl (by simp [Value.oneCell']) ?_)
  exact bodyPost_ret (v := .tuple #[.agg #[.int .i64 0, .int .i64 0, .int .i64 0, .int .i64 0, .int .i64 0, .bool false, .int .u32 0, .int .i64 0], .int .i64 10]) (results_row_tmp (fn := Tryd.f54) (p := 2) (u := 3) (ty := 52) rfl _ _ w.heap.size _ _ _ _ rfl (setRow_heap _ _ _ _ _ _ hrow) Tryd.underlying52 rfl (by kernel_rfl)) rfl ⟨rfl, below_setRow hb (Nat.le_refl _) _⟩
set_option maxHeartbeats 2000000 in
theorem hrget_end1 (A : Option Addr) (c : Nat) (l : List UInt8) (w : World) (hl : SeesB w A l) (h0 : 0 < l.length) (h1 : ¬ 1 < l.length) (hx : ((l[0].toNat : Int) != 222) = false) :
    Calls Tryd.prog 54 #[.slice A l.length c] w (GetHPost w (10, HeadV.zero)) := by
  have hb : Below w.heap.size w (w.alloc (.cells #[.int .i64 0, .int .i64 0, .int .i64 0, .int .i64 0, .int .i64 0, .bool false, .int .u32 0, .int .i64 0] 52)) := (Below.refl _ w).alloc (Nat.le_refl _) _
  have hrow := heap_alloc_new w (.cells #[.int .i64 0, .int .i64 0, .int .i64 0, .int .i64 0, .int .i64 0, .bool false, .int .u32 0, .int .i64 0] 52)
  obtain ⟨a, rfl, _⟩ := hl.at (show 0 < l.length by omega)
  obtain ⟨a0, ha0, b0⟩ := (hl.below hb).at (show 0 < l.length by omega)
  injection ha0 with ha0
  subst ha0
  have q0 : (w.alloc (.cells #[.int .i64 0, .int .i64 0, .int .i64 0, .int .i64 0, .int .i64 0, .bool false, .int .u32 0, .int .i64 0] 52)).cell? a = some (.int .u8 (l[0].toNat : Int)) := b0
  clear b0
  have d0 : decide (0 < (l.length : Int)) = true := by simp; omega
  have d0' : (0 : Int) < (l.length : Int) := by omega
  have d1 : decide (1 < (l.length : Int)) = false := by simp; omega
  have d2 : decide ((l.length : Int) < 32) = true := by simp; omega
  go_enter Tryd.func54, Tryd.ntmps54
  go_wp2_with first | (refine wpList_store_row rfl 52 (.tmp 2) (.tmp 29) rfl rfl w.heap.size rfl #[.int .i64 0, .int .i64 0, .int .i64 0, .int .i64 0, .int .i64 0, .bool false, .int .u32 0, .int .i64 0] rfl 52 #[.int .i64 0, .int .i64 0, .int .i64 0, .int .i64 0, .int .i64 0, .bool false, .int .u32 0, .int .i64 0] hrow (by kernel_rfl) rfl (by simp [Value.oneCell']) ?_)
  exact bodyPost_ret (v := .tuple #[.agg #[.int .i64 0, .int .i64 0, .int .i64 0, .int .i64 0, .int .i64 0, .bool false, .int .u32 0, .int .i64 0], .int .i64 10]) (results_row_tmp (fn := Tryd.f54) (p := 2) (u := 3) (ty := 52) rfl _ _ w.heap.size _ _ _ _ rfl (setRow_heap _ _ _ _ _ _ hrow) Tryd.underlying52 rfl (by kernel_rfl)) rfl ⟨rfl, below_setRow hb (Nat.le_refl _) _⟩
set_option maxHeartbeats 2000000 in
theorem hrget_end2 (A : Option Addr) (c : Nat) (l : List UInt8) (w : World) (hl : SeesB w A l) (h1 : 1 < l.length) (hx : ((l[0].toNat : Int) != 222) = false) (hy : ((l[1].toNat : Int) != 92) = false) (hn : l.length < 32) :
    Calls Tryd.prog 54 #[.slice A l.length c] w (GetHPost w (10, HeadV.zero)) := by
  have hb : Below w.heap.size w (w.alloc (.cells #[.int .i64 0, .int .i64 0, .int .i64 0, .int .i64 0, .int .i64 0, .bool false, .int .u32 0, .int .i64 0] 52)) := (Below.refl _ w).alloc (Nat.le_refl _) _
  have hrow := heap_alloc_new w (.cells #[.int .i64 0, .int .i64 0, .int .i64 0, .int .i64 0, .int .i64 0, .bool false, .int .u32 0, .int .i64 0] 52)
  obtain ⟨a, rfl, _⟩ := hl.at (show 0 < l.length by omega)
  obtain ⟨a0, ha0, b0⟩ := (hl.below hb).at (show 0 < l.length by omega)
  injection ha0 with ha0
  subst ha0
  have q0 : (w.alloc (.cells #[.int .i64 0, .int .i64 0, .int .i64 0, .int .i64 0, .int .i64 0, .bool false, .int .u32 0, .int .i64 0] 52)).cell? a = some (.int .u8 (l[0].toNat : Int)) := b0
  clear b0
  obtain ⟨a1, ha1, b1⟩ := (hl.below hb).at (show 1 < l.length by omega)
  injection ha1 with ha1
  subst ha1
  have q1 : (w.alloc (.cells #[.int .i64 0, .int .i64 0, .int .i64 0, .int .i64 0, .int .i64 0, .bool false, .int .u32 0, .int .i64 0] 52)).cell? { block := a.block, off := a.off + 1 } = some (.int .u8 (l[1].toNat : Int)) := b1
  clear b1
  have d0 : decide (0 < (l.length : Int)) = true := by simp; omega
  have d0' : (0 : Int) < (l.length : Int) := by omega
  have d1 : decide (1 < (l.length : Int)) = true := by simp; omega
  have d1' : (1 : Int) < (l.length : Int) := by omega
  have d2 : decide ((l.length : Int) < 32) = true := by simp; omega
  go_enter Tryd.func54, Tryd.ntmps54
  go_wp2_with first | (refine wpList_store_row rfl 52 (.tmp 2) (.tmp 29) rfl rfl w.heap.size rfl #[.int .i64 0, .int .i64 0, .int .i64 0, .int .i64 0, .int .i64 0, .bool false, .int .u32 0, .int .i64 0] rfl 52 #[.int .i64 0, .int .i64 0, .int .i64 0, .int .i64 0, .int .i64 0, .bool false, .int .u32 0, .int .i64 0] hrow (by kernel_rfl) rfl (by simp [Value.oneCell']) ?_)
  exact bodyPost_ret (v := .tuple #[.agg #[.int .i64 0, .int .i64 0, .int .i64 0, .int .i64 0, .int .i64 0, .bool false, .int .u32 0, .int .i64 0], .int .i64 10]) (results_row_tmp (fn := Tryd.f54) (p := 2) (u := 3) (ty := 52) rfl _ _ w.heap.size _ _ _ _ rfl (setRow_heap _ _ _ _ _ _ hrow) Tryd.underlying52 rfl (by kernel_rfl)) rfl ⟨rfl, below_setRow hb (Nat.le_refl _) _⟩
end Go.Proofs.YtkmhmehofipehaaDoor
