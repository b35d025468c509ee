/- A tail read: the reference's Get. -/
import Derived.Test.YtkmhmehofipehaaGreatDoorPz13
import Derived.Test.YtkmhmehofipehaaGreatDoorPz7
import Derived.Test.YtkmhmehofipehaaGreatDoorPz5
import Derived.Test.YtkmhmehofipehaaGreatDoorPz4
import Derived.Test.YtkmhmehofipehaaGreatDoorPz6
import Derived.Test.YtkmhmehofipehaaGreatDoorPz3
import Derived.Test.YtkmhmehofipehaaGreatDoorPz23
import Derived.Deep.DeepCutAuto
namespace Go.Proofs.YtkmhmehofipehaaGreatDoor
set_option linter.unusedVariables false
open Go.RowKit
theorem Sees.setRowFar2 {w : World} {A : Option Addr} {xs : List Value} (h : Sees w A xs) (q : Nat) (new : Array Value) (hne : ∀ a, A = some a → a.block ≠ q) : Sees (w.setRow q new) A xs := by
  intro i v hv
  obtain ⟨a, ha, hc⟩ := h i v hv
  refine ⟨a, ha, (World.cell?_of_block (w := w) ?_).trans hc⟩
  exact setRow_other w q _ new (by rw [addr_block]; exact hne a ha)
theorem rval_at (a : Addr) (c : Nat) (l : List UInt8) (p n : Nat) (w : World) (hl : SeesB w (some a) l) (hk : p + n ≤ l.length) (hn : n ≤ 8) (hc : l.length ≤ c) :
    Calls Tryz.prog 36 #[.slice (some (a.add p)) n (c - p)] w fun e w' => e = .returned (.int .u64 (fldT l p n : Nat)) ∧ w = w' := by
  have hcut : SeesB w (some (a.add p)) ((l.drop p).take n) := hl.cutTo p n
  have h4 : ((l.drop p).take n).length = n := by simp; omega
  have hv := rvalue_any (some (a.add p)) (c - p) ((l.drop p).take n) w hcut (by omega)
  rw [h4] at hv
  exact hv
set_option maxHeartbeats 2000000 in
theorem rtget_sync0 (A : Option Addr) (c : Nat) (l : List UInt8) (w : World) (hl : SeesB w A l) (h0 : 0 < l.length) (hx : ((l[0].toNat : Int) != 69) = true) :
    Calls Tryz.prog 21 #[.slice A l.length c] w (GetTPostF w (31, 0, 0, 0, [])) := by
  have hb : Below w.heap.size w (w.alloc (.cells #[.int .i64 0, .int .u32 0, .slice none 0 0] 33)) := (Below.refl _ w).alloc (Nat.le_refl _) _
  have hrow := heap_alloc_new w (.cells #[.int .i64 0, .int .u32 0, .slice none 0 0] 33)
  obtain ⟨a, rfl, _⟩ := hl.at (show 0 < l.length by omega)
  obtain ⟨a0, ha0, b0⟩ := (hl.below hb).at (show 0 < l.length by omega)
  injection ha0 with ha0
  subst ha0
  have q0 : (w.alloc (.cells #[.int .i64 0, .int .u32 0, .slice none 0 0] 33)).cell? a = some (.int .u8 (l[0].toNat : Int)) := b0
  clear b0
  have d0 : decide (0 < (l.length : Int)) = true := decide_eq_true (by omega)
  have d0' : (0 : Int) < (l.length : Int) := by omega
  go_enter Tryz.func21, Tryz.ntmps21
  go_wp2_with first | (refine wpList_store_row rfl 33 (.tmp 2) (.tmp 29) rfl rfl w.heap.size rfl #[.int .i64 0, .int .u32 0, .slice none 0 0] rfl 33 #[.int .i64 0, .int .u32 0, .slice none 0 0] hrow (by kernel_rfl) rfl (by simp [Value.oneCell']) ?_)
  exact bodyPost_ret (v := .tuple #[.agg #[.int .i64 0, .int .u32 0, .slice none 0 0], .int .i64 0, .int .i64 31]) (results_row_tmp2 (fn := Tryz.f21) (p := 2) (u := 3) (x := 4) (ty := 33) rfl _ _ w.heap.size _ _ _ _ rfl (setRow_heap _ _ _ _ _ _ hrow) Tryz.underlying33 rfl (by kernel_rfl)) rfl ⟨none, 0, rfl, Sees.nil _ _, Nat.le_refl _, Nat.zero_le _, below_setRow hb (Nat.le_refl _) _, fun a ha => by cases ha⟩
set_option maxHeartbeats 2000000 in
theorem rtget_sync1 (A : Option Addr) (c : Nat) (l : List UInt8) (w : World) (hl : SeesB w A l) (h0 : 1 < l.length) (hx : ((l[0].toNat : Int) != 69) = false) (hy : ((l[1].toNat : Int) != 78) = true) :
    Calls Tryz.prog 21 #[.slice A l.length c] w (GetTPostF w (31, 0, 0, 0, [])) := by
  have hb : Below w.heap.size w (w.alloc (.cells #[.int .i64 0, .int .u32 0, .slice none 0 0] 33)) := (Below.refl _ w).alloc (Nat.le_refl _) _
  have hrow := heap_alloc_new w (.cells #[.int .i64 0, .int .u32 0, .slice none 0 0] 33)
  obtain ⟨a, rfl, _⟩ := hl.at (show 0 < l.length by omega)
  obtain ⟨a0, ha0, b0⟩ := (hl.below hb).at (show 0 < l.length by omega)
  injection ha0 with ha0
  subst ha0
  have q0 : (w.alloc (.cells #[.int .i64 0, .int .u32 0, .slice none 0 0] 33)).cell? a = some (.int .u8 (l[0].toNat : Int)) := b0
  clear b0
  obtain ⟨a1, ha1, b1⟩ := (hl.below hb).at (show 1 < l.length by omega)
  injection ha1 with ha1
  subst ha1
  have q1 : (w.alloc (.cells #[.int .i64 0, .int .u32 0, .slice none 0 0] 33)).cell? { block := a.block, off := a.off + 1 } = some (.int .u8 (l[1].toNat : Int)) := b1
  clear b1
  have d0 : decide (0 < (l.length : Int)) = true := decide_eq_true (by omega)
  have d0' : (0 : Int) < (l.length : Int) := by omega
  have d1 : decide (1 < (l.length : Int)) = true := decide_eq_true (by omega)
  have d1' : (1 : Int) < (l.length : Int) := by omega
  go_enter Tryz.func21, Tryz.ntmps21
  go_wp2_with first | (refine wpList_store_row rfl 33 (.tmp 2) (.tmp 29) rfl rfl w.heap.size rfl #[.int .i64 0, .int .u32 0, .slice none 0 0] rfl 33 #[.int .i64 0, .int .u32 0, .slice none 0 0] hrow (by kernel_rfl) rfl (by simp [Value.oneCell']) ?_)
  exact bodyPost_ret (v := .tuple #[.agg #[.int .i64 0, .int .u32 0, .slice none 0 0], .int .i64 0, .int .i64 31]) (results_row_tmp2 (fn := Tryz.f21) (p := 2) (u := 3) (x := 4) (ty := 33) rfl _ _ w.heap.size _ _ _ _ rfl (setRow_heap _ _ _ _ _ _ hrow) Tryz.underlying33 rfl (by kernel_rfl)) rfl ⟨none, 0, rfl, Sees.nil _ _, Nat.le_refl _, Nat.zero_le _, below_setRow hb (Nat.le_refl _) _, fun a ha => by cases ha⟩
set_option maxHeartbeats 2000000 in
theorem rtget_end0 (A : Option Addr) (c : Nat) (l : List UInt8) (w : World) (hl : SeesB w A l) (h0 : l.length = 0) :
    Calls Tryz.prog 21 #[.slice A l.length c] w (GetTPostF w (10, 0, 0, 0, [])) := by
  have hb : Below w.heap.size w (w.alloc (.cells #[.int .i64 0, .int .u32 0, .slice none 0 0] 33)) := (Below.refl _ w).alloc (Nat.le_refl _) _
  have hrow := heap_alloc_new w (.cells #[.int .i64 0, .int .u32 0, .slice none 0 0] 33)
  obtain rfl : l = [] := List.length_eq_zero_iff.1 h0
  clear h0 hl
  rw [List.length_nil]
  go_enter Tryz.func21, Tryz.ntmps21
  go_wp2_with first | (refine wpList_store_row rfl 33 (.tmp 2) (.tmp 33) rfl rfl w.heap.size rfl #[.int .i64 0, .int .u32 0, .slice none 0 0] rfl 33 #[.int .i64 0, .int .u32 0, .slice none 0 0] hrow (by kernel_rfl) rfl (by simp [Value.oneCell']) ?_)
  exact bodyPost_ret (v := .tuple #[.agg #[.int .i64 0, .int .u32 0, .slice none 0 0], .int .i64 0, .int .i64 10]) (results_row_tmp2 (fn := Tryz.f21) (p := 2) (u := 3) (x := 4) (ty := 33) rfl _ _ w.heap.size _ _ _ _ rfl (setRow_heap _ _ _ _ _ _ hrow) Tryz.underlying33 rfl (by kernel_rfl)) rfl ⟨none, 0, rfl, Sees.nil _ _, Nat.le_refl _, Nat.zero_le _, below_setRow hb (Nat.le_refl _) _, fun a ha => by cases ha⟩
set_option maxHeartbeats 2000000 in
theorem rtget_end1 (A : Option Addr) (c : Nat) (l : List UInt8) (w : World) (hl : SeesB w A l) (h0 : 0 < l.length) (h1 : ¬ 1 < l.length) (hx : ((l[0].toNat : Int) != 69) = false) :
    Calls Tryz.prog 21 #[.slice A l.length c] w (GetTPostF w (10, 0, 0, 0, [])) := by
  have hb : Below w.heap.size w (w.alloc (.cells #[.int .i64 0, .int .u32 0, .slice none 0 0] 33)) := (Below.refl _ w).alloc (Nat.le_refl _) _
  have hrow := heap_alloc_new w (.cells #[.int .i64 0, .int .u32 0, .slice none 0 0] 33)
  obtain ⟨a, rfl, _⟩ := hl.at (show 0 < l.length by omega)
  obtain ⟨a0, ha0, b0⟩ := (hl.below hb).at (show 0 < l.length by omega)
  injection ha0 with ha0
  subst ha0
  have q0 : (w.alloc (.cells #[.int .i64 0, .int .u32 0, .slice none 0 0] 33)).cell? a = some (.int .u8 (l[0].toNat : Int)) := b0
  clear b0
  have d0 : decide (0 < (l.length : Int)) = true := decide_eq_true (by omega)
  have d0' : (0 : Int) < (l.length : Int) := by omega
  have d1 : decide (1 < (l.length : Int)) = false := decide_eq_false (by omega)
  have d2 : decide ((l.length : Int) < 14) = true := decide_eq_true (by omega)
  go_enter Tryz.func21, Tryz.ntmps21
  go_wp2_with first | (refine wpList_store_row rfl 33 (.tmp 2) (.tmp 33) rfl rfl w.heap.size rfl #[.int .i64 0, .int .u32 0, .slice none 0 0] rfl 33 #[.int .i64 0, .int .u32 0, .slice none 0 0] hrow (by kernel_rfl) rfl (by simp [Value.oneCell']) ?_)
  exact bodyPost_ret (v := .tuple #[.agg #[.int .i64 0, .int .u32 0, .slice none 0 0], .int .i64 0, .int .i64 10]) (results_row_tmp2 (fn := Tryz.f21) (p := 2) (u := 3) (x := 4) (ty := 33) rfl _ _ w.heap.size _ _ _ _ rfl (setRow_heap _ _ _ _ _ _ hrow) Tryz.underlying33 rfl (by kernel_rfl)) rfl ⟨none, 0, rfl, Sees.nil _ _, Nat.le_refl _, Nat.zero_le _, below_setRow hb (Nat.le_refl _) _, fun a ha => by cases ha⟩
set_option maxHeartbeats 2000000 in
theorem rtget_end2 (A : Option Addr) (c : Nat) (l : List UInt8) (w : World) (hl : SeesB w A l) (h1 : 1 < l.length) (hx : ((l[0].toNat : Int) != 69) = false) (hy : ((l[1].toNat : Int) != 78) = false) (hn : l.length < 14) :
    Calls Tryz.prog 21 #[.slice A l.length c] w (GetTPostF w (10, 0, 0, 0, [])) := by
  have hb : Below w.heap.size w (w.alloc (.cells #[.int .i64 0, .int .u32 0, .slice none 0 0] 33)) := (Below.refl _ w).alloc (Nat.le_refl _) _
  have hrow := heap_alloc_new w (.cells #[.int .i64 0, .int .u32 0, .slice none 0 0] 33)
  obtain ⟨a, rfl, _⟩ := hl.at (show 0 < l.length by omega)
  obtain ⟨a0, ha0, b0⟩ := (hl.below hb).at (show 0 < l.length by omega)
  injection ha0 with ha0
  subst ha0
  have q0 : (w.alloc (.cells #[.int .i64 0, .int .u32 0, .slice none 0 0] 33)).cell? a = some (.int .u8 (l[0].toNat : Int)) := b0
  clear b0
  obtain ⟨a1, ha1, b1⟩ := (hl.below hb).at (show 1 < l.length by omega)
  injection ha1 with ha1
  subst ha1
  have q1 : (w.alloc (.cells #[.int .i64 0, .int .u32 0, .slice none 0 0] 33)).cell? { block := a.block, off := a.off + 1 } = some (.int .u8 (l[1].toNat : Int)) := b1
  clear b1
  have d0 : decide (0 < (l.length : Int)) = true := decide_eq_true (by omega)
  have d0' : (0 : Int) < (l.length : Int) := by omega
  have d1 : decide (1 < (l.length : Int)) = true := decide_eq_true (by omega)
  have d1' : (1 : Int) < (l.length : Int) := by omega
  have d2 : decide ((l.length : Int) < 14) = true := decide_eq_true (by omega)
  go_enter Tryz.func21, Tryz.ntmps21
  go_wp2_with first | (refine wpList_store_row rfl 33 (.tmp 2) (.tmp 33) rfl rfl w.heap.size rfl #[.int .i64 0, .int .u32 0, .slice none 0 0] rfl 33 #[.int .i64 0, .int .u32 0, .slice none 0 0] hrow (by kernel_rfl) rfl (by simp [Value.oneCell']) ?_)
  exact bodyPost_ret (v := .tuple #[.agg #[.int .i64 0, .int .u32 0, .slice none 0 0], .int .i64 0, .int .i64 10]) (results_row_tmp2 (fn := Tryz.f21) (p := 2) (u := 3) (x := 4) (ty := 33) rfl _ _ w.heap.size _ _ _ _ rfl (setRow_heap _ _ _ _ _ _ hrow) Tryz.underlying33 rfl (by kernel_rfl)) rfl ⟨none, 0, rfl, Sees.nil _ _, Nat.le_refl _, Nat.zero_le _, below_setRow hb (Nat.le_refl _) _, fun a ha => by cases ha⟩
set_option maxHeartbeats 4000000 in
theorem rtget_many (A : Option Addr) (c : Nat) (l : List UInt8) (w : World) (hl : SeesB w A l) (hc : l.length ≤ c) (hcm : c ≤ maxLen) (hlen : l.length ≤ 140737488355328) (h14 : 14 ≤ l.length) (hx : ((l[0].toNat : Int) != 69) = false) (hy : ((l[1].toNat : Int) != 78) = false) (hbig : 16777216 < fldT l 10 4) :
    Calls Tryz.prog 21 #[.slice A l.length c] w (GetTPostF w (60, 0, 0, 0, [])) := by
  obtain ⟨a, rfl, _⟩ := hl.at (show 0 < l.length by omega)
  have hb : Below w.heap.size w (w.alloc (.cells #[.int .i64 0, .int .u32 0, .slice none 0 0] 33)) := (Below.refl _ w).alloc (Nat.le_refl _) _
  have hrow := heap_alloc_new w (.cells #[.int .i64 0, .int .u32 0, .slice none 0 0] 33)
  obtain ⟨a0, ha0, b0⟩ := (hl.below hb).at (show 0 < l.length by omega)
  injection ha0 with ha0
  subst ha0
  have q0 : (w.alloc (.cells #[.int .i64 0, .int .u32 0, .slice none 0 0] 33)).cell? a = some (.int .u8 (l[0].toNat : Int)) := b0
  clear b0
  obtain ⟨a1, ha1, b1⟩ := (hl.below hb).at (show 1 < l.length by omega)
  injection ha1 with ha1
  subst ha1
  have q1 : (w.alloc (.cells #[.int .i64 0, .int .u32 0, .slice none 0 0] 33)).cell? { block := a.block, off := a.off + 1 } = some (.int .u8 (l[1].toNat : Int)) := b1
  clear b1
  have d0 : decide (0 < (l.length : Int)) = true := decide_eq_true (by omega)
  have d0' : (0 : Int) < (l.length : Int) := by omega
  have d1 : decide (1 < (l.length : Int)) = true := decide_eq_true (by omega)
  have d1' : (1 : Int) < (l.length : Int) := by omega
  have d2 : decide ((l.length : Int) < 14) = false := decide_eq_false (by omega)
  have k1 : (10 : Int) ≤ 14 := by omega
  have k2 : (14 : Int) ≤ c := by omega
  have k3 : ¬ c = 10 := by omega
  have k4 : (l.length : Int) ≤ c := by omega
  have HN := hid (rval_at a c l 10 4 _ (hl.below hb) (by omega) (by omega) hc)
  have v1 : fldT l 10 4 < 4294967296 := fldT_lt l 10 4
  generalize fldT l 10 4 = N at *
  have d3 : decide (16777216 < (N : Int)) = true := decide_eq_true (by omega)
  go_enter Tryz.func21, Tryz.ntmps21
  go_wp2_with fail
  refine HN.out.mono ?_
  rintro e w2 ⟨rfl, rfl⟩
  go_wp2_with first | (refine wpList_store_row rfl 33 (.tmp 2) (.tmp 40) rfl rfl w.heap.size rfl #[.int .i64 0, .int .u32 0, .slice none 0 0] rfl 33 #[.int .i64 0, .int .u32 0, .slice none 0 0] hrow (by kernel_rfl) rfl (by simp [Value.oneCell']) ?_)
  exact bodyPost_ret (v := .tuple #[.agg #[.int .i64 0, .int .u32 0, .slice none 0 0], .int .i64 0, .int .i64 60]) (results_row_tmp2 (fn := Tryz.f21) (p := 2) (u := 3) (x := 4) (ty := 33) rfl _ _ w.heap.size _ _ _ _ rfl (setRow_heap _ _ _ _ _ _ hrow) Tryz.underlying33 rfl (by kernel_rfl)) rfl ⟨none, 0, rfl, Sees.nil _ _, Nat.le_refl _, Nat.zero_le _, below_setRow hb (Nat.le_refl _) _, fun a ha => by cases ha⟩
set_option maxHeartbeats 4000000 in
theorem rtget_cut (A : Option Addr) (c : Nat) (l : List UInt8) (w : World) (hl : SeesB w A l) (hc : l.length ≤ c) (hcm : c ≤ maxLen) (hlen : l.length ≤ 140737488355328) (h14 : 14 ≤ l.length) (hx : ((l[0].toNat : Int) != 69) = false) (hy : ((l[1].toNat : Int) != 78) = false) (hmost : fldT l 10 4 ≤ 16777216) (hcut : l.length < 18 + 5 * fldT l 10 4) :
    Calls Tryz.prog 21 #[.slice A l.length c] w (GetTPostF w (10, 0, 0, 0, [])) := by
  obtain ⟨a, rfl, _⟩ := hl.at (show 0 < l.length by omega)
  have hb : Below w.heap.size w (w.alloc (.cells #[.int .i64 0, .int .u32 0, .slice none 0 0] 33)) := (Below.refl _ w).alloc (Nat.le_refl _) _
  have hrow := heap_alloc_new w (.cells #[.int .i64 0, .int .u32 0, .slice none 0 0] 33)
  obtain ⟨a0, ha0, b0⟩ := (hl.below hb).at (show 0 < l.length by omega)
  injection ha0 with ha0
  subst ha0
  have q0 : (w.alloc (.cells #[.int .i64 0, .int .u32 0, .slice none 0 0] 33)).cell? a = some (.int .u8 (l[0].toNat : Int)) := b0
  clear b0
  obtain ⟨a1, ha1, b1⟩ := (hl.below hb).at (show 1 < l.length by omega)
  injection ha1 with ha1
  subst ha1
  have q1 : (w.alloc (.cells #[.int .i64 0, .int .u32 0, .slice none 0 0] 33)).cell? { block := a.block, off := a.off + 1 } = some (.int .u8 (l[1].toNat : Int)) := b1
  clear b1
  have d0 : decide (0 < (l.length : Int)) = true := decide_eq_true (by omega)
  have d0' : (0 : Int) < (l.length : Int) := by omega
  have d1 : decide (1 < (l.length : Int)) = true := decide_eq_true (by omega)
  have d1' : (1 : Int) < (l.length : Int) := by omega
  have d2 : decide ((l.length : Int) < 14) = false := decide_eq_false (by omega)
  have k1 : (10 : Int) ≤ 14 := by omega
  have k2 : (14 : Int) ≤ c := by omega
  have k3 : ¬ c = 10 := by omega
  have k4 : (l.length : Int) ≤ c := by omega
  have HN := hid (rval_at a c l 10 4 _ (hl.below hb) (by omega) (by omega) hc)
  generalize fldT l 10 4 = N at *
  have d3 : decide (16777216 < (N : Int)) = false := decide_eq_false (by omega)
  have d4 : decide ((l.length : Int) < 14 + 5 * (N : Int) + 4) = true := decide_eq_true (by omega)
  go_enter Tryz.func21, Tryz.ntmps21
  go_wp2_with fail
  refine HN.out.mono ?_
  rintro e w2 ⟨rfl, rfl⟩
  go_wp2_with first | (refine wpList_store_row rfl 33 (.tmp 2) (.tmp 49) rfl rfl w.heap.size rfl #[.int .i64 0, .int .u32 0, .slice none 0 0] rfl 33 #[.int .i64 0, .int .u32 0, .slice none 0 0] hrow (by kernel_rfl) rfl (by simp [Value.oneCell']) ?_)
  exact bodyPost_ret (v := .tuple #[.agg #[.int .i64 0, .int .u32 0, .slice none 0 0], .int .i64 0, .int .i64 10]) (results_row_tmp2 (fn := Tryz.f21) (p := 2) (u := 3) (x := 4) (ty := 33) rfl _ _ w.heap.size _ _ _ _ rfl (setRow_heap _ _ _ _ _ _ hrow) Tryz.underlying33 rfl (by kernel_rfl)) rfl ⟨none, 0, rfl, Sees.nil _ _, Nat.le_refl _, Nat.zero_le _, below_setRow hb (Nat.le_refl _) _, fun a ha => by cases ha⟩
/-- the worlds of the region that makes the tail -/
def RefTS (w : World) (g : Nat) (new : Array Value) (b : Nat) (w' : World) : Prop :=
  Below w.heap.size w w' ∧ w'.heap[w.heap.size]? = some (.cells #[.int .i64 0, .int .u32 0, .slice none 0 0] 33 (0, 0)) ∧ w.heap.size < g ∧ (b = 0 → w'.heap.size = g) ∧ (b = 1 → w'.heap[g]? = some (.cells #[.int .i64 0, .int .u32 0, .slice none 0 0] 33 (0, 0))) ∧ (b = 2 → w'.heap[g]? = some (.cells new 33 (0, 0)))
theorem RefTS.alloc {w w' : World} {g : Nat} {new : Array Value} (h : RefTS w g new 0 w') : RefTS w g new 1 (w'.alloc (.cells #[.int .i64 0, .int .u32 0, .slice none 0 0] 33)) := by
  obtain ⟨h1, h2, h3, h4, _⟩ := h
  have hb : Below w'.heap.size w' (w'.alloc (.cells #[.int .i64 0, .int .u32 0, .slice none 0 0] 33)) := (Below.refl _ _).alloc (Nat.le_refl _) _
  exact ⟨h1.trans (hb.mono h1.size), (hb.block _ (Array.getElem?_eq_some_iff.1 h2).1).trans h2, h3, fun h => by omega, fun _ => by rw [← h4 rfl]; exact heap_alloc_new _ _, fun h => by omega⟩
theorem RefTS.store {w w' : World} {g : Nat} {new : Array Value} (h : RefTS w g new 1 w') : RefTS w g new 2 (w'.setRow g new) := by
  obtain ⟨h1, h2, h3, _, h5, _⟩ := h
  exact ⟨below_setRow h1 (Nat.le_of_lt h3) new, (setRow_other w' g w.heap.size new (by omega)).trans h2, h3, fun h => by omega, fun h => by omega, fun _ => setRow_heap w' g _ new _ _ (h5 rfl)⟩
set_option maxRecDepth 20000 in
set_option maxHeartbeats 8000000 in
theorem rtget_long (A : Option Addr) (c : Nat) (l : List UInt8) (w : World) (hl : SeesB w A l) (hc : l.length ≤ c) (hcm : c ≤ maxLen) (hlen : l.length ≤ 140737488355328) (h14 : 14 ≤ l.length) (hx : ((l[0].toNat : Int) != 69) = false) (hy : ((l[1].toNat : Int) != 78) = false) (hst : startsT l = true) (hmost : fldT l 10 4 ≤ 16777216) (hfit : 18 + 5 * fldT l 10 4 ≤ l.length) :
    Calls Tryz.prog 21 #[.slice A l.length c] w (GetTPostF w (getT l)) := by
  obtain ⟨R, hR⟩ : ∃ R, R = getT l := ⟨_, rfl⟩
  rw [← hR]
  have hR2 : R = (if sumI (l.take (14 + 5 * fldT l 10 4)) ≠ (fldT l (14 + 5 * fldT l 10 4) 4 : Int) then (33, 0, 0, 0, []) else if rightB (fldT l 2 4 : Nat) (plcT l (fldT l 10 4)) = false then (60, 0, 0, 0, []) else (0, (18 + 5 * fldT l 10 4 : Nat), (fldT l 2 4 : Nat), (fldT l 6 4 : Nat), plcT l (fldT l 10 4)) : Int × Int × Int × Int × List Int) := by
    rw [hR]; unfold getT; rw [if_neg (by rw [hst]; simp), if_neg (by omega), if_neg (by omega), if_neg (by omega)]
  have HR := hid hR2
  clear hR hR2
  obtain ⟨a, rfl, _⟩ := hl.at (show 0 < l.length by omega)
  have hb : Below w.heap.size w (w.alloc (.cells #[.int .i64 0, .int .u32 0, .slice none 0 0] 33)) := (Below.refl _ w).alloc (Nat.le_refl _) _
  have hrow := heap_alloc_new w (.cells #[.int .i64 0, .int .u32 0, .slice none 0 0] 33)
  obtain ⟨a0, ha0, b0⟩ := (hl.below hb).at (show 0 < l.length by omega)
  injection ha0 with ha0
  subst ha0
  have q0 : (w.alloc (.cells #[.int .i64 0, .int .u32 0, .slice none 0 0] 33)).cell? a = some (.int .u8 (l[0].toNat : Int)) := b0
  clear b0
  obtain ⟨a1, ha1, b1⟩ := (hl.below hb).at (show 1 < l.length by omega)
  injection ha1 with ha1
  subst ha1
  have q1 : (w.alloc (.cells #[.int .i64 0, .int .u32 0, .slice none 0 0] 33)).cell? { block := a.block, off := a.off + 1 } = some (.int .u8 (l[1].toNat : Int)) := b1
  clear b1
  have d0 : decide (0 < (l.length : Int)) = true := decide_eq_true (by omega)
  have d0' : (0 : Int) < (l.length : Int) := by omega
  have d1 : decide (1 < (l.length : Int)) = true := decide_eq_true (by omega)
  have d1' : (1 : Int) < (l.length : Int) := by omega
  have d2 : decide ((l.length : Int) < 14) = false := decide_eq_false (by omega)
  have k1 : (10 : Int) ≤ 14 := by omega
  have k2 : (14 : Int) ≤ c := by omega
  have k3 : ¬ c = 10 := by omega
  have k4 : (l.length : Int) ≤ c := by omega
  have HN := hid (rval_at a c l 10 4 _ (hl.below hb) (by omega) (by omega) hc)
  have u1 : fldT l 2 4 < 4294967296 := fldT_lt l 2 4
  have u2 : fldT l 6 4 < 4294967296 := fldT_lt l 6 4
  have HV1 := hid (fun W (h : SeesB W (some a) l) => rval_at a c l 2 4 W h (by omega) (by omega) hc)
  have HV2 := hid (fun W (h : SeesB W (some a) l) => rval_at a c l 6 4 W h (by omega) (by omega) hc)
  generalize fldT l 10 4 = N at *
  generalize fldT l 2 4 = x1 at *
  generalize fldT l 6 4 = x2 at *
  have d3 : decide (16777216 < (N : Int)) = false := decide_eq_false (by omega)
  have d4 : decide ((l.length : Int) < 14 + 5 * (N : Int) + 4) = false := decide_eq_false (by omega)
  have HVS := hid (fun W (h : SeesB W (some a) l) => rval_at a c l (14 + 5 * N) 4 W h (by omega) (by omega) hc)
  have hsr := sumI_range (l.take (14 + 5 * N))
  obtain ⟨S, hS⟩ := Int.eq_ofNat_of_zero_le hsr.1
  have hst2 : (l.take (14 + 5 * N)).length = 14 + 5 * N := by rw [List.length_take]; omega
  have hsum := fun W (hl : SeesB W (some a) (l.take (14 + 5 * N))) => rsum_any (some a) c (l.take (14 + 5 * N)) W hl (by omega)
  rw [hst2, hS] at hsum
  rw [hS] at hsr
  have hS4 : S < 4294967296 := by omega
  have HSUM := hid hsum
  have HS := hid hS
  have v5 : fldT l (14 + 5 * N) 4 < 4294967296 := fldT_lt l (14 + 5 * N) 4
  obtain ⟨su, hsu⟩ : ∃ y, y = fldT l (14 + 5 * N) 4 := ⟨_, rfl⟩
  rw [← hsu] at v5 HVS
  have HSU := hid hsu
  have hl0 := hl.below hb
  clear hsum hS hst2 hsr hsu
  have g1 : (14 : Int) + 5 * N ≤ c := by omega
  have g2 : (0 : Int) ≤ 14 + 5 * N := by omega
  have g3 : (14 : Int) + 5 * N + 4 ≤ c := by omega
  have g4 : (14 : Int) + 5 * N ≤ 14 + 5 * N + 4 := by omega
  have g5 : ¬ c = 14 + 5 * N := by omega
  go_enter Tryz.func21, Tryz.ntmps21
  go_wp2_with fail
  refine HN.out.mono ?_
  rintro e w2 ⟨rfl, rfl⟩
  go_upto_region 11 with (fail)
  generalize w.alloc (.cells #[.int .i64 0, .int .u32 0, .slice none 0 0] 33) = w0 at *
  have hlt0 : w.heap.size < w0.heap.size := (Array.getElem?_eq_some_iff.1 hrow).1
  have hls : SeesB w0.drew (some a) (l.take (14 + 5 * N)) := by
    have hx : SeesB w0 (some a) (l.take (14 + 5 * N)) := by unfold SeesB; rw [List.map_take]; exact Sees.take hl0 _
    exact hx
  have hlw : SeesB w0.drew (some a) l := hl0
  have eA : (14 + 5 * (N : Int)).toNat = 14 + 5 * N := by omega
  have eB : (14 + 5 * (N : Int) + 4).toNat - (14 + 5 * N) = 4 := by omega
  have z4 : IntKind.i64.wrap (14 + 5 * (N : Int) + 4) = 14 + 5 * (N : Int) + 4 := by rw [IntKind.wrap_i64]; omega
  have zS : IntKind.u64.wrap (S : Int) = (S : Int) := by rw [IntKind.wrap_u64]; omega
  clear q0 q1 hx hy d0 d0' d1 d1' d2 HN
  by_cases heq : S = su
  · have dd : ((S : Int) != (su : Int)) = false := by rw [heq]; simp
    have HEQ := hid heq
    clear heq
    refine wp_region_held_drew (S := fun _ => True) (by kernel_rfl) trivial (fun hHeld => ?_)
    refine wpAnyH_takeD (i := 0) (d := some 50) (v := ?v1500) rfl rfl (by kernel_rfl) (by kernel_rfl) (by kernel_rfl) (fun _ _ _ h => h) (Or.inl ⟨by rfl, ?hy1500⟩) hHeld ?rest1500
    case hy1500 =>
      intro wS hS
      go_simp
      all_goals with_reducible rfl
    (try simp only [Act.put, List.setIfInBounds_toArray, List.set_cons_zero, List.set_cons_succ])
    refine wpAnyH_takeD (i := 1) (d := some 51) (v := ?v1601) rfl rfl (by kernel_rfl) (by kernel_rfl) (by kernel_rfl) (fun _ _ _ h => h) (Or.inl ⟨by rfl, ?hy1601⟩) hHeld ?rest1601
    case hy1601 =>
      intro wS hS
      go_simp
      all_goals with_reducible rfl
    (try simp only [Act.put, List.setIfInBounds_toArray, List.set_cons_zero, List.set_cons_succ])
    refine wpAnyH_takeD (i := 2) (d := some 52) (v := ?v1702) rfl rfl (by kernel_rfl) (by kernel_rfl) (by kernel_rfl) (fun _ _ _ h => h) (Or.inl ⟨by rfl, ?hy1702⟩) hHeld ?rest1702
    case hy1702 =>
      intro wS hS
      go_simp
      all_goals with_reducible rfl
    (try simp only [Act.put, List.setIfInBounds_toArray, List.set_cons_zero, List.set_cons_succ])
    refine wpAnyH_takeD (i := 5) (d := some 55) (v := ?v1805) rfl rfl (by kernel_rfl) (by kernel_rfl) (by kernel_rfl) (fun _ _ _ h => h) (Or.inl ⟨by rfl, ?hy1805⟩) hHeld ?rest1805
    case hy1805 =>
      intro wS hS
      go_simp
      all_goals with_reducible rfl
    (try simp only [Act.put, List.setIfInBounds_toArray, List.set_cons_zero, List.set_cons_succ])
    refine wpAnyH_takeD (i := 6) (d := some 56) (v := ?v1906) rfl rfl (by kernel_rfl) (by kernel_rfl) (by kernel_rfl) (fun _ _ _ h => h) (Or.inl ⟨by rfl, ?hy1906⟩) hHeld ?rest1906
    case hy1906 =>
      intro wS hS
      go_simp
      all_goals with_reducible rfl
    (try simp only [Act.put, List.setIfInBounds_toArray, List.set_cons_zero, List.set_cons_succ])
    refine wpAnyH_takeD (i := 7) (d := some 57) (v := ?v2007) rfl rfl (by kernel_rfl) (by kernel_rfl) (by kernel_rfl) (fun _ _ _ h => h) (Or.inl ⟨by rfl, ?hy2007⟩) hHeld ?rest2007
    case hy2007 =>
      intro wS hS
      go_simp
      all_goals with_reducible rfl
    (try simp only [Act.put, List.setIfInBounds_toArray, List.set_cons_zero, List.set_cons_succ])
    refine wpAnyH_takeD (i := 8) (d := some 58) (v := ?v2108) rfl rfl (by kernel_rfl) (by kernel_rfl) (by kernel_rfl) (fun _ _ _ h => h) (Or.inl ⟨by rfl, ?hy2108⟩) hHeld ?rest2108
    case hy2108 =>
      intro wS hS
      go_simp
      all_goals with_reducible rfl
    (try simp only [Act.put, List.setIfInBounds_toArray, List.set_cons_zero, List.set_cons_succ])
    refine wpAnyH_takeD (i := 9) (d := some 59) (v := ?v2209) rfl rfl (by kernel_rfl) (by kernel_rfl) (by kernel_rfl) (fun _ _ _ h => h) (Or.inl ⟨by rfl, ?hy2209⟩) hHeld ?rest2209
    case hy2209 =>
      intro wS hS
      go_simp
      all_goals with_reducible rfl
    (try simp only [Act.put, List.setIfInBounds_toArray, List.set_cons_zero, List.set_cons_succ])
    refine wpAnyH_ready (rs := [3]) (by kernel_rfl) (by simp) (AllReadyH.cons rfl (fun K hK => ?_) AllReadyH.nil)
    rw [if_pos (by rfl)]
    go_simp
    refine (HSUM.out _ hls).mono ?_
    rintro e w3 ⟨rfl, rfl⟩
    go_wp2_with fail
    refine hK.out _ _ trivial (fun hHeld => ?_)
    clear hK K
    (try simp only [Act.put, List.setIfInBounds_toArray, List.set_cons_zero, List.set_cons_succ])
    refine wpAnyH_takeD (i := 4) (d := some 54) (v := ?v2304) rfl rfl (by kernel_rfl) (by kernel_rfl) (by kernel_rfl) (fun _ _ _ h => h) (Or.inl ⟨by rfl, ?hy2304⟩) hHeld ?rest2304
    case hy2304 =>
      intro wS hS
      go_simp
      all_goals with_reducible rfl
    (try simp only [Act.put, List.setIfInBounds_toArray, List.set_cons_zero, List.set_cons_succ])
    refine wpAnyH_ready (rs := [10]) (by kernel_rfl) (by simp) (AllReadyH.cons rfl (fun K hK => ?_) AllReadyH.nil)
    rw [if_pos (by rfl)]
    go_simp
    (try simp only [eA, eB])
    refine (HVS.out _ hlw).mono ?_
    rintro e w3 ⟨rfl, rfl⟩
    go_wp2_with fail
    refine hK.out _ _ trivial (fun hHeld => ?_)
    clear hK K
    (try simp only [Act.put, List.setIfInBounds_toArray, List.set_cons_zero, List.set_cons_succ])
    refine wpAnyH_takeD (i := 11) (d := some 61) (v := ?v2411) rfl rfl (by kernel_rfl) (by kernel_rfl) (by kernel_rfl) (fun _ _ _ h => h) (Or.inl ⟨by rfl, ?hy2411⟩) hHeld ?rest2411
    case hy2411 =>
      intro wS hS
      go_simp
      all_goals with_reducible rfl
    (try simp only [Act.put, List.setIfInBounds_toArray, List.set_cons_zero, List.set_cons_succ])
    refine wpAnyH_done (by kernel_rfl) ?_ _
    have hbA : Below w.heap.size w w0.drew := hb.drew
    have hrowA : w0.drew.heap[w.heap.size]? = some (.cells #[.int .i64 0, .int .u32 0, .slice none 0 0] 33 (0, 0)) := hrow
    have hltA : w.heap.size < w0.drew.heap.size := hlt0
    clear hls hlw hb hrow hlt0 hl0 HSUM HVS dd g1 g2 g3 g4 g5 eA eB zS
    generalize w0.drew = wA at *
    have m1 : (6 : Int) ≤ c := by omega
    have m2 : ¬ c = 2 := by omega
    have m3 : (10 : Int) ≤ c := by omega
    have m4 : ¬ c = 6 := by omega
    have zx1 : IntKind.i64.wrap (x1 : Int) = (x1 : Int) := by rw [IntKind.wrap_i64]; omega
    have zx2 : IntKind.u32.wrap (x2 : Int) = (x2 : Int) := by rw [IntKind.wrap_u32]; omega
    go_wp2_with fail
    refine wp_region_held3 (RefTS w wA.heap.size #[.int .i64 (x1 : Nat), .int .u32 (x2 : Nat), .slice none 0 0]) 9 10 (by decide) (by decide) (by decide) (by kernel_rfl) (by kernel_rfl) (by kernel_rfl) ⟨hbA.drew, hrowA, hltA, fun _ => rfl, fun h => by omega, fun h => by omega⟩ ?_
    apply held3_yes (by rfl) (by decide)
    · intro b w' h
      go_simp
      first | exact rfl | exact ⟨rfl, h⟩
    (try simp only [Act.put, List.setIfInBounds_toArray, List.set_cons_zero, List.set_cons_succ])
    apply held3_yes (by rfl) (by decide)
    · intro b w' h
      go_simp
      first | exact rfl | exact ⟨rfl, h⟩
    (try simp only [Act.put, List.setIfInBounds_toArray, List.set_cons_zero, List.set_cons_succ])
    apply held3_yes (v := .int .u64 (x1 : Nat)) (by rfl) (by decide)
    · intro b w' h
      have hlk := hl.below h.1
      go_simp
      exact (HV1.out _ hlk).mono (fun e w'' ⟨he, hb⟩ => ⟨he, hb ▸ h⟩)
    (try simp only [Act.put, List.setIfInBounds_toArray, List.set_cons_zero, List.set_cons_succ])
    apply held3_yes (by rfl) (by decide)
    · intro b w' h
      go_simp
      first | exact rfl | exact ⟨rfl, h⟩
    (try simp only [Act.put, List.setIfInBounds_toArray, List.set_cons_zero, List.set_cons_succ])
    apply held3_yes (by rfl) (by decide)
    · intro b w' h
      go_simp
      first | exact rfl | exact ⟨rfl, h⟩
    (try simp only [Act.put, List.setIfInBounds_toArray, List.set_cons_zero, List.set_cons_succ])
    apply held3_yes (by rfl) (by decide)
    · intro b w' h
      go_simp
      first | exact rfl | exact ⟨rfl, h⟩
    (try simp only [Act.put, List.setIfInBounds_toArray, List.set_cons_zero, List.set_cons_succ])
    apply held3_yes (v := .int .u64 (x2 : Nat)) (by rfl) (by decide)
    · intro b w' h
      have hlk := hl.below h.1
      go_simp
      exact (HV2.out _ hlk).mono (fun e w'' ⟨he, hb⟩ => ⟨he, hb ▸ h⟩)
    (try simp only [Act.put, List.setIfInBounds_toArray, List.set_cons_zero, List.set_cons_succ])
    apply held3_yes (by rfl) (by decide)
    · intro b w' h
      go_simp
      first | exact rfl | exact ⟨rfl, h⟩
    (try simp only [Act.put, List.setIfInBounds_toArray, List.set_cons_zero, List.set_cons_succ])
    apply held3_yes (by rfl) (by decide)
    · intro b w' h
      go_simp
      first | exact rfl | exact ⟨rfl, h⟩
    (try simp only [Act.put, List.setIfInBounds_toArray, List.set_cons_zero, List.set_cons_succ])
    apply held3_at (v := .pointer (some ⟨wA.heap.size, 0, none⟩)) (by rfl) rfl
    · intro w' h
      have hz := h.2.2.2.1 rfl
      rw [← hz]
      go_simp
      first | exact ⟨rfl, by rw [hz]; exact h.alloc⟩ | exact h.alloc
    (try simp only [Act.put, List.setIfInBounds_toArray, List.set_cons_zero, List.set_cons_succ])
    refine held3_at2 (by rfl) rfl (fun w' h => held_store_row 33 _ _ rfl wA.heap.size (by rfl) _ (by rfl) _ _ (h.2.2.2.2.1 rfl) (by kernel_rfl) (by rfl) (by simp [Value.oneCell']) h.store) ?_
    (try simp only [Act.put])
    refine held3_nil ?_
    rintro wB ⟨hbB, hrowB, _, _, _, hr9⟩
    have hrB := hr9 rfl
    have hltg : wA.heap.size < wB.heap.size := (Array.getElem?_eq_some_iff.1 hrB).1
    have hltB : w.heap.size < wB.heap.size := (Array.getElem?_eq_some_iff.1 hrowB).1
    clear hr9 hbA hrowA HV1 HV2
    generalize wA.heap.size = g8 at *
    have hwg8 : w.heap.size < g8 := hltA
    have hsz0 : wB.heap.size ≤ wB.heap.size := Nat.le_refl _
    clear hltA
    go_wp2_with fail
    go_loopw [8] (fun i wr => ∃ (n : Nat) (A : Option Addr) (c : Nat) (vs : List Int), n ≤ N ∧ i = .int .i64 n ∧ vs = plcT l n ∧ wr.heap[g8]? = some (.cells #[.int .i64 (x1 : Nat), .int .u32 (x2 : Nat), .slice A n c] 33 (0, 0)) ∧ wr.ownsRow wB.heap.size 3 1 (.slice A n c) n (vs.map intV) ∧ wr.heap[w.heap.size]? = some (.cells #[.int .i64 0, .int .u32 0, .slice none 0 0] 33 (0, 0)) ∧ Below w.heap.size w wr ∧ wB.heap.size ≤ wr.heap.size) (fun i _ => N - (intOf i).toNat)
    case atStart => exact ⟨0, none, 0, [], by omega, rfl, rfl, hrB, own_nil _ _ _ _, hrowB, hbB, hsz0⟩
    case round =>
      clear hrB hrowB hbB hsz0
      obtain ⟨n, An, cn, vs, hnN, rfl, hvs, hr, hown, hrow, hbw, hsz⟩ := hrel
      by_cases hlt : n < N
      · have e2 : decide ((n : Int) < (N : Int)) = true := decide_eq_true (by omega)
        have e2' : decide (n < N) = true := decide_eq_true hlt
        have hnew : vs ++ [(fldT l (14 + 5 * n) 5 : Int)] = plcT l (n + 1) := by rw [hvs, plcT_succ]
        have hyl : fldT l (14 + 5 * n) 5 < 1099511627776 := fldT_lt l (14 + 5 * n) 5
        have hvv := rval_at a c l (14 + 5 * n) 5 wr.drew (show SeesB wr.drew (some a) l from hl.below hbw.drew) (by omega) (by omega) hc
        obtain ⟨y, hy⟩ : ∃ y, y = fldT l (14 + 5 * n) 5 := ⟨_, rfl⟩
        rw [← hy] at hyl hnew hvv
        have HVV := hid hvv
        have HNEW := hid hnew
        have zy : IntKind.i64.wrap (y : Int) = (y : Int) := by rw [IntKind.wrap_i64]; omega
        have zm : IntKind.i64.wrap (5 * (n : Int)) = 5 * (n : Int) := by rw [IntKind.wrap_i64]; omega
        have za : IntKind.i64.wrap (14 + 5 * (n : Int)) = 14 + 5 * (n : Int) := by rw [IntKind.wrap_i64]; omega
        have zb : IntKind.i64.wrap (19 + 5 * (n : Int)) = 19 + 5 * (n : Int) := by rw [IntKind.wrap_i64]; omega
        have f1 : (14 : Int) + 5 * (n : Int) ≤ 19 + 5 * (n : Int) := by omega
        have f2 : (0 : Int) ≤ 14 + 5 * (n : Int) := by omega
        have f3 : (19 : Int) + 5 * (n : Int) ≤ c := by omega
        have f4 : ¬ c = 14 + 5 * n := by omega
        have eTA : (14 + 5 * (n : Int)).toNat = 14 + 5 * n := by omega
        have eTB : (19 + 5 * (n : Int)).toNat - (14 + 5 * n) = 5 := by omega
        clear hvs hy hvv hnew
        go_wp2_with fail
        have hr8 : wr.drew.heap[g8]? = some (.cells #[.int .i64 (x1 : Nat), .int .u32 (x2 : Nat), .slice An n cn] 33 (0, 0)) := hr
        have hown8 : wr.drew.ownsRow wB.heap.size 3 1 (.slice An n cn) n (vs.map intV) := hown
        have hrow8 : wr.drew.heap[w.heap.size]? = some (.cells #[.int .i64 0, .int .u32 0, .slice none 0 0] 33 (0, 0)) := hrow
        have hbw8 : Below w.heap.size w wr.drew := hbw.drew
        have hsz8 : wB.heap.size ≤ wr.drew.heap.size := hsz
        clear hr hown hrow hbw
        refine wp_region_held_drew (S := fun _ => True) (by kernel_rfl) trivial (fun hHeld => ?_)
        generalize wr.drew = wd at *
        refine wpAnyH_takeD (i := 0) (d := some 77) (v := ?v100) rfl rfl (by kernel_rfl) (by kernel_rfl) (by kernel_rfl) (fun _ _ _ h => h) (Or.inl ⟨by rfl, ?hy100⟩) hHeld ?rest100
        case hy100 =>
          intro wS hS
          go_simp
          all_goals with_reducible rfl
        (try simp only [Act.put, List.setIfInBounds_toArray, List.set_cons_zero, List.set_cons_succ])
        refine wpAnyH_takeD (i := 2) (d := some 79) (v := ?v202) rfl rfl (by kernel_rfl) (by kernel_rfl) (by kernel_rfl) (fun _ _ _ h => h) (Or.inl ⟨by rfl, ?hy202⟩) hHeld ?rest202
        case hy202 =>
          intro wS hS
          go_simp
          all_goals with_reducible rfl
        (try simp only [Act.put, List.setIfInBounds_toArray, List.set_cons_zero, List.set_cons_succ])
        refine wpAnyH_takeD (i := 3) (d := some 80) (v := ?v303) rfl rfl (by kernel_rfl) (by kernel_rfl) (by kernel_rfl) (fun _ _ _ h => h) (Or.inl ⟨by rfl, ?hy303⟩) hHeld ?rest303
        case hy303 =>
          intro wS hS
          go_simp
          all_goals with_reducible rfl
        (try simp only [Act.put, List.setIfInBounds_toArray, List.set_cons_zero, List.set_cons_succ])
        refine wpAnyH_takeD (i := 4) (d := some 81) (v := ?v404) rfl rfl (by kernel_rfl) (by kernel_rfl) (by kernel_rfl) (fun _ _ _ h => h) (Or.inl ⟨by rfl, ?hy404⟩) hHeld ?rest404
        case hy404 =>
          intro wS hS
          go_simp
          all_goals with_reducible rfl
        (try simp only [Act.put, List.setIfInBounds_toArray, List.set_cons_zero, List.set_cons_succ])
        refine wpAnyH_takeD (i := 5) (d := some 82) (v := ?v505) rfl rfl (by kernel_rfl) (by kernel_rfl) (by kernel_rfl) (fun _ _ _ h => h) (Or.inl ⟨by rfl, ?hy505⟩) hHeld ?rest505
        case hy505 =>
          intro wS hS
          go_simp
          all_goals with_reducible rfl
        (try simp only [Act.put, List.setIfInBounds_toArray, List.set_cons_zero, List.set_cons_succ])
        refine wpAnyH_takeD (i := 6) (d := some 83) (v := ?v606) rfl rfl (by kernel_rfl) (by kernel_rfl) (by kernel_rfl) (fun _ _ _ h => h) (Or.inl ⟨by rfl, ?hy606⟩) hHeld ?rest606
        case hy606 =>
          intro wS hS
          go_simp
          all_goals with_reducible rfl
        (try simp only [Act.put, List.setIfInBounds_toArray, List.set_cons_zero, List.set_cons_succ])
        refine wpAnyH_takeD (i := 7) (d := some 84) (v := ?v707) rfl rfl (by kernel_rfl) (by kernel_rfl) (by kernel_rfl) (fun _ _ _ h => h) (Or.inl ⟨by rfl, ?hy707⟩) hHeld ?rest707
        case hy707 =>
          intro wS hS
          go_simp
          all_goals with_reducible rfl
        (try simp only [Act.put, List.setIfInBounds_toArray, List.set_cons_zero, List.set_cons_succ])
        refine wpAnyH_takeD (i := 8) (d := some 85) (v := ?v808) rfl rfl (by kernel_rfl) (by kernel_rfl) (by kernel_rfl) (fun _ _ _ h => h) (Or.inl ⟨by rfl, ?hy808⟩) hHeld ?rest808
        case hy808 =>
          intro wS hS
          go_simp
          all_goals with_reducible rfl
        (try simp only [Act.put, List.setIfInBounds_toArray, List.set_cons_zero, List.set_cons_succ])
        refine wpAnyH_takeD (i := 9) (d := some 86) (v := ?v909) rfl rfl (by kernel_rfl) (by kernel_rfl) (by kernel_rfl) (fun _ _ _ h => h) (Or.inl ⟨by rfl, ?hy909⟩) hHeld ?rest909
        case hy909 =>
          intro wS hS
          go_simp
          all_goals with_reducible rfl
        (try simp only [Act.put, List.setIfInBounds_toArray, List.set_cons_zero, List.set_cons_succ])
        refine wpAnyH_ready (rs := [1, 10]) (by kernel_rfl) (by simp) (AllReadyH.cons rfl (fun K hK => ?_) (AllReadyH.cons rfl (fun K hK => ?_) AllReadyH.nil))
        · rw [if_pos (by rfl)]
          have k2 : wd.cell? ⟨g8, 2, none⟩ = some (.slice An n cn) := by rw [cell_of_row _ _ _ _ _ _ hr8]; rfl
          go_simp
          refine hK.out _ _ trivial (fun hHeld => ?_)
          clear hK K
          (try simp only [Act.put, List.setIfInBounds_toArray, List.set_cons_zero, List.set_cons_succ])
          clear k2
          refine wpAnyH_ready (rs := [10]) (by kernel_rfl) (by simp) (AllReadyH.cons rfl (fun K hK => ?_) AllReadyH.nil)
          rw [if_pos (by rfl)]
          go_simp
          (try simp only [eTA, eTB, if_neg f4])
          refine HVV.out.mono ?_
          rintro e w7 ⟨rfl, rfl⟩
          go_wp2_with fail
          refine hK.out _ _ trivial (fun hHeld => ?_)
          clear hK K
          (try simp only [Act.put, List.setIfInBounds_toArray, List.set_cons_zero, List.set_cons_succ])
          refine wpAnyH_takeD (i := 11) (d := some 88) (v := ?v1011) rfl rfl (by kernel_rfl) (by kernel_rfl) (by kernel_rfl) (fun _ _ _ h => h) (Or.inl ⟨by rfl, ?hy1011⟩) hHeld ?rest1011
          case hy1011 =>
            intro wS hS
            go_simp
            all_goals with_reducible rfl
          (try simp only [Act.put, List.setIfInBounds_toArray, List.set_cons_zero, List.set_cons_succ])
          refine wpAnyH_ready (rs := [12]) (by kernel_rfl) (by simp) (AllReadyH.cons rfl (fun K hK => ?_) AllReadyH.nil)
          rw [if_pos (by rfl)]
          go_simp
          have hb8 : Below wd.heap.size wd (wd.alloc (.cells #[.int .i64 (y : Nat)] 3)) := (Below.refl _ _).alloc (Nat.le_refl _) _
          have hr9 := (hb8.block g8 (by omega)).trans hr8
          have hrow9 := (hb8.block w.heap.size (by omega)).trans hrow8
          have hbw9 := hbw8.trans (hb8.mono hbw8.size)
          have hsz9 : wB.heap.size ≤ (wd.alloc (.cells #[.int .i64 (y : Nat)] 3)).heap.size := Nat.le_trans hsz8 hb8.size
          have hown9 := hown8.alloc (.cells #[.int .i64 (y : Nat)] 3)
          refine hK.out _ _ trivial (fun hHeld => ?_)
          clear hK K
          (try simp only [Act.put, List.setIfInBounds_toArray, List.set_cons_zero, List.set_cons_succ])
          refine wpAnyH_ready (rs := [13]) (by kernel_rfl) (by simp) (AllReadyH.cons rfl (fun K hK => ?_) AllReadyH.nil)
          rw [if_pos (by rfl)]
          refine wp_app (.tmp 78) (.tmp 89) _ rfl elI rfl hown9 (some ⟨wd.heap.size, 0, none⟩) 1 1 rfl [intV (y : Nat)] (Sees.of_alloc _ _ _ rfl) (by simp) (by simp [intV, Value.oneCell']) (n + 1) rfl ((vs ++ [(y : Int)]).map intV) (by simp) (by unfold maxLen; omega) (by omega) hsz9 ?_
          intro Ax cx wx hownx hgrx hatx hbx
          have hrx := (hbx.block g8 (by omega)).trans hr9
          have hrowx := (hbx.block w.heap.size (by omega)).trans hrow9
          have hbwx := hbw9.trans (hbx.mono (by omega))
          have hszx : wB.heap.size ≤ wx.heap.size := Nat.le_trans hsz9 hbx.size
          clear hgrx hatx
          refine hK.out _ _ trivial (fun hHeld => ?_)
          clear hK K
          (try simp only [Act.put, List.setIfInBounds_toArray])
          refine wpAnyH_takeD (i := 14) (d := some 91) (v := ?v1114) rfl rfl (by kernel_rfl) (by kernel_rfl) (by kernel_rfl) (fun _ _ _ h => h) (Or.inl ⟨by rfl, ?hy1114⟩) hHeld ?rest1114
          case hy1114 =>
            intro wS hS
            go_simp
            all_goals with_reducible rfl
          (try simp only [Act.put])
          refine wpAnyH_ready (rs := [15]) (by kernel_rfl) (by simp) (AllReadyH.cons rfl (fun K hK => ?_) AllReadyH.nil)
          rw [if_pos (by rfl)]
          have k2 : wx.cell? ⟨g8, 2, none⟩ = some (.slice An n cn) := by rw [cell_of_row _ _ _ _ _ _ hrx]; rfl
          have f2 : wx.frozen? ⟨g8, 2, none⟩ = false := frozen_of_row _ _ _ _ _ hrx
          have hry : (wx.setCell ⟨g8, 2, none⟩ (.slice Ax (n + 1) cx)).heap[g8]? = some (.cells #[.int .i64 (x1 : Nat), .int .u32 (x2 : Nat), .slice Ax (n + 1) cx] 33 (0, 0)) := heap_setCell_same _ g8 2 _ _ (.slice Ax (n + 1) cx) hrx
          have hrowy := (heap_setCell_other wx ⟨g8, 2, none⟩ w.heap.size (.slice Ax (n + 1) cx) (by show w.heap.size ≠ g8; omega)).trans hrowx
          have hbwy := hbwx.setCell (p := ⟨g8, 2, none⟩) (by show w.heap.size ≤ g8; omega) (.slice Ax (n + 1) cx)
          have howny := ownsRow_setCell_below hownx (a := ⟨g8, 2, none⟩) (by show g8 < wB.heap.size; omega) (.slice Ax (n + 1) cx)
          have hszy : wB.heap.size ≤ (wx.setCell ⟨g8, 2, none⟩ (.slice Ax (n + 1) cx)).heap.size := Nat.le_trans hszx (by simp [World.setCell])
          clear hr8 hrow8 hbw8 hown8 hsz8 hr9 hrow9 hbw9 hown9 hsz9 hrx hrowx hbwx hownx hszx hbx
          go_simp
          refine hK.out _ _ trivial (fun hHeld => ?_)
          clear hK K
          (try simp only [Act.put, List.setIfInBounds_toArray, List.set_cons_zero, List.set_cons_succ])
          refine wpAnyH_done (by kernel_rfl) ?_ _
          go_wp2_with fail
          go_roundw
          case rel => exact ⟨n + 1, Ax, cx, vs ++ [(y : Int)], by omega, by go_num, HNEW.out, hry, howny, hrowy, hbwy, hszy⟩
          case measure => simp [intOf]; omega
        · rw [if_pos (by rfl)]
          go_simp
          (try simp only [eTA, eTB, if_neg f4])
          refine HVV.out.mono ?_
          rintro e w7 ⟨rfl, rfl⟩
          go_wp2_with fail
          refine hK.out _ _ trivial (fun hHeld => ?_)
          clear hK K
          (try simp only [Act.put, List.setIfInBounds_toArray, List.set_cons_zero, List.set_cons_succ])
          refine wpAnyH_takeD (i := 11) (d := some 88) (v := ?v1211) rfl rfl (by kernel_rfl) (by kernel_rfl) (by kernel_rfl) (fun _ _ _ h => h) (Or.inl ⟨by rfl, ?hy1211⟩) hHeld ?rest1211
          case hy1211 =>
            intro wS hS
            go_simp
            all_goals with_reducible rfl
          (try simp only [Act.put, List.setIfInBounds_toArray, List.set_cons_zero, List.set_cons_succ])
          refine wpAnyH_ready (rs := [1, 12]) (by kernel_rfl) (by simp) (AllReadyH.cons rfl (fun K hK => ?_) (AllReadyH.cons rfl (fun K hK => ?_) AllReadyH.nil))
          · rw [if_pos (by rfl)]
            have k2 : wd.cell? ⟨g8, 2, none⟩ = some (.slice An n cn) := by rw [cell_of_row _ _ _ _ _ _ hr8]; rfl
            go_simp
            refine hK.out _ _ trivial (fun hHeld => ?_)
            clear hK K
            (try simp only [Act.put, List.setIfInBounds_toArray, List.set_cons_zero, List.set_cons_succ])
            clear k2
            refine wpAnyH_ready (rs := [12]) (by kernel_rfl) (by simp) (AllReadyH.cons rfl (fun K hK => ?_) AllReadyH.nil)
            rw [if_pos (by rfl)]
            go_simp
            have hb8 : Below wd.heap.size wd (wd.alloc (.cells #[.int .i64 (y : Nat)] 3)) := (Below.refl _ _).alloc (Nat.le_refl _) _
            have hr9 := (hb8.block g8 (by omega)).trans hr8
            have hrow9 := (hb8.block w.heap.size (by omega)).trans hrow8
            have hbw9 := hbw8.trans (hb8.mono hbw8.size)
            have hsz9 : wB.heap.size ≤ (wd.alloc (.cells #[.int .i64 (y : Nat)] 3)).heap.size := Nat.le_trans hsz8 hb8.size
            have hown9 := hown8.alloc (.cells #[.int .i64 (y : Nat)] 3)
            refine hK.out _ _ trivial (fun hHeld => ?_)
            clear hK K
            (try simp only [Act.put, List.setIfInBounds_toArray, List.set_cons_zero, List.set_cons_succ])
            refine wpAnyH_ready (rs := [13]) (by kernel_rfl) (by simp) (AllReadyH.cons rfl (fun K hK => ?_) AllReadyH.nil)
            rw [if_pos (by rfl)]
            refine wp_app (.tmp 78) (.tmp 89) _ rfl elI rfl hown9 (some ⟨wd.heap.size, 0, none⟩) 1 1 rfl [intV (y : Nat)] (Sees.of_alloc _ _ _ rfl) (by simp) (by simp [intV, Value.oneCell']) (n + 1) rfl ((vs ++ [(y : Int)]).map intV) (by simp) (by unfold maxLen; omega) (by omega) hsz9 ?_
            intro Ax cx wx hownx hgrx hatx hbx
            have hrx := (hbx.block g8 (by omega)).trans hr9
            have hrowx := (hbx.block w.heap.size (by omega)).trans hrow9
            have hbwx := hbw9.trans (hbx.mono (by omega))
            have hszx : wB.heap.size ≤ wx.heap.size := Nat.le_trans hsz9 hbx.size
            clear hgrx hatx
            refine hK.out _ _ trivial (fun hHeld => ?_)
            clear hK K
            (try simp only [Act.put, List.setIfInBounds_toArray])
            refine wpAnyH_takeD (i := 14) (d := some 91) (v := ?v1314) rfl rfl (by kernel_rfl) (by kernel_rfl) (by kernel_rfl) (fun _ _ _ h => h) (Or.inl ⟨by rfl, ?hy1314⟩) hHeld ?rest1314
            case hy1314 =>
              intro wS hS
              go_simp
              all_goals with_reducible rfl
            (try simp only [Act.put])
            refine wpAnyH_ready (rs := [15]) (by kernel_rfl) (by simp) (AllReadyH.cons rfl (fun K hK => ?_) AllReadyH.nil)
            rw [if_pos (by rfl)]
            have k2 : wx.cell? ⟨g8, 2, none⟩ = some (.slice An n cn) := by rw [cell_of_row _ _ _ _ _ _ hrx]; rfl
            have f2 : wx.frozen? ⟨g8, 2, none⟩ = false := frozen_of_row _ _ _ _ _ hrx
            have hry : (wx.setCell ⟨g8, 2, none⟩ (.slice Ax (n + 1) cx)).heap[g8]? = some (.cells #[.int .i64 (x1 : Nat), .int .u32 (x2 : Nat), .slice Ax (n + 1) cx] 33 (0, 0)) := heap_setCell_same _ g8 2 _ _ (.slice Ax (n + 1) cx) hrx
            have hrowy := (heap_setCell_other wx ⟨g8, 2, none⟩ w.heap.size (.slice Ax (n + 1) cx) (by show w.heap.size ≠ g8; omega)).trans hrowx
            have hbwy := hbwx.setCell (p := ⟨g8, 2, none⟩) (by show w.heap.size ≤ g8; omega) (.slice Ax (n + 1) cx)
            have howny := ownsRow_setCell_below hownx (a := ⟨g8, 2, none⟩) (by show g8 < wB.heap.size; omega) (.slice Ax (n + 1) cx)
            have hszy : wB.heap.size ≤ (wx.setCell ⟨g8, 2, none⟩ (.slice Ax (n + 1) cx)).heap.size := Nat.le_trans hszx (by simp [World.setCell])
            clear hr8 hrow8 hbw8 hown8 hsz8 hr9 hrow9 hbw9 hown9 hsz9 hrx hrowx hbwx hownx hszx hbx
            go_simp
            refine hK.out _ _ trivial (fun hHeld => ?_)
            clear hK K
            (try simp only [Act.put, List.setIfInBounds_toArray, List.set_cons_zero, List.set_cons_succ])
            refine wpAnyH_done (by kernel_rfl) ?_ _
            go_wp2_with fail
            go_roundw
            case rel => exact ⟨n + 1, Ax, cx, vs ++ [(y : Int)], by omega, by go_num, HNEW.out, hry, howny, hrowy, hbwy, hszy⟩
            case measure => simp [intOf]; omega
          · rw [if_pos (by rfl)]
            go_simp
            have hb8 : Below wd.heap.size wd (wd.alloc (.cells #[.int .i64 (y : Nat)] 3)) := (Below.refl _ _).alloc (Nat.le_refl _) _
            have hr9 := (hb8.block g8 (by omega)).trans hr8
            have hrow9 := (hb8.block w.heap.size (by omega)).trans hrow8
            have hbw9 := hbw8.trans (hb8.mono hbw8.size)
            have hsz9 : wB.heap.size ≤ (wd.alloc (.cells #[.int .i64 (y : Nat)] 3)).heap.size := Nat.le_trans hsz8 hb8.size
            have hown9 := hown8.alloc (.cells #[.int .i64 (y : Nat)] 3)
            refine hK.out _ _ trivial (fun hHeld => ?_)
            clear hK K
            (try simp only [Act.put, List.setIfInBounds_toArray, List.set_cons_zero, List.set_cons_succ])
            refine wpAnyH_ready (rs := [1]) (by kernel_rfl) (by simp) (AllReadyH.cons rfl (fun K hK => ?_) AllReadyH.nil)
            rw [if_pos (by rfl)]
            have k2 : (wd.alloc (.cells #[.int .i64 (y : Nat)] 3)).cell? ⟨g8, 2, none⟩ = some (.slice An n cn) := by rw [cell_of_row _ _ _ _ _ _ hr9]; rfl
            go_simp
            refine hK.out _ _ trivial (fun hHeld => ?_)
            clear hK K
            (try simp only [Act.put, List.setIfInBounds_toArray, List.set_cons_zero, List.set_cons_succ])
            clear k2
            refine wpAnyH_ready (rs := [13]) (by kernel_rfl) (by simp) (AllReadyH.cons rfl (fun K hK => ?_) AllReadyH.nil)
            rw [if_pos (by rfl)]
            refine wp_app (.tmp 78) (.tmp 89) _ rfl elI rfl hown9 (some ⟨wd.heap.size, 0, none⟩) 1 1 rfl [intV (y : Nat)] (Sees.of_alloc _ _ _ rfl) (by simp) (by simp [intV, Value.oneCell']) (n + 1) rfl ((vs ++ [(y : Int)]).map intV) (by simp) (by unfold maxLen; omega) (by omega) hsz9 ?_
            intro Ax cx wx hownx hgrx hatx hbx
            have hrx := (hbx.block g8 (by omega)).trans hr9
            have hrowx := (hbx.block w.heap.size (by omega)).trans hrow9
            have hbwx := hbw9.trans (hbx.mono (by omega))
            have hszx : wB.heap.size ≤ wx.heap.size := Nat.le_trans hsz9 hbx.size
            clear hgrx hatx
            refine hK.out _ _ trivial (fun hHeld => ?_)
            clear hK K
            (try simp only [Act.put, List.setIfInBounds_toArray])
            refine wpAnyH_takeD (i := 14) (d := some 91) (v := ?v1414) rfl rfl (by kernel_rfl) (by kernel_rfl) (by kernel_rfl) (fun _ _ _ h => h) (Or.inl ⟨by rfl, ?hy1414⟩) hHeld ?rest1414
            case hy1414 =>
              intro wS hS
              go_simp
              all_goals with_reducible rfl
            (try simp only [Act.put])
            refine wpAnyH_ready (rs := [15]) (by kernel_rfl) (by simp) (AllReadyH.cons rfl (fun K hK => ?_) AllReadyH.nil)
            rw [if_pos (by rfl)]
            have k2 : wx.cell? ⟨g8, 2, none⟩ = some (.slice An n cn) := by rw [cell_of_row _ _ _ _ _ _ hrx]; rfl
            have f2 : wx.frozen? ⟨g8, 2, none⟩ = false := frozen_of_row _ _ _ _ _ hrx
            have hry : (wx.setCell ⟨g8, 2, none⟩ (.slice Ax (n + 1) cx)).heap[g8]? = some (.cells #[.int .i64 (x1 : Nat), .int .u32 (x2 : Nat), .slice Ax (n + 1) cx] 33 (0, 0)) := heap_setCell_same _ g8 2 _ _ (.slice Ax (n + 1) cx) hrx
            have hrowy := (heap_setCell_other wx ⟨g8, 2, none⟩ w.heap.size (.slice Ax (n + 1) cx) (by show w.heap.size ≠ g8; omega)).trans hrowx
            have hbwy := hbwx.setCell (p := ⟨g8, 2, none⟩) (by show w.heap.size ≤ g8; omega) (.slice Ax (n + 1) cx)
            have howny := ownsRow_setCell_below hownx (a := ⟨g8, 2, none⟩) (by show g8 < wB.heap.size; omega) (.slice Ax (n + 1) cx)
            have hszy : wB.heap.size ≤ (wx.setCell ⟨g8, 2, none⟩ (.slice Ax (n + 1) cx)).heap.size := Nat.le_trans hszx (by simp [World.setCell])
            clear hr8 hrow8 hbw8 hown8 hsz8 hr9 hrow9 hbw9 hown9 hsz9 hrx hrowx hbwx hownx hszx hbx
            go_simp
            refine hK.out _ _ trivial (fun hHeld => ?_)
            clear hK K
            (try simp only [Act.put, List.setIfInBounds_toArray, List.set_cons_zero, List.set_cons_succ])
            refine wpAnyH_done (by kernel_rfl) ?_ _
            go_wp2_with fail
            go_roundw
            case rel => exact ⟨n + 1, Ax, cx, vs ++ [(y : Int)], by omega, by go_num, HNEW.out, hry, howny, hrowy, hbwy, hszy⟩
            case measure => simp [intOf]; omega
      · obtain rfl : n = N := by omega
        have e2 : decide ((n : Int) < (n : Int)) = false := decide_eq_false (by omega)
        have e2' : decide (n < n) = false := decide_eq_false hlt
        have hvl : vs.length = n := by rw [hvs]; exact plcT_len l n
        have hRt := fun W (h : SeesI W An vs) => rright_is (x1 : Nat) (x2 : Nat) An cn vs W h (by omega) (rightB (x1 : Nat) vs) rfl
        rw [hvl] at hRt
        have hS1 := HR.out
        rw [← hvs] at hS1
        have HR := hid hS1
        have HRT := hid hRt
        have HVL := hid hvl
        clear hS1 hRt hvl hvs
        go_wp2_with first | (refine wpList_load_row rfl 33 (.tmp 7) rfl g8 rfl 33 #[.int .i64 (x1 : Nat), .int .u32 (x2 : Nat), .slice An n cn] (0, 0) _ hr Tryz.underlying33 rfl (by kernel_rfl) ?_)
        refine (HRT.out _ (own_sees hown)).mono ?_
        rintro e w9 ⟨rfl, hx⟩
        have hrow9 := (hx.block w.heap.size (by omega)).trans hrow
        have hr9 := (hx.block g8 (by omega)).trans hr
        have hbw9 := hbw.trans (hx.mono hbw.size)
        have hs9 : SeesI w9 An vs := SeesI.below (own_sees hown) hx
        have hA9 : ∀ a, An = some a → wB.heap.size ≤ a.block := fun a ha => (own_addr hown ha).1
        obtain ⟨hn1, hn2⟩ := own_cap hown
        clear hx hrow hr hbw hown HRT
        obtain ⟨rb, hrb⟩ : ∃ b, rightB (x1 : Nat) vs = b := ⟨_, rfl⟩
        rw [hrb]
        cases rb with
        | false =>
          obtain rfl : R = (60, 0, 0, 0, []) := by
            rw [HR.out, if_neg (by rw [HS.out, HEQ.out, HSU.out]; simp), if_pos hrb]
          clear HR hrb
          go_wp2_with first | (refine wpList_store_row rfl 33 (.tmp 2) (.tmp 95) rfl rfl w.heap.size rfl #[.int .i64 0, .int .u32 0, .slice none 0 0] rfl 33 #[.int .i64 0, .int .u32 0, .slice none 0 0] hrow9 (by kernel_rfl) rfl (by simp [Value.oneCell']) ?_)
          exact bodyPost_ret (v := .tuple #[.agg #[.int .i64 0, .int .u32 0, .slice none 0 0], .int .i64 0, .int .i64 60]) (results_row_tmp2 (fn := Tryz.f21) (p := 2) (u := 3) (x := 4) (ty := 33) rfl _ _ w.heap.size _ _ _ _ rfl (setRow_heap _ _ _ _ _ _ hrow9) Tryz.underlying33 rfl (by kernel_rfl)) rfl ⟨none, 0, rfl, Sees.nil _ _, Nat.le_refl _, Nat.zero_le _, below_setRow hbw9 (Nat.le_refl _) _, fun a ha => by cases ha⟩
        | true =>
          obtain rfl : R = ((0 : Int), ((18 + 5 * n : Nat) : Int), ((x1 : Nat) : Int), ((x2 : Nat) : Int), vs) := by
            rw [HR.out, if_neg (by rw [HS.out, HEQ.out, HSU.out]; simp), if_neg (by rw [hrb]; simp)]
          clear HR hrb
          have hrow11 := setRow_heap w9 w.heap.size _ #[.int .i64 (x1 : Nat), .int .u32 (x2 : Nat), .slice An n cn] _ _ hrow9
          have hbw11 := below_setRow hbw9 (Nat.le_refl _) #[.int .i64 (x1 : Nat), .int .u32 (x2 : Nat), .slice An n cn]
          have hs11 : SeesI (w9.setRow w.heap.size #[.int .i64 (x1 : Nat), .int .u32 (x2 : Nat), .slice An n cn]) An vs := Sees.setRowFar2 (show Sees w9 An (vs.map intV) from hs9) w.heap.size #[.int .i64 (x1 : Nat), .int .u32 (x2 : Nat), .slice An n cn] (fun a ha => by have := hA9 a ha; omega)
          go_wp2_with first | (refine wpList_load_row rfl 33 (.tmp 7) rfl g8 rfl 33 #[.int .i64 (x1 : Nat), .int .u32 (x2 : Nat), .slice An n cn] (0, 0) _ hr9 Tryz.underlying33 rfl (by kernel_rfl) ?_) | (refine wpList_store_row rfl 33 (.tmp 2) (.tmp 96) rfl rfl w.heap.size rfl #[.int .i64 (x1 : Nat), .int .u32 (x2 : Nat), .slice An n cn] rfl 33 #[.int .i64 0, .int .u32 0, .slice none 0 0] hrow9 (by kernel_rfl) rfl (by simp [Value.oneCell']) ?_)
          exact bodyPost_ret (v := .tuple #[.agg #[.int .i64 (x1 : Nat), .int .u32 (x2 : Nat), .slice An n cn], .int .i64 (14 + 5 * (n : Int) + 4), .int .i64 0]) (results_row_tmp2 (fn := Tryz.f21) (p := 2) (u := 3) (x := 4) (ty := 33) rfl _ _ w.heap.size _ _ _ _ rfl hrow11 Tryz.underlying33 rfl (by kernel_rfl)) rfl ⟨An, cn, by rw [HVL.out, show ((18 + 5 * n : Nat) : Int) = 14 + 5 * (n : Int) + 4 by omega], hs11, by rw [HVL.out]; exact hn1, hn2, hbw11, fun a ha => by have := hA9 a ha; omega⟩
  · have dd : ((S : Int) != (su : Int)) = true := by simp; omega
    obtain rfl : R = (33, 0, 0, 0, []) := by
      rw [HR.out, if_pos (by rw [HS.out, ← HSU.out]; omega)]
    clear HR heq
    have hb' : Below w.heap.size w w0.drew := hb.drew
    have hrow' : w0.drew.heap[w.heap.size]? = some (.cells #[.int .i64 0, .int .u32 0, .slice none 0 0] 33 (0, 0)) := hrow
    refine wp_region_held_drew (S := fun _ => True) (by kernel_rfl) trivial (fun hHeld => ?_)
    refine wpAnyH_takeD (i := 0) (d := some 50) (v := ?v2500) rfl rfl (by kernel_rfl) (by kernel_rfl) (by kernel_rfl) (fun _ _ _ h => h) (Or.inl ⟨by rfl, ?hy2500⟩) hHeld ?rest2500
    case hy2500 =>
      intro wS hS
      go_simp
      all_goals with_reducible rfl
    (try simp only [Act.put, List.setIfInBounds_toArray, List.set_cons_zero, List.set_cons_succ])
    refine wpAnyH_takeD (i := 1) (d := some 51) (v := ?v2601) rfl rfl (by kernel_rfl) (by kernel_rfl) (by kernel_rfl) (fun _ _ _ h => h) (Or.inl ⟨by rfl, ?hy2601⟩) hHeld ?rest2601
    case hy2601 =>
      intro wS hS
      go_simp
      all_goals with_reducible rfl
    (try simp only [Act.put, List.setIfInBounds_toArray, List.set_cons_zero, List.set_cons_succ])
    refine wpAnyH_takeD (i := 2) (d := some 52) (v := ?v2702) rfl rfl (by kernel_rfl) (by kernel_rfl) (by kernel_rfl) (fun _ _ _ h => h) (Or.inl ⟨by rfl, ?hy2702⟩) hHeld ?rest2702
    case hy2702 =>
      intro wS hS
      go_simp
      all_goals with_reducible rfl
    (try simp only [Act.put, List.setIfInBounds_toArray, List.set_cons_zero, List.set_cons_succ])
    refine wpAnyH_takeD (i := 5) (d := some 55) (v := ?v2805) rfl rfl (by kernel_rfl) (by kernel_rfl) (by kernel_rfl) (fun _ _ _ h => h) (Or.inl ⟨by rfl, ?hy2805⟩) hHeld ?rest2805
    case hy2805 =>
      intro wS hS
      go_simp
      all_goals with_reducible rfl
    (try simp only [Act.put, List.setIfInBounds_toArray, List.set_cons_zero, List.set_cons_succ])
    refine wpAnyH_takeD (i := 6) (d := some 56) (v := ?v2906) rfl rfl (by kernel_rfl) (by kernel_rfl) (by kernel_rfl) (fun _ _ _ h => h) (Or.inl ⟨by rfl, ?hy2906⟩) hHeld ?rest2906
    case hy2906 =>
      intro wS hS
      go_simp
      all_goals with_reducible rfl
    (try simp only [Act.put, List.setIfInBounds_toArray, List.set_cons_zero, List.set_cons_succ])
    refine wpAnyH_takeD (i := 7) (d := some 57) (v := ?v3007) rfl rfl (by kernel_rfl) (by kernel_rfl) (by kernel_rfl) (fun _ _ _ h => h) (Or.inl ⟨by rfl, ?hy3007⟩) hHeld ?rest3007
    case hy3007 =>
      intro wS hS
      go_simp
      all_goals with_reducible rfl
    (try simp only [Act.put, List.setIfInBounds_toArray, List.set_cons_zero, List.set_cons_succ])
    refine wpAnyH_takeD (i := 8) (d := some 58) (v := ?v3108) rfl rfl (by kernel_rfl) (by kernel_rfl) (by kernel_rfl) (fun _ _ _ h => h) (Or.inl ⟨by rfl, ?hy3108⟩) hHeld ?rest3108
    case hy3108 =>
      intro wS hS
      go_simp
      all_goals with_reducible rfl
    (try simp only [Act.put, List.setIfInBounds_toArray, List.set_cons_zero, List.set_cons_succ])
    refine wpAnyH_takeD (i := 9) (d := some 59) (v := ?v3209) rfl rfl (by kernel_rfl) (by kernel_rfl) (by kernel_rfl) (fun _ _ _ h => h) (Or.inl ⟨by rfl, ?hy3209⟩) hHeld ?rest3209
    case hy3209 =>
      intro wS hS
      go_simp
      all_goals with_reducible rfl
    (try simp only [Act.put, List.setIfInBounds_toArray, List.set_cons_zero, List.set_cons_succ])
    refine wpAnyH_ready (rs := [3]) (by kernel_rfl) (by simp) (AllReadyH.cons rfl (fun K hK => ?_) AllReadyH.nil)
    rw [if_pos (by rfl)]
    go_simp
    refine (HSUM.out _ hls).mono ?_
    rintro e w3 ⟨rfl, rfl⟩
    go_wp2_with fail
    refine hK.out _ _ trivial (fun hHeld => ?_)
    clear hK K
    (try simp only [Act.put, List.setIfInBounds_toArray, List.set_cons_zero, List.set_cons_succ])
    refine wpAnyH_takeD (i := 4) (d := some 54) (v := ?v3304) rfl rfl (by kernel_rfl) (by kernel_rfl) (by kernel_rfl) (fun _ _ _ h => h) (Or.inl ⟨by rfl, ?hy3304⟩) hHeld ?rest3304
    case hy3304 =>
      intro wS hS
      go_simp
      all_goals with_reducible rfl
    (try simp only [Act.put, List.setIfInBounds_toArray, List.set_cons_zero, List.set_cons_succ])
    refine wpAnyH_ready (rs := [10]) (by kernel_rfl) (by simp) (AllReadyH.cons rfl (fun K hK => ?_) AllReadyH.nil)
    rw [if_pos (by rfl)]
    go_simp
    (try simp only [eA, eB])
    refine (HVS.out _ hlw).mono ?_
    rintro e w3 ⟨rfl, rfl⟩
    go_wp2_with fail
    refine hK.out _ _ trivial (fun hHeld => ?_)
    clear hK K
    (try simp only [Act.put, List.setIfInBounds_toArray, List.set_cons_zero, List.set_cons_succ])
    refine wpAnyH_takeD (i := 11) (d := some 61) (v := ?v3411) rfl rfl (by kernel_rfl) (by kernel_rfl) (by kernel_rfl) (fun _ _ _ h => h) (Or.inl ⟨by rfl, ?hy3411⟩) hHeld ?rest3411
    case hy3411 =>
      intro wS hS
      go_simp
      all_goals with_reducible rfl
    (try simp only [Act.put, List.setIfInBounds_toArray, List.set_cons_zero, List.set_cons_succ])
    refine wpAnyH_done (by kernel_rfl) ?_ _
    go_wp2_with first | (refine wpList_store_row rfl 33 (.tmp 2) (.tmp 62) rfl rfl w.heap.size rfl #[.int .i64 0, .int .u32 0, .slice none 0 0] rfl 33 #[.int .i64 0, .int .u32 0, .slice none 0 0] hrow' (by kernel_rfl) rfl (by simp [Value.oneCell']) ?_)
    exact bodyPost_ret (v := .tuple #[.agg #[.int .i64 0, .int .u32 0, .slice none 0 0], .int .i64 0, .int .i64 33]) (results_row_tmp2 (fn := Tryz.f21) (p := 2) (u := 3) (x := 4) (ty := 33) rfl _ _ w.heap.size _ _ _ _ rfl (setRow_heap _ _ _ _ _ _ hrow') Tryz.underlying33 rfl (by kernel_rfl)) rfl ⟨none, 0, rfl, Sees.nil _ _, Nat.le_refl _, Nat.zero_le _, below_setRow hb' (Nat.le_refl _) _, fun a ha => by cases ha⟩
end Go.Proofs.YtkmhmehofipehaaGreatDoor
