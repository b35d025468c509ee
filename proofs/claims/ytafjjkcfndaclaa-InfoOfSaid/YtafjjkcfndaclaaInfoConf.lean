/- Which settings may be: the program's table. -/
import Derived.Test.YtafjjkcfndaclaaInfoRight
import Derived.Test.YtafjjkcfndaclaaRes
import Derived.Deep.DeepCutAuto
namespace Go.Proofs.Ytafjjkcfndaclaa
set_option linter.unusedVariables false
open Go.RowKit
theorem wpList_build {P : Program} {ops : Array Oper} {rest : List Oper} {o : Oper} {a : Act} {w : World} {Q : Exit → Act → World → Prop} (hgd : o.guard = none) (ty : TypeId) (fs : Array (Nat × Operand)) (ho : o.op = .build ty fs) (v : Value)
    (hv : (execOp a.eval o).run P w = .ok (.value v) w) (h : wpList P ops Q rest (a.put o.dst v) w) : wpList P ops Q (o :: rest) a w :=
  wpList_plain hgd fun _ hK => by
    unfold Oper.wp
    rw [hv]
    exact hK _ _ h
def rightC (blk ord win shp tgt res : Int) : Bool := decide ((256 ≤ blk ∧ blk ≤ 65536) ∧ (0 ≤ ord ∧ ord ≤ 32) ∧ (0 ≤ win ∧ win ≤ 2) ∧ (0 ≤ shp ∧ shp ≤ 3) ∧ (1 ≤ tgt ∧ tgt ≤ 1073741824) ∧ (0 ≤ res ∧ res ≤ 1073741824))
def codeC (blk ord win shp tgt res : Int) : Int := if rightC blk ord win shp tgt res = true then 0 else 23
def inC (blk ord win shp tgt res : Int) (n : Nat) : Prop := (0 < n → (256 ≤ blk ∧ blk ≤ 65536)) ∧ (1 < n → (0 ≤ ord ∧ ord ≤ 32)) ∧ (2 < n → (0 ≤ win ∧ win ≤ 2)) ∧ (3 < n → (0 ≤ shp ∧ shp ≤ 3)) ∧ (4 < n → (1 ≤ tgt ∧ tgt ≤ 1073741824)) ∧ (5 < n → (0 ≤ res ∧ res ≤ 1073741824))
set_option maxRecDepth 20000 in
set_option maxHeartbeats 4000000 in
theorem config_any (blk ord win shp tgt res : Int) (w : World) :
    Calls Try.prog 19 #[.agg #[.int .i64 blk, .int .i64 ord, .int .i64 win, .int .i64 shp, .int .i64 tgt, .int .i64 res]] w fun e w' => e = .returned (.int .i64 (codeC blk ord win shp tgt res)) ∧ Below w.heap.size w w' := by
  have hb : Below w.heap.size w (w.alloc (.cells #[.int .i64 blk, .int .i64 ord, .int .i64 win, .int .i64 shp, .int .i64 tgt, .int .i64 res] 37)) := (Below.refl _ w).alloc (Nat.le_refl _) _
  have hrow := heap_alloc_new w (.cells #[.int .i64 blk, .int .i64 ord, .int .i64 win, .int .i64 shp, .int .i64 tgt, .int .i64 res] 37)
  go_enter Try.func19, Try.ntmps19
  go_upto_region 1 with (fail)
  generalize w.alloc (.cells #[.int .i64 blk, .int .i64 ord, .int .i64 win, .int .i64 shp, .int .i64 tgt, .int .i64 res] 37) = w0 at *
  have c0 : w0.cell? ⟨w.heap.size, 0, none⟩ = some (.int .i64 blk) := by rw [cell_of_row _ _ _ _ _ _ hrow]; rfl
  have c1 : w0.cell? ⟨w.heap.size, 1, none⟩ = some (.int .i64 ord) := by rw [cell_of_row _ _ _ _ _ _ hrow]; rfl
  have c2 : w0.cell? ⟨w.heap.size, 2, none⟩ = some (.int .i64 win) := by rw [cell_of_row _ _ _ _ _ _ hrow]; rfl
  have c3 : w0.cell? ⟨w.heap.size, 3, none⟩ = some (.int .i64 shp) := by rw [cell_of_row _ _ _ _ _ _ hrow]; rfl
  have c4 : w0.cell? ⟨w.heap.size, 4, none⟩ = some (.int .i64 tgt) := by rw [cell_of_row _ _ _ _ _ _ hrow]; rfl
  have c5 : w0.cell? ⟨w.heap.size, 5, none⟩ = some (.int .i64 res) := by rw [cell_of_row _ _ _ _ _ _ hrow]; rfl
  have i0 : ∀ w, (Instr.index 65 (.agg #[.int .i64 blk, .int .i64 256, .int .i64 65536, .int .i64 ord, .int .i64 0, .int .i64 32, .int .i64 win, .int .i64 0, .int .i64 2, .int .i64 shp, .int .i64 0, .int .i64 3, .int .i64 tgt, .int .i64 1, .int .i64 1073741824, .int .i64 res, .int .i64 0, .int .i64 1073741824]) (.int .i64 0)).run Try.prog w = .ok (.agg #[.int .i64 blk, .int .i64 256, .int .i64 65536]) w := fun _ => by kernel_rfl
  have i1 : ∀ w, (Instr.index 65 (.agg #[.int .i64 blk, .int .i64 256, .int .i64 65536, .int .i64 ord, .int .i64 0, .int .i64 32, .int .i64 win, .int .i64 0, .int .i64 2, .int .i64 shp, .int .i64 0, .int .i64 3, .int .i64 tgt, .int .i64 1, .int .i64 1073741824, .int .i64 res, .int .i64 0, .int .i64 1073741824]) (.int .i64 1)).run Try.prog w = .ok (.agg #[.int .i64 ord, .int .i64 0, .int .i64 32]) w := fun _ => by kernel_rfl
  have i2 : ∀ w, (Instr.index 65 (.agg #[.int .i64 blk, .int .i64 256, .int .i64 65536, .int .i64 ord, .int .i64 0, .int .i64 32, .int .i64 win, .int .i64 0, .int .i64 2, .int .i64 shp, .int .i64 0, .int .i64 3, .int .i64 tgt, .int .i64 1, .int .i64 1073741824, .int .i64 res, .int .i64 0, .int .i64 1073741824]) (.int .i64 2)).run Try.prog w = .ok (.agg #[.int .i64 win, .int .i64 0, .int .i64 2]) w := fun _ => by kernel_rfl
  have i3 : ∀ w, (Instr.index 65 (.agg #[.int .i64 blk, .int .i64 256, .int .i64 65536, .int .i64 ord, .int .i64 0, .int .i64 32, .int .i64 win, .int .i64 0, .int .i64 2, .int .i64 shp, .int .i64 0, .int .i64 3, .int .i64 tgt, .int .i64 1, .int .i64 1073741824, .int .i64 res, .int .i64 0, .int .i64 1073741824]) (.int .i64 3)).run Try.prog w = .ok (.agg #[.int .i64 shp, .int .i64 0, .int .i64 3]) w := fun _ => by kernel_rfl
  have i4 : ∀ w, (Instr.index 65 (.agg #[.int .i64 blk, .int .i64 256, .int .i64 65536, .int .i64 ord, .int .i64 0, .int .i64 32, .int .i64 win, .int .i64 0, .int .i64 2, .int .i64 shp, .int .i64 0, .int .i64 3, .int .i64 tgt, .int .i64 1, .int .i64 1073741824, .int .i64 res, .int .i64 0, .int .i64 1073741824]) (.int .i64 4)).run Try.prog w = .ok (.agg #[.int .i64 tgt, .int .i64 1, .int .i64 1073741824]) w := fun _ => by kernel_rfl
  have i5 : ∀ w, (Instr.index 65 (.agg #[.int .i64 blk, .int .i64 256, .int .i64 65536, .int .i64 ord, .int .i64 0, .int .i64 32, .int .i64 win, .int .i64 0, .int .i64 2, .int .i64 shp, .int .i64 0, .int .i64 3, .int .i64 tgt, .int .i64 1, .int .i64 1073741824, .int .i64 res, .int .i64 0, .int .i64 1073741824]) (.int .i64 5)).run Try.prog w = .ok (.agg #[.int .i64 res, .int .i64 0, .int .i64 1073741824]) w := fun _ => by kernel_rfl
  have hz := heap_alloc_new w0 (.cells #[.int .i64 0, .int .i64 0, .int .i64 0, .int .i64 0, .int .i64 0, .int .i64 0, .int .i64 0, .int .i64 0, .int .i64 0, .int .i64 0, .int .i64 0, .int .i64 0, .int .i64 0, .int .i64 0, .int .i64 0, .int .i64 0, .int .i64 0, .int .i64 0] 65)
  have hrow2 := setRow_heap _ _ _ #[.int .i64 blk, .int .i64 256, .int .i64 65536, .int .i64 ord, .int .i64 0, .int .i64 32, .int .i64 win, .int .i64 0, .int .i64 2, .int .i64 shp, .int .i64 0, .int .i64 3, .int .i64 tgt, .int .i64 1, .int .i64 1073741824, .int .i64 res, .int .i64 0, .int .i64 1073741824] _ _ hz
  have hb1 : Below w.heap.size w ((w0.alloc (.cells #[.int .i64 0, .int .i64 0, .int .i64 0, .int .i64 0, .int .i64 0, .int .i64 0, .int .i64 0, .int .i64 0, .int .i64 0, .int .i64 0, .int .i64 0, .int .i64 0, .int .i64 0, .int .i64 0, .int .i64 0, .int .i64 0, .int .i64 0, .int .i64 0] 65)).setRow w0.heap.size #[.int .i64 blk, .int .i64 256, .int .i64 65536, .int .i64 ord, .int .i64 0, .int .i64 32, .int .i64 win, .int .i64 0, .int .i64 2, .int .i64 shp, .int .i64 0, .int .i64 3, .int .i64 tgt, .int .i64 1, .int .i64 1073741824, .int .i64 res, .int .i64 0, .int .i64 1073741824]) := below_setRow (hb.alloc hb.size _) hb.size _
  clear hrow
  go_wp2_with first
    | (refine wpList_build rfl 65 _ rfl (.agg #[.int .i64 blk, .int .i64 256, .int .i64 65536, .int .i64 ord, .int .i64 0, .int .i64 32, .int .i64 win, .int .i64 0, .int .i64 2, .int .i64 shp, .int .i64 0, .int .i64 3, .int .i64 tgt, .int .i64 1, .int .i64 1073741824, .int .i64 res, .int .i64 0, .int .i64 1073741824]) (by kernel_rfl) ?_)
    | (refine wpList_store_row rfl 65 (.tmp 3) (.tmp 24) rfl rfl w0.heap.size rfl #[.int .i64 blk, .int .i64 256, .int .i64 65536, .int .i64 ord, .int .i64 0, .int .i64 32, .int .i64 win, .int .i64 0, .int .i64 2, .int .i64 shp, .int .i64 0, .int .i64 3, .int .i64 tgt, .int .i64 1, .int .i64 1073741824, .int .i64 res, .int .i64 0, .int .i64 1073741824] rfl 65 #[.int .i64 0, .int .i64 0, .int .i64 0, .int .i64 0, .int .i64 0, .int .i64 0, .int .i64 0, .int .i64 0, .int .i64 0, .int .i64 0, .int .i64 0, .int .i64 0, .int .i64 0, .int .i64 0, .int .i64 0, .int .i64 0, .int .i64 0, .int .i64 0] hz (by kernel_rfl) rfl (by simp [Value.oneCell']) ?_)
    | (refine wpList_load_row rfl 65 (.tmp 3) rfl w0.heap.size rfl 65 #[.int .i64 blk, .int .i64 256, .int .i64 65536, .int .i64 ord, .int .i64 0, .int .i64 32, .int .i64 win, .int .i64 0, .int .i64 2, .int .i64 shp, .int .i64 0, .int .i64 3, .int .i64 tgt, .int .i64 1, .int .i64 1073741824, .int .i64 res, .int .i64 0, .int .i64 1073741824] (0, 0) _ hrow2 Try.underlying65 rfl (by kernel_rfl) ?_)
  generalize (w0.alloc (.cells #[.int .i64 0, .int .i64 0, .int .i64 0, .int .i64 0, .int .i64 0, .int .i64 0, .int .i64 0, .int .i64 0, .int .i64 0, .int .i64 0, .int .i64 0, .int .i64 0, .int .i64 0, .int .i64 0, .int .i64 0, .int .i64 0, .int .i64 0, .int .i64 0] 65)).setRow w0.heap.size #[.int .i64 blk, .int .i64 256, .int .i64 65536, .int .i64 ord, .int .i64 0, .int .i64 32, .int .i64 win, .int .i64 0, .int .i64 2, .int .i64 shp, .int .i64 0, .int .i64 3, .int .i64 tgt, .int .i64 1, .int .i64 1073741824, .int .i64 res, .int .i64 0, .int .i64 1073741824] = w2 at *
  clear hz hrow2 hb c0 c1 c2 c3 c4 c5
  go_loopw [5, 26] (fun p i wr => ∃ n : Nat, n ≤ 6 ∧ i = .int .i64 n ∧ Hid (inC blk ord win shp tgt res n) ∧ Below w.heap.size w wr) (fun _ i _ => 6 - (intOf i).toNat)
  case atStart => exact ⟨0, by omega, rfl, hid ⟨by omega, by omega, by omega, by omega, by omega, by omega⟩, hb1⟩
  case round =>
    clear hb1
    obtain ⟨n, hn, rfl, hP, hbw⟩ := hrel
    have hcase : n = 0 ∨ n = 1 ∨ n = 2 ∨ n = 3 ∨ n = 4 ∨ n = 5 ∨ n = 6 := by omega
    rcases hcase with hh | hh | hh | hh | hh | hh | hh
    · subst hh
      have hb3 : Below wr.heap.size wr (wr.alloc (.cells #[.int .i64 blk, .int .i64 256, .int .i64 65536] 64)) := (Below.refl _ _).alloc (Nat.le_refl _) _
      have hbw3 := hbw.trans (hb3.mono hbw.size)
      clear hb3
      cases hx : decide (256 ≤ blk ∧ blk ≤ 65536) with
      | false =>
        go_wp2_with fail
        generalize wr.alloc (.cells #[.int .i64 blk, .int .i64 256, .int .i64 65536] 64) = w3 at *
        refine (iwithin_any _ _ _ false _ hx).mono ?_
        rintro e w4 ⟨rfl, rfl⟩
        go_wp2_with fail
        go_ret
        exact ⟨ret_int (by unfold codeC rightC; rw [if_neg]; have := of_decide_eq_false hx; simp; omega), hbw3⟩
      | true =>
        go_wp2_with fail
        generalize wr.alloc (.cells #[.int .i64 blk, .int .i64 256, .int .i64 65536] 64) = w3 at *
        refine (iwithin_any _ _ _ true _ hx).mono ?_
        rintro e w4 ⟨rfl, rfl⟩
        go_wp2_with fail
        go_roundw
        case rel => exact ⟨1, by omega, by go_num, hid (by have := of_decide_eq_true hx; have := hP.out; unfold inC at *; omega), hbw3⟩
        case measure => simp [intOf]
    · subst hh
      have hb3 : Below wr.heap.size wr (wr.alloc (.cells #[.int .i64 ord, .int .i64 0, .int .i64 32] 64)) := (Below.refl _ _).alloc (Nat.le_refl _) _
      have hbw3 := hbw.trans (hb3.mono hbw.size)
      clear hb3
      cases hx : decide (0 ≤ ord ∧ ord ≤ 32) with
      | false =>
        go_wp2_with fail
        generalize wr.alloc (.cells #[.int .i64 ord, .int .i64 0, .int .i64 32] 64) = w3 at *
        refine (iwithin_any _ _ _ false _ hx).mono ?_
        rintro e w4 ⟨rfl, rfl⟩
        go_wp2_with fail
        go_ret
        exact ⟨ret_int (by unfold codeC rightC; rw [if_neg]; have := of_decide_eq_false hx; simp; omega), hbw3⟩
      | true =>
        go_wp2_with fail
        generalize wr.alloc (.cells #[.int .i64 ord, .int .i64 0, .int .i64 32] 64) = w3 at *
        refine (iwithin_any _ _ _ true _ hx).mono ?_
        rintro e w4 ⟨rfl, rfl⟩
        go_wp2_with fail
        go_roundw
        case rel => exact ⟨2, by omega, by go_num, hid (by have := of_decide_eq_true hx; have := hP.out; unfold inC at *; omega), hbw3⟩
        case measure => simp [intOf]
    · subst hh
      have hb3 : Below wr.heap.size wr (wr.alloc (.cells #[.int .i64 win, .int .i64 0, .int .i64 2] 64)) := (Below.refl _ _).alloc (Nat.le_refl _) _
      have hbw3 := hbw.trans (hb3.mono hbw.size)
      clear hb3
      cases hx : decide (0 ≤ win ∧ win ≤ 2) with
      | false =>
        go_wp2_with fail
        generalize wr.alloc (.cells #[.int .i64 win, .int .i64 0, .int .i64 2] 64) = w3 at *
        refine (iwithin_any _ _ _ false _ hx).mono ?_
        rintro e w4 ⟨rfl, rfl⟩
        go_wp2_with fail
        go_ret
        exact ⟨ret_int (by unfold codeC rightC; rw [if_neg]; have := of_decide_eq_false hx; simp; omega), hbw3⟩
      | true =>
        go_wp2_with fail
        generalize wr.alloc (.cells #[.int .i64 win, .int .i64 0, .int .i64 2] 64) = w3 at *
        refine (iwithin_any _ _ _ true _ hx).mono ?_
        rintro e w4 ⟨rfl, rfl⟩
        go_wp2_with fail
        go_roundw
        case rel => exact ⟨3, by omega, by go_num, hid (by have := of_decide_eq_true hx; have := hP.out; unfold inC at *; omega), hbw3⟩
        case measure => simp [intOf]
    · subst hh
      have hb3 : Below wr.heap.size wr (wr.alloc (.cells #[.int .i64 shp, .int .i64 0, .int .i64 3] 64)) := (Below.refl _ _).alloc (Nat.le_refl _) _
      have hbw3 := hbw.trans (hb3.mono hbw.size)
      clear hb3
      cases hx : decide (0 ≤ shp ∧ shp ≤ 3) with
      | false =>
        go_wp2_with fail
        generalize wr.alloc (.cells #[.int .i64 shp, .int .i64 0, .int .i64 3] 64) = w3 at *
        refine (iwithin_any _ _ _ false _ hx).mono ?_
        rintro e w4 ⟨rfl, rfl⟩
        go_wp2_with fail
        go_ret
        exact ⟨ret_int (by unfold codeC rightC; rw [if_neg]; have := of_decide_eq_false hx; simp; omega), hbw3⟩
      | true =>
        go_wp2_with fail
        generalize wr.alloc (.cells #[.int .i64 shp, .int .i64 0, .int .i64 3] 64) = w3 at *
        refine (iwithin_any _ _ _ true _ hx).mono ?_
        rintro e w4 ⟨rfl, rfl⟩
        go_wp2_with fail
        go_roundw
        case rel => exact ⟨4, by omega, by go_num, hid (by have := of_decide_eq_true hx; have := hP.out; unfold inC at *; omega), hbw3⟩
        case measure => simp [intOf]
    · subst hh
      have hb3 : Below wr.heap.size wr (wr.alloc (.cells #[.int .i64 tgt, .int .i64 1, .int .i64 1073741824] 64)) := (Below.refl _ _).alloc (Nat.le_refl _) _
      have hbw3 := hbw.trans (hb3.mono hbw.size)
      clear hb3
      cases hx : decide (1 ≤ tgt ∧ tgt ≤ 1073741824) with
      | false =>
        go_wp2_with fail
        generalize wr.alloc (.cells #[.int .i64 tgt, .int .i64 1, .int .i64 1073741824] 64) = w3 at *
        refine (iwithin_any _ _ _ false _ hx).mono ?_
        rintro e w4 ⟨rfl, rfl⟩
        go_wp2_with fail
        go_ret
        exact ⟨ret_int (by unfold codeC rightC; rw [if_neg]; have := of_decide_eq_false hx; simp; omega), hbw3⟩
      | true =>
        go_wp2_with fail
        generalize wr.alloc (.cells #[.int .i64 tgt, .int .i64 1, .int .i64 1073741824] 64) = w3 at *
        refine (iwithin_any _ _ _ true _ hx).mono ?_
        rintro e w4 ⟨rfl, rfl⟩
        go_wp2_with fail
        go_roundw
        case rel => exact ⟨5, by omega, by go_num, hid (by have := of_decide_eq_true hx; have := hP.out; unfold inC at *; omega), hbw3⟩
        case measure => simp [intOf]
    · subst hh
      have hb3 : Below wr.heap.size wr (wr.alloc (.cells #[.int .i64 res, .int .i64 0, .int .i64 1073741824] 64)) := (Below.refl _ _).alloc (Nat.le_refl _) _
      have hbw3 := hbw.trans (hb3.mono hbw.size)
      clear hb3
      cases hx : decide (0 ≤ res ∧ res ≤ 1073741824) with
      | false =>
        go_wp2_with fail
        generalize wr.alloc (.cells #[.int .i64 res, .int .i64 0, .int .i64 1073741824] 64) = w3 at *
        refine (iwithin_any _ _ _ false _ hx).mono ?_
        rintro e w4 ⟨rfl, rfl⟩
        go_wp2_with fail
        go_ret
        exact ⟨ret_int (by unfold codeC rightC; rw [if_neg]; have := of_decide_eq_false hx; simp; omega), hbw3⟩
      | true =>
        go_wp2_with fail
        generalize wr.alloc (.cells #[.int .i64 res, .int .i64 0, .int .i64 1073741824] 64) = w3 at *
        refine (iwithin_any _ _ _ true _ hx).mono ?_
        rintro e w4 ⟨rfl, rfl⟩
        go_wp2_with fail
        go_roundw
        case rel => exact ⟨6, by omega, by go_num, hid (by have := of_decide_eq_true hx; have := hP.out; unfold inC at *; omega), hbw3⟩
        case measure => simp [intOf]
    · subst hh
      go_wp2_with fail
      go_ret
      exact ⟨ret_int (by unfold codeC rightC; rw [if_pos]; have := hP.out; unfold inC at this; simp; omega), hbw⟩
end Go.Proofs.Ytafjjkcfndaclaa
