/- Small general lemmas, used in all texts. -/
import Derived.WalkKit
import Derived.StillTailTactics
import Derived.Tactics
import Derived.Laws.Tables
import Derived.Laws.Rows
import Derived.Laws.CopyOwn
import Derived.OwnWalk
import Derived.Test.YtkmhmehofipehaaGreatDoorProg
import Derived.Deep.QuietTactic
import Derived.BigQuiet
import Derived.Lib.ConvBytes
import Derived.Laws.IdiomStrings
import Derived.Laws.BytesArg
import Derived.Maps.AppendAt
import Derived.Deep.AppendLies
import Derived.RegionTactic
namespace Go.Proofs.YtkmhmehofipehaaGreatDoor
set_option linter.unusedVariables false
open Go.RowKit
theorem hid {p : Prop} (h : p) : Hid p := h

theorem same {P : Program} {f : FuncId} {args : Array Value} {w : World} {v : Value} (h : Calls P f args w fun e w' => e = .returned v ∧ w = w') :
    Calls P f args w fun e w' => e = .returned v ∧ w' = w := h.mono fun _ _ ⟨a, b⟩ => ⟨a, b.symm⟩
theorem ret_bool {a b : Bool} (h : a = b) : Ending.returned (.bool a) = .returned (.bool b) := by rw [h]
theorem ret_int {k : IntKind} {a b : Int} (h : a = b) : Ending.returned (.int k a) = .returned (.int k b) := by rw [h]
theorem addr_block (a : Addr) (n : Nat) : (a.add n).block = a.block := by unfold Addr.add; split <;> rfl
theorem addr_add (a : Addr) (i j : Nat) : (a.add i).add j = a.add (i + j) := by
  unfold Addr.add
  by_cases hi : i = 0 <;> by_cases hj : j = 0 <;> simp [hi, hj, Nat.add_assoc]

/-- a slice that begins at A reads as the values xs -/
def Sees (w : World) (A : Option Addr) (xs : List Value) : Prop :=
  ∀ (i : Nat) (v : Value), xs[i]? = some v → ∃ a, A = some a ∧ w.cell? (a.add i) = some v
/-- worlds that agree on all blocks that were there -/
def Keeps (w w' : World) : Prop := ∀ b, b < w.heap.size → w'.heap[b]? = w.heap[b]?
theorem Sees.keep {w w' : World} {A : Option Addr} {xs : List Value} (h : Sees w A xs) (hk : Keeps w w') : Sees w' A xs := by
  intro i v hv
  obtain ⟨a, ha, hc⟩ := h i v hv
  have hlt := block_lt_of_cell hc
  exact ⟨a, ha, (World.cell?_of_block (w := w) (hk _ hlt)).trans hc⟩
theorem Sees.below {w w' : World} {A : Option Addr} {xs : List Value} (h : Sees w A xs) (hk : Below w.heap.size w w') : Sees w' A xs := h.keep hk.block
theorem Sees.nil (w : World) (A : Option Addr) : Sees w A [] := fun i v h => by simp at h
theorem Sees.take {w : World} {A : Option Addr} {xs : List Value} (h : Sees w A xs) (n : Nat) : Sees w A (xs.take n) := by
  intro i v hv
  have hin : i < n := by
    rcases Nat.lt_or_ge i n with h1 | h1
    · exact h1
    · rw [List.getElem?_eq_none (by simp; omega)] at hv; cases hv
  rw [List.getElem?_take_of_lt hin] at hv
  exact h _ v hv

/-- a byte as a value -/
def byteV (b : UInt8) : Value := .int .u8 (b.toNat : Int)
/-- a slice that begins at A reads as these bytes -/
def SeesB (w : World) (A : Option Addr) (l : List UInt8) : Prop := Sees w A (l.map byteV)
theorem SeesB.at {w : World} {A : Option Addr} {l : List UInt8} (h : SeesB w A l) {i : Nat} (hi : i < l.length) :
    ∃ a, A = some a ∧ w.cell? (a.add i) = some (.int .u8 (l[i].toNat : Int)) := h i _ (by simp [hi, byteV])
theorem SeesB.below {w w' : World} {A : Option Addr} {l : List UInt8} (h : SeesB w A l) (hk : Below w.heap.size w w') : SeesB w' A l := Sees.below h hk
theorem Sees.of_block {w : World} {g : Nat} {cs : Array Value} {t : TypeId} {fr : Nat × Nat} (h : w.heap[g]? = some (.cells cs t fr)) {xs : List Value} (hx : cs.toList = xs) : Sees w (some ⟨g, 0, none⟩) xs := by
  intro i v hv
  refine ⟨_, rfl, ?_⟩
  have e : (Addr.add ⟨g, 0, none⟩ i) = ⟨g, i, none⟩ := by unfold Addr.add; split <;> simp_all
  rw [e, cell_of_row w g i cs t fr h, ← Array.getElem?_toList, hx]; exact hv
theorem Sees.of_alloc (w : World) (cs : Array Value) (t : TypeId) {xs : List Value} (hx : cs.toList = xs) : Sees (w.alloc (.cells cs t)) (some ⟨w.heap.size, 0, none⟩) xs :=
  Sees.of_block (heap_alloc_new w _) hx
theorem byte_lt (b : UInt8) : (b.toNat : Int) < 256 := by have := b.toNat_lt; omega
section
variable {P : Program}
/-- a whole struct or array laid into a block of its size -/
theorem wp_store_row {o : Oper} {a : Act} {w : World} {K : Act → World → Prop} {Q : Exit → Act → World → Prop} (ty : TypeId) (x y : Operand) (ho : o.op = .store ty x y) (hd : o.dst = none)
    (g : Nat) (hx : a.eval x = .pointer (some ⟨g, 0, none⟩)) (cs : Array Value) (hy : a.eval y = .agg cs) (t : TypeId) (cur : Array Value) (hg : w.heap[g]? = some (.cells cur t (0, 0)))
    (hi : (P.info? ty).map (·.size) = some cs.size) (hs : cur.size = cs.size) (h1 : cs.all (·.oneCell') = true)
    (h : K a (w.setRow g cs)) : o.wp P a w K Q := by
  have hr := run_storeVar_row (P := P) w g t ty cur cs hg hi hs h1
  unfold Oper.wp execOp
  simp only [ho, hx, hy, Instr.storeAt, Instr.sureAddr, Sem.run_bind, Sem.run_pure, Result.andThen_ok, hr]
  have e : ∀ v, a.put o.dst v = a := by intro v; rw [hd]; rfl
  simp only [Oper.upon, e]
  exact h
theorem wpList_store_row {ops : Array Oper} {rest : List Oper} {o : Oper} {a : Act} {w : World} {Q : Exit → Act → World → Prop} (hgd : o.guard = none) (ty : TypeId) (x y : Operand) (ho : o.op = .store ty x y) (hd : o.dst = none)
    (g : Nat) (hx : a.eval x = .pointer (some ⟨g, 0, none⟩)) (cs : Array Value) (hy : a.eval y = .agg cs) (t : TypeId) (cur : Array Value) (hg : w.heap[g]? = some (.cells cur t (0, 0)))
    (hi : (P.info? ty).map (·.size) = some cs.size) (hs : cur.size = cs.size) (h1 : cs.all (·.oneCell') = true)
    (h : wpList P ops Q rest a (w.setRow g cs)) : wpList P ops Q (o :: rest) a w :=
  wpList_plain hgd fun _ hK => wp_store_row ty x y ho hd g hx cs hy t cur hg hi hs h1 (hK _ _ h)
end
end Go.Proofs.YtkmhmehofipehaaGreatDoor
/- Which format, and which info, may be. -/
namespace Go.Proofs.YtkmhmehofipehaaGreatDoor
set_option linter.unusedVariables false
open Go.RowKit
def rightF (ch bi ra : Int) : Bool := decide ((1 ≤ ch ∧ ch ≤ 8) ∧ (8 ≤ bi ∧ bi ≤ 24) ∧ (1 ≤ ra ∧ ra ≤ 1048575))
set_option maxHeartbeats 400000 in
theorem pwithin_any (x lo hi : Int) (b : Bool) (w : World) (h : decide (lo ≤ x ∧ x ≤ hi) = b) :
    Calls Tryz.prog 101 #[.int .i64 x, .int .i64 lo, .int .i64 hi] w fun e w' => e = .returned (.bool b) ∧ w = w' := by
  subst h
  by_cases h1 : lo ≤ x
  · have d1 : decide (lo ≤ x) = true := by simpa using h1
    by_cases h2 : x ≤ hi
    · have d2 : decide (x ≤ hi) = true := by simpa using h2
      go_enter Tryz.func101, Tryz.ntmps101
      go_wp2_with fail
      go_ret
      exact ⟨ret_bool (by simp [h1, h2]), rfl⟩
    · have d2 : decide (x ≤ hi) = false := by simpa using h2
      go_enter Tryz.func101, Tryz.ntmps101
      go_wp2_with fail
      go_ret
      exact ⟨ret_bool (by simp), rfl⟩
  · have d1 : decide (lo ≤ x) = false := by simpa using h1
    go_enter Tryz.func101, Tryz.ntmps101
    go_wp2_with fail
    go_ret
    exact ⟨ret_bool (by simp), rfl⟩
set_option maxHeartbeats 1000000 in
theorem pright_any (ch bi ra : Int) (w : World) :
    Calls Tryz.prog 86 #[.agg #[.int .i64 ch, .int .i64 bi, .int .i64 ra]] w fun e w' => e = .returned (.bool (rightF ch bi ra)) ∧ Below w.heap.size w w' := by
  have hb : Below w.heap.size w (w.alloc (.cells #[.int .i64 ch, .int .i64 bi, .int .i64 ra] 25)) := (Below.refl _ w).alloc (Nat.le_refl _) _
  by_cases h1 : 1 ≤ ch ∧ ch ≤ 8
  · by_cases h2 : 8 ≤ bi ∧ bi ≤ 24
    · go_enter Tryz.func86, Tryz.ntmps86
      go_wp2_with fail
      refine (pwithin_any ch 1 8 true _ (by simpa using h1)).mono ?_
      rintro e w' ⟨rfl, rfl⟩
      go_wp2_with fail
      refine (pwithin_any bi 8 24 true _ (by simpa using h2)).mono ?_
      rintro e w' ⟨rfl, rfl⟩
      go_wp2_with fail
      refine (pwithin_any ra 1 1048575 _ _ rfl).mono ?_
      rintro e w' ⟨rfl, rfl⟩
      go_wp2_with fail
      go_ret
      exact ⟨ret_bool (by simp [rightF, h1, h2]), hb⟩
    · go_enter Tryz.func86, Tryz.ntmps86
      go_wp2_with fail
      refine (pwithin_any ch 1 8 true _ (by simpa using h1)).mono ?_
      rintro e w' ⟨rfl, rfl⟩
      go_wp2_with fail
      refine (pwithin_any bi 8 24 false _ (decide_eq_false h2)).mono ?_
      rintro e w' ⟨rfl, rfl⟩
      go_wp2_with fail
      go_ret
      exact ⟨ret_bool (decide_eq_false (by omega)).symm, hb⟩
  · go_enter Tryz.func86, Tryz.ntmps86
    go_wp2_with fail
    refine (pwithin_any ch 1 8 false _ (decide_eq_false h1)).mono ?_
    rintro e w' ⟨rfl, rfl⟩
    go_wp2_with fail
    go_ret
    exact ⟨ret_bool (decide_eq_false (by omega)).symm, hb⟩
set_option maxHeartbeats 2000000 in
theorem rpright_any (ch bi ra : Int) (w : World) :
    Calls Tryz.prog 68 #[.agg #[.int .i64 ch, .int .i64 bi, .int .i64 ra]] w fun e w' => e = .returned (.bool (rightF ch bi ra)) ∧ Below w.heap.size w w' := by
  have hb : Below w.heap.size w (w.alloc (.cells #[.int .i64 ch, .int .i64 bi, .int .i64 ra] 25)) := (Below.refl _ w).alloc (Nat.le_refl _) _
  by_cases h1 : ¬ 1 ≤ ch
  · have d1 : decide (1 ≤ ch) = false := by simpa using h1
    go_enter Tryz.func68, Tryz.ntmps68
    go_wp2_with fail
    go_ret
    exact ⟨ret_bool (decide_eq_false (by omega)).symm, hb⟩
  replace h1 := Decidable.not_not.1 h1
  have d1 : decide (1 ≤ ch) = true := by simpa using h1
  by_cases h2 : ¬ ch ≤ 8
  · have d2 : decide (ch ≤ 8) = false := by simpa using h2
    go_enter Tryz.func68, Tryz.ntmps68
    go_wp2_with fail
    go_ret
    exact ⟨ret_bool (decide_eq_false (by omega)).symm, hb⟩
  replace h2 := Decidable.not_not.1 h2
  have d2 : decide (ch ≤ 8) = true := by simpa using h2
  by_cases h3 : ¬ 8 ≤ bi
  · have d3 : decide (8 ≤ bi) = false := by simpa using h3
    go_enter Tryz.func68, Tryz.ntmps68
    go_wp2_with fail
    go_ret
    exact ⟨ret_bool (decide_eq_false (by omega)).symm, hb⟩
  replace h3 := Decidable.not_not.1 h3
  have d3 : decide (8 ≤ bi) = true := by simpa using h3
  by_cases h4 : ¬ bi ≤ 24
  · have d4 : decide (bi ≤ 24) = false := by simpa using h4
    go_enter Tryz.func68, Tryz.ntmps68
    go_wp2_with fail
    go_ret
    exact ⟨ret_bool (decide_eq_false (by omega)).symm, hb⟩
  replace h4 := Decidable.not_not.1 h4
  have d4 : decide (bi ≤ 24) = true := by simpa using h4
  by_cases h5 : ¬ 1 ≤ ra
  · have d5 : decide (1 ≤ ra) = false := by simpa using h5
    go_enter Tryz.func68, Tryz.ntmps68
    go_wp2_with fail
    go_ret
    exact ⟨ret_bool (decide_eq_false (by omega)).symm, hb⟩
  replace h5 := Decidable.not_not.1 h5
  have d5 : decide (1 ≤ ra) = true := by simpa using h5
  by_cases h6 : ra ≤ 1048575
  · have d6 : decide (ra ≤ 1048575) = true := by simpa using h6
    go_enter Tryz.func68, Tryz.ntmps68
    go_wp2_with fail
    go_ret
    exact ⟨ret_bool (decide_eq_true ⟨⟨h1, h2⟩, ⟨h3, h4⟩, h5, h6⟩).symm, hb⟩
  · have d6 : decide (ra ≤ 1048575) = false := by simpa using h6
    go_enter Tryz.func68, Tryz.ntmps68
    go_wp2_with fail
    go_ret
    exact ⟨ret_bool (decide_eq_false (by omega)).symm, hb⟩
end Go.Proofs.YtkmhmehofipehaaGreatDoor
/- Which info may be. -/
namespace Go.Proofs.YtkmhmehofipehaaGreatDoor
set_option linter.unusedVariables false
open Go.RowKit
def rightI (k ch bi ra bl sh : Int) : Bool := decide ((1 ≤ k ∧ k ≤ 3) ∧ rightF ch bi ra = true ∧ (256 ≤ bl ∧ bl ≤ 65536) ∧ (0 ≤ sh ∧ sh ≤ 3) ∧ (k = 3 → sh = 0))
set_option maxHeartbeats 400000 in
theorem iwithin_any (x lo hi : Int) (b : Bool) (w : World) (h : decide (lo ≤ x ∧ x ≤ hi) = b) :
    Calls Tryz.prog 85 #[.int .i64 x, .int .i64 lo, .int .i64 hi] w fun e w' => e = .returned (.bool b) ∧ w = w' := by
  subst h
  by_cases h1 : lo ≤ x
  · have d1 : decide (lo ≤ x) = true := by simpa using h1
    by_cases h2 : x ≤ hi
    · have d2 : decide (x ≤ hi) = true := by simpa using h2
      go_enter Tryz.func85, Tryz.ntmps85
      go_wp2_with fail
      go_ret
      exact ⟨ret_bool (by simp [h1, h2]), rfl⟩
    · have d2 : decide (x ≤ hi) = false := by simpa using h2
      go_enter Tryz.func85, Tryz.ntmps85
      go_wp2_with fail
      go_ret
      exact ⟨ret_bool (by simp), rfl⟩
  · have d1 : decide (lo ≤ x) = false := by simpa using h1
    go_enter Tryz.func85, Tryz.ntmps85
    go_wp2_with fail
    go_ret
    exact ⟨ret_bool (by simp), rfl⟩
set_option maxHeartbeats 2000000 in
theorem iright_any (k ch bi ra bl sh : Int) (w : World) :
    Calls Tryz.prog 56 #[.agg #[.int .i64 k, .int .i64 ch, .int .i64 bi, .int .i64 ra, .int .i64 bl, .int .i64 sh]] w fun e w' => e = .returned (.bool (rightI k ch bi ra bl sh)) ∧ Below w.heap.size w w' := by
  have hb : Below w.heap.size w (w.alloc (.cells #[.int .i64 k, .int .i64 ch, .int .i64 bi, .int .i64 ra, .int .i64 bl, .int .i64 sh] 27)) := (Below.refl _ w).alloc (Nat.le_refl _) _
  have b0 : (w.alloc (.cells #[.int .i64 k, .int .i64 ch, .int .i64 bi, .int .i64 ra, .int .i64 bl, .int .i64 sh] 27)).cell? ⟨w.heap.size, 0, none⟩ = some (.int .i64 k) := by rw [cell_of_row _ _ _ _ _ _ (heap_alloc_new _ _)]; rfl
  have b1 : (w.alloc (.cells #[.int .i64 k, .int .i64 ch, .int .i64 bi, .int .i64 ra, .int .i64 bl, .int .i64 sh] 27)).cell? ⟨w.heap.size, 1, none⟩ = some (.int .i64 ch) := by rw [cell_of_row _ _ _ _ _ _ (heap_alloc_new _ _)]; rfl
  have b2 : (w.alloc (.cells #[.int .i64 k, .int .i64 ch, .int .i64 bi, .int .i64 ra, .int .i64 bl, .int .i64 sh] 27)).cell? ⟨w.heap.size, 2, none⟩ = some (.int .i64 bi) := by rw [cell_of_row _ _ _ _ _ _ (heap_alloc_new _ _)]; rfl
  have b3 : (w.alloc (.cells #[.int .i64 k, .int .i64 ch, .int .i64 bi, .int .i64 ra, .int .i64 bl, .int .i64 sh] 27)).cell? ⟨w.heap.size, 3, none⟩ = some (.int .i64 ra) := by rw [cell_of_row _ _ _ _ _ _ (heap_alloc_new _ _)]; rfl
  have b4 : (w.alloc (.cells #[.int .i64 k, .int .i64 ch, .int .i64 bi, .int .i64 ra, .int .i64 bl, .int .i64 sh] 27)).cell? ⟨w.heap.size, 4, none⟩ = some (.int .i64 bl) := by rw [cell_of_row _ _ _ _ _ _ (heap_alloc_new _ _)]; rfl
  have b5 : (w.alloc (.cells #[.int .i64 k, .int .i64 ch, .int .i64 bi, .int .i64 ra, .int .i64 bl, .int .i64 sh] 27)).cell? ⟨w.heap.size, 5, none⟩ = some (.int .i64 sh) := by rw [cell_of_row _ _ _ _ _ _ (heap_alloc_new _ _)]; rfl
  by_cases h1 : ¬ (1 ≤ k ∧ k ≤ 3)
  · clear b0 b1 b2 b3 b4 b5
    go_enter Tryz.func56, Tryz.ntmps56
    go_wp2_with fail
    refine (iwithin_any k 1 3 false _ (decide_eq_false h1)).mono ?_
    rintro e w' ⟨rfl, rfl⟩
    go_wp2_with fail
    go_ret
    exact ⟨ret_bool (decide_eq_false (fun h => h1 h.1)).symm, hb⟩
  replace h1 := Decidable.not_not.1 h1
  cases h2 : rightF ch bi ra with
  | false =>
    go_enter Tryz.func56, Tryz.ntmps56
    go_wp2_with fail
    refine (iwithin_any k 1 3 true _ (decide_eq_true h1)).mono ?_
    rintro e w' ⟨rfl, rfl⟩
    go_wp2_with fail
    generalize hw0 : w.alloc (.cells #[.int .i64 k, .int .i64 ch, .int .i64 bi, .int .i64 ra, .int .i64 bl, .int .i64 sh] 27) = w0 at *
    clear hw0
    refine (pright_any ch bi ra _).mono ?_
    rintro e w1 ⟨rfl, hb1⟩
    rw [h2]
    have hb2 := hb.trans (hb1.mono hb.size)
    have c0 : w1.cell? ⟨w.heap.size, 0, none⟩ = some (.int .i64 k) := (hb1.cell (block_lt_of_cell b0)).trans b0
    have c1 : w1.cell? ⟨w.heap.size, 1, none⟩ = some (.int .i64 ch) := (hb1.cell (block_lt_of_cell b1)).trans b1
    have c2 : w1.cell? ⟨w.heap.size, 2, none⟩ = some (.int .i64 bi) := (hb1.cell (block_lt_of_cell b2)).trans b2
    have c3 : w1.cell? ⟨w.heap.size, 3, none⟩ = some (.int .i64 ra) := (hb1.cell (block_lt_of_cell b3)).trans b3
    have c4 : w1.cell? ⟨w.heap.size, 4, none⟩ = some (.int .i64 bl) := (hb1.cell (block_lt_of_cell b4)).trans b4
    have c5 : w1.cell? ⟨w.heap.size, 5, none⟩ = some (.int .i64 sh) := (hb1.cell (block_lt_of_cell b5)).trans b5
    go_wp2_with fail
    go_ret
    exact ⟨ret_bool (decide_eq_false (fun h => by rw [h2] at h; simp at h)).symm, hb2⟩
  | true =>
  by_cases h3 : ¬ (256 ≤ bl ∧ bl ≤ 65536)
  ·
    go_enter Tryz.func56, Tryz.ntmps56
    go_wp2_with fail
    refine (iwithin_any k 1 3 true _ (decide_eq_true h1)).mono ?_
    rintro e w' ⟨rfl, rfl⟩
    go_wp2_with fail
    generalize hw0 : w.alloc (.cells #[.int .i64 k, .int .i64 ch, .int .i64 bi, .int .i64 ra, .int .i64 bl, .int .i64 sh] 27) = w0 at *
    clear hw0
    refine (pright_any ch bi ra _).mono ?_
    rintro e w1 ⟨rfl, hb1⟩
    rw [h2]
    have hb2 := hb.trans (hb1.mono hb.size)
    have c0 : w1.cell? ⟨w.heap.size, 0, none⟩ = some (.int .i64 k) := (hb1.cell (block_lt_of_cell b0)).trans b0
    have c1 : w1.cell? ⟨w.heap.size, 1, none⟩ = some (.int .i64 ch) := (hb1.cell (block_lt_of_cell b1)).trans b1
    have c2 : w1.cell? ⟨w.heap.size, 2, none⟩ = some (.int .i64 bi) := (hb1.cell (block_lt_of_cell b2)).trans b2
    have c3 : w1.cell? ⟨w.heap.size, 3, none⟩ = some (.int .i64 ra) := (hb1.cell (block_lt_of_cell b3)).trans b3
    have c4 : w1.cell? ⟨w.heap.size, 4, none⟩ = some (.int .i64 bl) := (hb1.cell (block_lt_of_cell b4)).trans b4
    have c5 : w1.cell? ⟨w.heap.size, 5, none⟩ = some (.int .i64 sh) := (hb1.cell (block_lt_of_cell b5)).trans b5
    go_wp2_with fail
    refine (iwithin_any bl 256 65536 false _ (decide_eq_false h3)).mono ?_
    rintro e w' ⟨rfl, rfl⟩
    go_wp2_with fail
    go_ret
    exact ⟨ret_bool (decide_eq_false (fun h => h3 h.2.2.1)).symm, hb2⟩
  replace h3 := Decidable.not_not.1 h3
  by_cases h4 : ¬ (0 ≤ sh ∧ sh ≤ 3)
  ·
    go_enter Tryz.func56, Tryz.ntmps56
    go_wp2_with fail
    refine (iwithin_any k 1 3 true _ (decide_eq_true h1)).mono ?_
    rintro e w' ⟨rfl, rfl⟩
    go_wp2_with fail
    generalize hw0 : w.alloc (.cells #[.int .i64 k, .int .i64 ch, .int .i64 bi, .int .i64 ra, .int .i64 bl, .int .i64 sh] 27) = w0 at *
    clear hw0
    refine (pright_any ch bi ra _).mono ?_
    rintro e w1 ⟨rfl, hb1⟩
    rw [h2]
    have hb2 := hb.trans (hb1.mono hb.size)
    have c0 : w1.cell? ⟨w.heap.size, 0, none⟩ = some (.int .i64 k) := (hb1.cell (block_lt_of_cell b0)).trans b0
    have c1 : w1.cell? ⟨w.heap.size, 1, none⟩ = some (.int .i64 ch) := (hb1.cell (block_lt_of_cell b1)).trans b1
    have c2 : w1.cell? ⟨w.heap.size, 2, none⟩ = some (.int .i64 bi) := (hb1.cell (block_lt_of_cell b2)).trans b2
    have c3 : w1.cell? ⟨w.heap.size, 3, none⟩ = some (.int .i64 ra) := (hb1.cell (block_lt_of_cell b3)).trans b3
    have c4 : w1.cell? ⟨w.heap.size, 4, none⟩ = some (.int .i64 bl) := (hb1.cell (block_lt_of_cell b4)).trans b4
    have c5 : w1.cell? ⟨w.heap.size, 5, none⟩ = some (.int .i64 sh) := (hb1.cell (block_lt_of_cell b5)).trans b5
    go_wp2_with fail
    refine (iwithin_any bl 256 65536 true _ (decide_eq_true h3)).mono ?_
    rintro e w' ⟨rfl, rfl⟩
    go_wp2_with fail
    refine (iwithin_any sh 0 3 false _ (decide_eq_false h4)).mono ?_
    rintro e w' ⟨rfl, rfl⟩
    go_wp2_with fail
    go_ret
    exact ⟨ret_bool (decide_eq_false (fun h => h4 h.2.2.2.1)).symm, hb2⟩
  replace h4 := Decidable.not_not.1 h4
  by_cases h5 : k = 3
  · have d5 : (k != 3) = false := by simpa using h5
    have H5 := hid h5
    clear h5
    by_cases h6 : sh = 0
    · have d6 : (sh == 0) = true := by simpa using h6
      have H6 := hid h6
      clear h6
      go_enter Tryz.func56, Tryz.ntmps56
      go_wp2_with fail
      refine (iwithin_any k 1 3 true _ (decide_eq_true h1)).mono ?_
      rintro e w' ⟨rfl, rfl⟩
      go_wp2_with fail
      generalize hw0 : w.alloc (.cells #[.int .i64 k, .int .i64 ch, .int .i64 bi, .int .i64 ra, .int .i64 bl, .int .i64 sh] 27) = w0 at *
      clear hw0
      refine (pright_any ch bi ra _).mono ?_
      rintro e w1 ⟨rfl, hb1⟩
      rw [h2]
      have hb2 := hb.trans (hb1.mono hb.size)
      have c0 : w1.cell? ⟨w.heap.size, 0, none⟩ = some (.int .i64 k) := (hb1.cell (block_lt_of_cell b0)).trans b0
      have c1 : w1.cell? ⟨w.heap.size, 1, none⟩ = some (.int .i64 ch) := (hb1.cell (block_lt_of_cell b1)).trans b1
      have c2 : w1.cell? ⟨w.heap.size, 2, none⟩ = some (.int .i64 bi) := (hb1.cell (block_lt_of_cell b2)).trans b2
      have c3 : w1.cell? ⟨w.heap.size, 3, none⟩ = some (.int .i64 ra) := (hb1.cell (block_lt_of_cell b3)).trans b3
      have c4 : w1.cell? ⟨w.heap.size, 4, none⟩ = some (.int .i64 bl) := (hb1.cell (block_lt_of_cell b4)).trans b4
      have c5 : w1.cell? ⟨w.heap.size, 5, none⟩ = some (.int .i64 sh) := (hb1.cell (block_lt_of_cell b5)).trans b5
      go_wp2_with fail
      refine (iwithin_any bl 256 65536 true _ (decide_eq_true h3)).mono ?_
      rintro e w' ⟨rfl, rfl⟩
      go_wp2_with fail
      refine (iwithin_any sh 0 3 true _ (decide_eq_true h4)).mono ?_
      rintro e w' ⟨rfl, rfl⟩
      go_wp2_with fail
      go_ret
      exact ⟨ret_bool (decide_eq_true ⟨h1, h2, h3, h4, fun _ => H6.out⟩).symm, hb2⟩
    · have d6 : (sh == 0) = false := by simpa using h6
      go_enter Tryz.func56, Tryz.ntmps56
      go_wp2_with fail
      refine (iwithin_any k 1 3 true _ (decide_eq_true h1)).mono ?_
      rintro e w' ⟨rfl, rfl⟩
      go_wp2_with fail
      generalize hw0 : w.alloc (.cells #[.int .i64 k, .int .i64 ch, .int .i64 bi, .int .i64 ra, .int .i64 bl, .int .i64 sh] 27) = w0 at *
      clear hw0
      refine (pright_any ch bi ra _).mono ?_
      rintro e w1 ⟨rfl, hb1⟩
      rw [h2]
      have hb2 := hb.trans (hb1.mono hb.size)
      have c0 : w1.cell? ⟨w.heap.size, 0, none⟩ = some (.int .i64 k) := (hb1.cell (block_lt_of_cell b0)).trans b0
      have c1 : w1.cell? ⟨w.heap.size, 1, none⟩ = some (.int .i64 ch) := (hb1.cell (block_lt_of_cell b1)).trans b1
      have c2 : w1.cell? ⟨w.heap.size, 2, none⟩ = some (.int .i64 bi) := (hb1.cell (block_lt_of_cell b2)).trans b2
      have c3 : w1.cell? ⟨w.heap.size, 3, none⟩ = some (.int .i64 ra) := (hb1.cell (block_lt_of_cell b3)).trans b3
      have c4 : w1.cell? ⟨w.heap.size, 4, none⟩ = some (.int .i64 bl) := (hb1.cell (block_lt_of_cell b4)).trans b4
      have c5 : w1.cell? ⟨w.heap.size, 5, none⟩ = some (.int .i64 sh) := (hb1.cell (block_lt_of_cell b5)).trans b5
      go_wp2_with fail
      refine (iwithin_any bl 256 65536 true _ (decide_eq_true h3)).mono ?_
      rintro e w' ⟨rfl, rfl⟩
      go_wp2_with fail
      refine (iwithin_any sh 0 3 true _ (decide_eq_true h4)).mono ?_
      rintro e w' ⟨rfl, rfl⟩
      go_wp2_with fail
      go_ret
      exact ⟨ret_bool (decide_eq_false (fun h => h6 (h.2.2.2.2 H5.out))).symm, hb2⟩
  · have d5 : (k != 3) = true := by simpa using h5
    go_enter Tryz.func56, Tryz.ntmps56
    go_wp2_with fail
    refine (iwithin_any k 1 3 true _ (decide_eq_true h1)).mono ?_
    rintro e w' ⟨rfl, rfl⟩
    go_wp2_with fail
    generalize hw0 : w.alloc (.cells #[.int .i64 k, .int .i64 ch, .int .i64 bi, .int .i64 ra, .int .i64 bl, .int .i64 sh] 27) = w0 at *
    clear hw0
    refine (pright_any ch bi ra _).mono ?_
    rintro e w1 ⟨rfl, hb1⟩
    rw [h2]
    have hb2 := hb.trans (hb1.mono hb.size)
    have c0 : w1.cell? ⟨w.heap.size, 0, none⟩ = some (.int .i64 k) := (hb1.cell (block_lt_of_cell b0)).trans b0
    have c1 : w1.cell? ⟨w.heap.size, 1, none⟩ = some (.int .i64 ch) := (hb1.cell (block_lt_of_cell b1)).trans b1
    have c2 : w1.cell? ⟨w.heap.size, 2, none⟩ = some (.int .i64 bi) := (hb1.cell (block_lt_of_cell b2)).trans b2
    have c3 : w1.cell? ⟨w.heap.size, 3, none⟩ = some (.int .i64 ra) := (hb1.cell (block_lt_of_cell b3)).trans b3
    have c4 : w1.cell? ⟨w.heap.size, 4, none⟩ = some (.int .i64 bl) := (hb1.cell (block_lt_of_cell b4)).trans b4
    have c5 : w1.cell? ⟨w.heap.size, 5, none⟩ = some (.int .i64 sh) := (hb1.cell (block_lt_of_cell b5)).trans b5
    go_wp2_with fail
    refine (iwithin_any bl 256 65536 true _ (decide_eq_true h3)).mono ?_
    rintro e w' ⟨rfl, rfl⟩
    go_wp2_with fail
    refine (iwithin_any sh 0 3 true _ (decide_eq_true h4)).mono ?_
    rintro e w' ⟨rfl, rfl⟩
    go_wp2_with fail
    go_ret
    exact ⟨ret_bool (decide_eq_true ⟨h1, h2, h3, h4, fun h => absurd h h5⟩).symm, hb2⟩
set_option maxHeartbeats 2000000 in
theorem riright_any (k ch bi ra bl sh : Int) (w : World) :
    Calls Tryz.prog 37 #[.agg #[.int .i64 k, .int .i64 ch, .int .i64 bi, .int .i64 ra, .int .i64 bl, .int .i64 sh]] w fun e w' => e = .returned (.bool (rightI k ch bi ra bl sh)) ∧ Below w.heap.size w w' := by
  have hb : Below w.heap.size w (w.alloc (.cells #[.int .i64 k, .int .i64 ch, .int .i64 bi, .int .i64 ra, .int .i64 bl, .int .i64 sh] 27)) := (Below.refl _ w).alloc (Nat.le_refl _) _
  have b0 : (w.alloc (.cells #[.int .i64 k, .int .i64 ch, .int .i64 bi, .int .i64 ra, .int .i64 bl, .int .i64 sh] 27)).cell? ⟨w.heap.size, 0, none⟩ = some (.int .i64 k) := by rw [cell_of_row _ _ _ _ _ _ (heap_alloc_new _ _)]; rfl
  have b1 : (w.alloc (.cells #[.int .i64 k, .int .i64 ch, .int .i64 bi, .int .i64 ra, .int .i64 bl, .int .i64 sh] 27)).cell? ⟨w.heap.size, 1, none⟩ = some (.int .i64 ch) := by rw [cell_of_row _ _ _ _ _ _ (heap_alloc_new _ _)]; rfl
  have b2 : (w.alloc (.cells #[.int .i64 k, .int .i64 ch, .int .i64 bi, .int .i64 ra, .int .i64 bl, .int .i64 sh] 27)).cell? ⟨w.heap.size, 2, none⟩ = some (.int .i64 bi) := by rw [cell_of_row _ _ _ _ _ _ (heap_alloc_new _ _)]; rfl
  have b3 : (w.alloc (.cells #[.int .i64 k, .int .i64 ch, .int .i64 bi, .int .i64 ra, .int .i64 bl, .int .i64 sh] 27)).cell? ⟨w.heap.size, 3, none⟩ = some (.int .i64 ra) := by rw [cell_of_row _ _ _ _ _ _ (heap_alloc_new _ _)]; rfl
  have b4 : (w.alloc (.cells #[.int .i64 k, .int .i64 ch, .int .i64 bi, .int .i64 ra, .int .i64 bl, .int .i64 sh] 27)).cell? ⟨w.heap.size, 4, none⟩ = some (.int .i64 bl) := by rw [cell_of_row _ _ _ _ _ _ (heap_alloc_new _ _)]; rfl
  have b5 : (w.alloc (.cells #[.int .i64 k, .int .i64 ch, .int .i64 bi, .int .i64 ra, .int .i64 bl, .int .i64 sh] 27)).cell? ⟨w.heap.size, 5, none⟩ = some (.int .i64 sh) := by rw [cell_of_row _ _ _ _ _ _ (heap_alloc_new _ _)]; rfl
  by_cases t0 : k < 1
  · have e0 : decide (k < 1) = true := by simpa using t0
    have hno : ¬ ((1 ≤ k ∧ k ≤ 3) ∧ rightF ch bi ra = true ∧ (256 ≤ bl ∧ bl ≤ 65536) ∧ (0 ≤ sh ∧ sh ≤ 3) ∧ (k = 3 → sh = 0)) := fun h => by have := h.1; have := h.2.2.1; have := h.2.2.2.1; omega
    have HNO := hid hno
    clear hno
    go_enter Tryz.func37, Tryz.ntmps37
    go_wp2_with fail
    go_ret
    exact ⟨ret_bool (decide_eq_false HNO.out).symm, hb⟩
  have e0 : decide (k < 1) = false := by simpa using t0
  by_cases t1 : 3 < k
  · have e1 : decide (3 < k) = true := by simpa using t1
    have hno : ¬ ((1 ≤ k ∧ k ≤ 3) ∧ rightF ch bi ra = true ∧ (256 ≤ bl ∧ bl ≤ 65536) ∧ (0 ≤ sh ∧ sh ≤ 3) ∧ (k = 3 → sh = 0)) := fun h => by have := h.1; have := h.2.2.1; have := h.2.2.2.1; omega
    have HNO := hid hno
    clear hno
    go_enter Tryz.func37, Tryz.ntmps37
    go_wp2_with fail
    go_ret
    exact ⟨ret_bool (decide_eq_false HNO.out).symm, hb⟩
  have e1 : decide (3 < k) = false := by simpa using t1
  cases h2 : rightF ch bi ra with
  | false =>
    go_enter Tryz.func37, Tryz.ntmps37
    go_wp2_with fail
    generalize hw0 : w.alloc (.cells #[.int .i64 k, .int .i64 ch, .int .i64 bi, .int .i64 ra, .int .i64 bl, .int .i64 sh] 27) = w0 at *
    clear hw0
    refine (rpright_any ch bi ra _).mono ?_
    rintro e w1 ⟨rfl, hb1⟩
    rw [h2]
    have hb2 := hb.trans (hb1.mono hb.size)
    have c0 : w1.cell? ⟨w.heap.size, 0, none⟩ = some (.int .i64 k) := (hb1.cell (block_lt_of_cell b0)).trans b0
    have c1 : w1.cell? ⟨w.heap.size, 1, none⟩ = some (.int .i64 ch) := (hb1.cell (block_lt_of_cell b1)).trans b1
    have c2 : w1.cell? ⟨w.heap.size, 2, none⟩ = some (.int .i64 bi) := (hb1.cell (block_lt_of_cell b2)).trans b2
    have c3 : w1.cell? ⟨w.heap.size, 3, none⟩ = some (.int .i64 ra) := (hb1.cell (block_lt_of_cell b3)).trans b3
    have c4 : w1.cell? ⟨w.heap.size, 4, none⟩ = some (.int .i64 bl) := (hb1.cell (block_lt_of_cell b4)).trans b4
    have c5 : w1.cell? ⟨w.heap.size, 5, none⟩ = some (.int .i64 sh) := (hb1.cell (block_lt_of_cell b5)).trans b5
    go_wp2_with fail
    go_ret
    exact ⟨ret_bool (decide_eq_false (fun h => by rw [h2] at h; simp at h)).symm, hb2⟩
  | true =>
  by_cases t3 : bl < 256
  · have e3 : decide (bl < 256) = true := by simpa using t3
    have hno : ¬ ((1 ≤ k ∧ k ≤ 3) ∧ rightF ch bi ra = true ∧ (256 ≤ bl ∧ bl ≤ 65536) ∧ (0 ≤ sh ∧ sh ≤ 3) ∧ (k = 3 → sh = 0)) := fun h => by have := h.1; have := h.2.2.1; have := h.2.2.2.1; omega
    have HNO := hid hno
    clear hno
    go_enter Tryz.func37, Tryz.ntmps37
    go_wp2_with fail
    generalize hw0 : w.alloc (.cells #[.int .i64 k, .int .i64 ch, .int .i64 bi, .int .i64 ra, .int .i64 bl, .int .i64 sh] 27) = w0 at *
    clear hw0
    refine (rpright_any ch bi ra _).mono ?_
    rintro e w1 ⟨rfl, hb1⟩
    rw [h2]
    have hb2 := hb.trans (hb1.mono hb.size)
    have c0 : w1.cell? ⟨w.heap.size, 0, none⟩ = some (.int .i64 k) := (hb1.cell (block_lt_of_cell b0)).trans b0
    have c1 : w1.cell? ⟨w.heap.size, 1, none⟩ = some (.int .i64 ch) := (hb1.cell (block_lt_of_cell b1)).trans b1
    have c2 : w1.cell? ⟨w.heap.size, 2, none⟩ = some (.int .i64 bi) := (hb1.cell (block_lt_of_cell b2)).trans b2
    have c3 : w1.cell? ⟨w.heap.size, 3, none⟩ = some (.int .i64 ra) := (hb1.cell (block_lt_of_cell b3)).trans b3
    have c4 : w1.cell? ⟨w.heap.size, 4, none⟩ = some (.int .i64 bl) := (hb1.cell (block_lt_of_cell b4)).trans b4
    have c5 : w1.cell? ⟨w.heap.size, 5, none⟩ = some (.int .i64 sh) := (hb1.cell (block_lt_of_cell b5)).trans b5
    go_wp2_with fail
    go_ret
    exact ⟨ret_bool (decide_eq_false HNO.out).symm, hb2⟩
  have e3 : decide (bl < 256) = false := by simpa using t3
  by_cases t4 : 65536 < bl
  · have e4 : decide (65536 < bl) = true := by simpa using t4
    have hno : ¬ ((1 ≤ k ∧ k ≤ 3) ∧ rightF ch bi ra = true ∧ (256 ≤ bl ∧ bl ≤ 65536) ∧ (0 ≤ sh ∧ sh ≤ 3) ∧ (k = 3 → sh = 0)) := fun h => by have := h.1; have := h.2.2.1; have := h.2.2.2.1; omega
    have HNO := hid hno
    clear hno
    go_enter Tryz.func37, Tryz.ntmps37
    go_wp2_with fail
    generalize hw0 : w.alloc (.cells #[.int .i64 k, .int .i64 ch, .int .i64 bi, .int .i64 ra, .int .i64 bl, .int .i64 sh] 27) = w0 at *
    clear hw0
    refine (rpright_any ch bi ra _).mono ?_
    rintro e w1 ⟨rfl, hb1⟩
    rw [h2]
    have hb2 := hb.trans (hb1.mono hb.size)
    have c0 : w1.cell? ⟨w.heap.size, 0, none⟩ = some (.int .i64 k) := (hb1.cell (block_lt_of_cell b0)).trans b0
    have c1 : w1.cell? ⟨w.heap.size, 1, none⟩ = some (.int .i64 ch) := (hb1.cell (block_lt_of_cell b1)).trans b1
    have c2 : w1.cell? ⟨w.heap.size, 2, none⟩ = some (.int .i64 bi) := (hb1.cell (block_lt_of_cell b2)).trans b2
    have c3 : w1.cell? ⟨w.heap.size, 3, none⟩ = some (.int .i64 ra) := (hb1.cell (block_lt_of_cell b3)).trans b3
    have c4 : w1.cell? ⟨w.heap.size, 4, none⟩ = some (.int .i64 bl) := (hb1.cell (block_lt_of_cell b4)).trans b4
    have c5 : w1.cell? ⟨w.heap.size, 5, none⟩ = some (.int .i64 sh) := (hb1.cell (block_lt_of_cell b5)).trans b5
    go_wp2_with fail
    go_ret
    exact ⟨ret_bool (decide_eq_false HNO.out).symm, hb2⟩
  have e4 : decide (65536 < bl) = false := by simpa using t4
  by_cases t5 : sh < 0
  · have e5 : decide (sh < 0) = true := by simpa using t5
    have hno : ¬ ((1 ≤ k ∧ k ≤ 3) ∧ rightF ch bi ra = true ∧ (256 ≤ bl ∧ bl ≤ 65536) ∧ (0 ≤ sh ∧ sh ≤ 3) ∧ (k = 3 → sh = 0)) := fun h => by have := h.1; have := h.2.2.1; have := h.2.2.2.1; omega
    have HNO := hid hno
    clear hno
    go_enter Tryz.func37, Tryz.ntmps37
    go_wp2_with fail
    generalize hw0 : w.alloc (.cells #[.int .i64 k, .int .i64 ch, .int .i64 bi, .int .i64 ra, .int .i64 bl, .int .i64 sh] 27) = w0 at *
    clear hw0
    refine (rpright_any ch bi ra _).mono ?_
    rintro e w1 ⟨rfl, hb1⟩
    rw [h2]
    have hb2 := hb.trans (hb1.mono hb.size)
    have c0 : w1.cell? ⟨w.heap.size, 0, none⟩ = some (.int .i64 k) := (hb1.cell (block_lt_of_cell b0)).trans b0
    have c1 : w1.cell? ⟨w.heap.size, 1, none⟩ = some (.int .i64 ch) := (hb1.cell (block_lt_of_cell b1)).trans b1
    have c2 : w1.cell? ⟨w.heap.size, 2, none⟩ = some (.int .i64 bi) := (hb1.cell (block_lt_of_cell b2)).trans b2
    have c3 : w1.cell? ⟨w.heap.size, 3, none⟩ = some (.int .i64 ra) := (hb1.cell (block_lt_of_cell b3)).trans b3
    have c4 : w1.cell? ⟨w.heap.size, 4, none⟩ = some (.int .i64 bl) := (hb1.cell (block_lt_of_cell b4)).trans b4
    have c5 : w1.cell? ⟨w.heap.size, 5, none⟩ = some (.int .i64 sh) := (hb1.cell (block_lt_of_cell b5)).trans b5
    go_wp2_with fail
    go_ret
    exact ⟨ret_bool (decide_eq_false HNO.out).symm, hb2⟩
  have e5 : decide (sh < 0) = false := by simpa using t5
  by_cases t6 : 3 < sh
  · have e6 : decide (3 < sh) = true := by simpa using t6
    have hno : ¬ ((1 ≤ k ∧ k ≤ 3) ∧ rightF ch bi ra = true ∧ (256 ≤ bl ∧ bl ≤ 65536) ∧ (0 ≤ sh ∧ sh ≤ 3) ∧ (k = 3 → sh = 0)) := fun h => by have := h.1; have := h.2.2.1; have := h.2.2.2.1; omega
    have HNO := hid hno
    clear hno
    go_enter Tryz.func37, Tryz.ntmps37
    go_wp2_with fail
    generalize hw0 : w.alloc (.cells #[.int .i64 k, .int .i64 ch, .int .i64 bi, .int .i64 ra, .int .i64 bl, .int .i64 sh] 27) = w0 at *
    clear hw0
    refine (rpright_any ch bi ra _).mono ?_
    rintro e w1 ⟨rfl, hb1⟩
    rw [h2]
    have hb2 := hb.trans (hb1.mono hb.size)
    have c0 : w1.cell? ⟨w.heap.size, 0, none⟩ = some (.int .i64 k) := (hb1.cell (block_lt_of_cell b0)).trans b0
    have c1 : w1.cell? ⟨w.heap.size, 1, none⟩ = some (.int .i64 ch) := (hb1.cell (block_lt_of_cell b1)).trans b1
    have c2 : w1.cell? ⟨w.heap.size, 2, none⟩ = some (.int .i64 bi) := (hb1.cell (block_lt_of_cell b2)).trans b2
    have c3 : w1.cell? ⟨w.heap.size, 3, none⟩ = some (.int .i64 ra) := (hb1.cell (block_lt_of_cell b3)).trans b3
    have c4 : w1.cell? ⟨w.heap.size, 4, none⟩ = some (.int .i64 bl) := (hb1.cell (block_lt_of_cell b4)).trans b4
    have c5 : w1.cell? ⟨w.heap.size, 5, none⟩ = some (.int .i64 sh) := (hb1.cell (block_lt_of_cell b5)).trans b5
    go_wp2_with fail
    go_ret
    exact ⟨ret_bool (decide_eq_false HNO.out).symm, hb2⟩
  have e6 : decide (3 < sh) = false := by simpa using t6
  have h1 : 1 ≤ k ∧ k ≤ 3 := by omega
  have h3 : 256 ≤ bl ∧ bl ≤ 65536 := by omega
  have h4 : 0 ≤ sh ∧ sh ≤ 3 := by omega
  by_cases h5 : k = 3
  · have d5 : decide (k < 3) = false := by simp; omega
    by_cases h6 : sh = 0
    · have d6 : (sh == 0) = true := by simpa using h6
      have hy := hid (show ((1 ≤ k ∧ k ≤ 3) ∧ rightF ch bi ra = true ∧ (256 ≤ bl ∧ bl ≤ 65536) ∧ (0 ≤ sh ∧ sh ≤ 3) ∧ (k = 3 → sh = 0)) from ⟨h1, h2, h3, h4, fun _ => h6⟩)
      clear h5 h6
      go_enter Tryz.func37, Tryz.ntmps37
      go_wp2_with fail
      generalize hw0 : w.alloc (.cells #[.int .i64 k, .int .i64 ch, .int .i64 bi, .int .i64 ra, .int .i64 bl, .int .i64 sh] 27) = w0 at *
      clear hw0
      refine (rpright_any ch bi ra _).mono ?_
      rintro e w1 ⟨rfl, hb1⟩
      rw [h2]
      have hb2 := hb.trans (hb1.mono hb.size)
      have c0 : w1.cell? ⟨w.heap.size, 0, none⟩ = some (.int .i64 k) := (hb1.cell (block_lt_of_cell b0)).trans b0
      have c1 : w1.cell? ⟨w.heap.size, 1, none⟩ = some (.int .i64 ch) := (hb1.cell (block_lt_of_cell b1)).trans b1
      have c2 : w1.cell? ⟨w.heap.size, 2, none⟩ = some (.int .i64 bi) := (hb1.cell (block_lt_of_cell b2)).trans b2
      have c3 : w1.cell? ⟨w.heap.size, 3, none⟩ = some (.int .i64 ra) := (hb1.cell (block_lt_of_cell b3)).trans b3
      have c4 : w1.cell? ⟨w.heap.size, 4, none⟩ = some (.int .i64 bl) := (hb1.cell (block_lt_of_cell b4)).trans b4
      have c5 : w1.cell? ⟨w.heap.size, 5, none⟩ = some (.int .i64 sh) := (hb1.cell (block_lt_of_cell b5)).trans b5
      go_wp2_with fail
      go_ret
      exact ⟨ret_bool (decide_eq_true hy.out).symm, hb2⟩
    · have d6 : (sh == 0) = false := by simpa using h6
      have hy := hid (show ¬ ((1 ≤ k ∧ k ≤ 3) ∧ rightF ch bi ra = true ∧ (256 ≤ bl ∧ bl ≤ 65536) ∧ (0 ≤ sh ∧ sh ≤ 3) ∧ (k = 3 → sh = 0)) from fun h => h6 (h.2.2.2.2 h5))
      clear h5 h6
      go_enter Tryz.func37, Tryz.ntmps37
      go_wp2_with fail
      generalize hw0 : w.alloc (.cells #[.int .i64 k, .int .i64 ch, .int .i64 bi, .int .i64 ra, .int .i64 bl, .int .i64 sh] 27) = w0 at *
      clear hw0
      refine (rpright_any ch bi ra _).mono ?_
      rintro e w1 ⟨rfl, hb1⟩
      rw [h2]
      have hb2 := hb.trans (hb1.mono hb.size)
      have c0 : w1.cell? ⟨w.heap.size, 0, none⟩ = some (.int .i64 k) := (hb1.cell (block_lt_of_cell b0)).trans b0
      have c1 : w1.cell? ⟨w.heap.size, 1, none⟩ = some (.int .i64 ch) := (hb1.cell (block_lt_of_cell b1)).trans b1
      have c2 : w1.cell? ⟨w.heap.size, 2, none⟩ = some (.int .i64 bi) := (hb1.cell (block_lt_of_cell b2)).trans b2
      have c3 : w1.cell? ⟨w.heap.size, 3, none⟩ = some (.int .i64 ra) := (hb1.cell (block_lt_of_cell b3)).trans b3
      have c4 : w1.cell? ⟨w.heap.size, 4, none⟩ = some (.int .i64 bl) := (hb1.cell (block_lt_of_cell b4)).trans b4
      have c5 : w1.cell? ⟨w.heap.size, 5, none⟩ = some (.int .i64 sh) := (hb1.cell (block_lt_of_cell b5)).trans b5
      go_wp2_with fail
      go_ret
      exact ⟨ret_bool (decide_eq_false hy.out).symm, hb2⟩
  · have d5 : decide (k < 3) = true := by simp; omega
    have hy := hid (show ((1 ≤ k ∧ k ≤ 3) ∧ rightF ch bi ra = true ∧ (256 ≤ bl ∧ bl ≤ 65536) ∧ (0 ≤ sh ∧ sh ≤ 3) ∧ (k = 3 → sh = 0)) from ⟨h1, h2, h3, h4, fun h => absurd h h5⟩)
    go_enter Tryz.func37, Tryz.ntmps37
    go_wp2_with fail
    generalize hw0 : w.alloc (.cells #[.int .i64 k, .int .i64 ch, .int .i64 bi, .int .i64 ra, .int .i64 bl, .int .i64 sh] 27) = w0 at *
    clear hw0
    refine (rpright_any ch bi ra _).mono ?_
    rintro e w1 ⟨rfl, hb1⟩
    rw [h2]
    have hb2 := hb.trans (hb1.mono hb.size)
    have c0 : w1.cell? ⟨w.heap.size, 0, none⟩ = some (.int .i64 k) := (hb1.cell (block_lt_of_cell b0)).trans b0
    have c1 : w1.cell? ⟨w.heap.size, 1, none⟩ = some (.int .i64 ch) := (hb1.cell (block_lt_of_cell b1)).trans b1
    have c2 : w1.cell? ⟨w.heap.size, 2, none⟩ = some (.int .i64 bi) := (hb1.cell (block_lt_of_cell b2)).trans b2
    have c3 : w1.cell? ⟨w.heap.size, 3, none⟩ = some (.int .i64 ra) := (hb1.cell (block_lt_of_cell b3)).trans b3
    have c4 : w1.cell? ⟨w.heap.size, 4, none⟩ = some (.int .i64 bl) := (hb1.cell (block_lt_of_cell b4)).trans b4
    have c5 : w1.cell? ⟨w.heap.size, 5, none⟩ = some (.int .i64 sh) := (hb1.cell (block_lt_of_cell b5)).trans b5
    go_wp2_with fail
    go_ret
    exact ⟨ret_bool (decide_eq_true hy.out).symm, hb2⟩
end Go.Proofs.YtkmhmehofipehaaGreatDoor
/- Texts as bytes, and back. -/
namespace Go.Proofs.YtkmhmehofipehaaGreatDoor
set_option linter.unusedVariables false
open Go.RowKit
theorem conv_bs (A : Option Addr) (c : Nat) (l : List UInt8) (w : World) (h : SeesB w A l) : (convert 22 9 (.slice A l.length c)).run Tryz.prog w = .ok (.string ⟨l.toArray⟩) w := by
  cases A with
  | some a =>
    refine run_convert_bytes_back w _ _ _ a c l Tryz.underlying22 Tryz.underlying5 Tryz.underlying9 fun j hj => ?_
    obtain ⟨a', ha, hc⟩ := SeesB.at h hj
    injection ha with ha; subst ha; exact hc
  | none =>
    have : l = [] := by
      cases l with
      | nil => rfl
      | cons x l => obtain ⟨a, ha, _⟩ := h 0 (byteV x) rfl; cases ha
    subst this
    exact run_convert_bytes_nil w _ _ Tryz.underlying22 Tryz.underlying5 0 c _ Tryz.underlying9
end Go.Proofs.YtkmhmehofipehaaGreatDoor
/- append onto a row of the call's own, the source whatever reads as a list. -/
namespace Go.Proofs.YtkmhmehofipehaaGreatDoor
set_option linter.unusedVariables false
open Go.RowKit
/-- type t is a slice of e; an element takes so many cells and bytes -/
structure Elem (P : Program) (t e : TypeId) (size bytes : Nat) : Prop where
  ty : P.underlying t = some (.slice e)
  inf : ∃ i z, P.info? e = some i ∧ i.zero = some z ∧ i.size = size ∧ i.bytes = bytes ∧ z.cells.size = size
  pos : 0 < size
theorem Elem.mk' {P : Program} {t e : TypeId} {z : Value} {size bytes : Nat} (ty : P.underlying t = some (.slice e)) (h : (P.info? e).map (fun i => (i.zero, i.size, i.bytes)) = some (some z, size, bytes)) (hz : z.cells.size = size) (hp : 0 < size) : Elem P t e size bytes := by
  obtain ⟨i, h0, h1, h2, h3⟩ := info_parts h
  exact ⟨ty, ⟨i, z, h0, h1, h2, h3, hz⟩, hp⟩
section
variable {P : Program} {w w' : World} {base size bytes n : Nat} {t e : TypeId} {v : Value} {xs : List Value}
theorem own_nil (w : World) (base size : Nat) (e : TypeId) : w.ownsRow base e size (.slice none 0 0) 0 [] := ⟨by simp, .inl ⟨rfl, rfl⟩⟩
theorem own_base (h : w.ownsRow base e size v n xs) {k : Nat} (hk : v.ownBlock = some k) : base ≤ k := by
  rcases h.2 with ⟨rfl, _⟩ | ⟨g, cap, cur, rfl, hb, _⟩
  · simp [Value.ownBlock] at hk
  · simp [Value.ownBlock] at hk; omega
theorem own_form (h : w.ownsRow base e size v n xs) : ∃ A c, v = .slice A n c ∧ Sees w A xs ∧ (∀ a, A = some a → v.ownBlock = some a.block ∧ base ≤ a.block ∧ a.block < w.heap.size) := by
  obtain ⟨hl, h⟩ := h
  rcases h with ⟨rfl, rfl⟩ | ⟨g, cap, cur, rfl, hb, hg, hn, _, hs, hx⟩
  · have : xs = [] := List.eq_nil_of_length_eq_zero (by simpa using hl)
    subst this
    exact ⟨none, 0, rfl, Sees.nil _ _, fun a ha => by cases ha⟩
  · refine ⟨_, cap, rfl, ?_, fun a ha => ?_⟩
    · subst hx; exact (Sees.of_block hg rfl).take _
    · injection ha with ha; subst ha
      exact ⟨rfl, hb, (Array.getElem?_eq_some_iff.1 hg).1⟩
theorem own_other (h : w.ownsRow base e size v n xs) {g : Nat} {t : TypeId} {cs : Array Value} {fr : Nat × Nat} (hg : w.heap[g]? = some (.cells cs t fr)) (hne : e ≠ t) : v.ownBlock ≠ some g := by
  rcases h.2 with ⟨rfl, _⟩ | ⟨g', cap, cur, rfl, _, hh, _⟩
  · simp [Value.ownBlock]
  · intro he
    have : g' = g := by simpa [Value.ownBlock] using he
    subst this
    rw [hg] at hh
    injection hh with hh
    injection hh with _ ht
    exact hne ht.symm
theorem Sees.lt {A : Option Addr} {ys : List Value} (h : Sees w A ys) (hy : ys ≠ []) {a : Addr} (ha : A = some a) : a.block < w.heap.size := by
  cases ys with
  | nil => exact absurd rfl hy
  | cons y ys =>
    obtain ⟨a', ha', hc⟩ := h 0 y (by simp)
    rw [ha] at ha'; injection ha' with ha'; subst ha'
    have := block_lt_of_cell hc
    rwa [addr_block] at this
/-- a slice of the call's own stays while another row grows -/
theorem below_grown {B : Nat} {w0 : World} (h : Below B w0 w) (hg : w.grownBy w' v.ownBlock) (hB : B ≤ w.heap.size) (hown : w.ownsRow B e size v n xs) : Below B w0 w' :=
  h.grown hg hB fun k hk => own_base hown hk
theorem run_app (w : World) (E : Elem P t e size bytes) (ty : TypeId) (hown : w.ownsRow base e size v n xs) (A : Option Addr) (m c : Nat) (news : List Value) (hr : Sees w A news) (hl : news.length = m * size)
    (h1 : ∀ u ∈ news, u.oneCell' = true) (h63 : n + m ≤ maxLen) (hbytes : (n + m) * bytes ≤ 140737488355328) (hbase : base ≤ w.heap.size) :
    ∃ v' w', (Builtin.append_ #[t, t] ty #[v, .slice A m c]).run P w = .ok v' w' ∧ w'.ownsRow base e size v' (n + m) (xs ++ news) ∧ w.grownBy w' v.ownBlock ∧
      (v'.ownBlock = v.ownBlock ∨ v'.ownBlock = some w.heap.size) := by
  obtain ⟨i, z, hi, hz, hs, hb, hzs⟩ := E.inf
  have hpos := E.pos
  rcases A with _ | ad
  · have hn : news = [] := by
      cases news with
      | nil => rfl
      | cons y ys => obtain ⟨a, ha, _⟩ := hr 0 y (by simp); cases ha
    subst hn
    have hm : m = 0 := by
      rcases Nat.eq_zero_or_pos m with h0 | h0
      · exact h0
      · have := Nat.mul_pos h0 hpos; simp at hl; omega
    subst hm
    refine ⟨v, w, ?_, by simpa using hown, World.grownBy.refl w _, .inl rfl⟩
    rcases hown.2 with ⟨rfl, rfl⟩ | ⟨g, cap, cur, rfl, _, _, hnc, _⟩
    · simp [Builtin.append_, run_underlying E.ty, sizeOf, typeInfo, hi, Builtin.lenOf, Builtin.firstCells]
    · simp [Builtin.append_, run_underlying E.ty, sizeOf, typeInfo, hi, Builtin.lenOf, Builtin.firstCells, hnc, storeCells]
  · have hcells : ∀ j u, news[j]? = some u → w.cell? (ad.add j) = some u := by
      intro j u hu
      obtain ⟨a, ha, hc⟩ := hr j u hu
      injection ha with ha; subst ha; exact hc
    obtain ⟨v', w', hrun, h2, h3, _, h5⟩ := run_append_own_at (P := P) w base t ty e i z size bytes E.ty hi hz hs hb hzs hpos v n xs hown ad m c news hl hcells h1 h63 hbytes hbase
    exact ⟨v', w', hrun, h2, h3, h5⟩
theorem own_sees {A : Option Addr} {c : Nat} (h : w.ownsRow base e size (.slice A n c) n xs) : Sees w A xs := by
  obtain ⟨A', c', hv, hs, _⟩ := own_form h
  injection hv with h1 _ _
  rw [h1]; exact hs
theorem own_addr {A : Option Addr} {c : Nat} (h : w.ownsRow base e size (.slice A n c) n xs) {a : Addr} (ha : A = some a) : base ≤ a.block ∧ a.block < w.heap.size := by
  obtain ⟨A', c', hv, _, hb⟩ := own_form h
  injection hv with h1 _ _
  exact (hb a (by rw [← h1]; exact ha)).2
/-- what an append leaves: the new value is a slice of the call's own, nothing else has turned -/
def AppK (w : World) (base : Nat) (e : TypeId) (size : Nat) (v : Value) (N : Nat) (ys : List Value) (K : Value → World → Prop) : Prop :=
  ∀ (A' : Option Addr) (c' : Nat) (w' : World), w'.ownsRow base e size (.slice A' N c') N ys → w.grownBy w' v.ownBlock → ((Value.slice A' N c').ownBlock = v.ownBlock ∨ (Value.slice A' N c').ownBlock = some w.heap.size) → Below base w w' → K (.slice A' N c') w'
theorem wp_app {o : Oper} {a : Act} {K : Act → World → Prop} {Q : Exit → Act → World → Prop} (s x : Operand) (t : TypeId)
    (ho : o.op = .call { callee := .builtin .append, args := #[s, x], argTypes := #[t, t] }) (E : Elem P t e size bytes)
    (hs : a.eval s = v) (hown : w.ownsRow base e size v n xs) (A : Option Addr) (m c : Nat) (hx : a.eval x = .slice A m c) (news : List Value) (hr : Sees w A news) (hl : news.length = m * size)
    (h1 : ∀ u ∈ news, u.oneCell' = true) (N : Nat) (hN : n + m = N) (ys : List Value) (hys : xs ++ news = ys) (h63 : N ≤ maxLen) (hbytes : N * bytes ≤ 140737488355328) (hbase : base ≤ w.heap.size)
    (h : AppK w base e size v N ys fun v' w' => K (a.put o.dst v') w') : o.wp P a w K Q := by
  subst hN hys
  obtain ⟨v', w', hrun, h2, h3, h4⟩ := run_app w E o.type hown A m c news hr hl h1 h63 hbytes hbase
  unfold Oper.wp execOp
  simp only [ho, resolve, invoke, builtin, Sem.run_bind, Sem.run_pure, Result.andThen_ok, List.map_toArray, List.map_cons, List.map_nil, hs, hx, hrun]
  obtain ⟨A', c', rfl, _⟩ := own_form h2
  exact h A' c' w' h2 h3 h4 (below_grown (Below.refl _ _) h3 hbase hown)
theorem wpList_app {ops : Array Oper} {rest : List Oper} {o : Oper} {a : Act} {Q : Exit → Act → World → Prop} (hgd : o.guard = none) (s x : Operand) (t : TypeId)
    (ho : o.op = .call { callee := .builtin .append, args := #[s, x], argTypes := #[t, t] }) (E : Elem P t e size bytes)
    (hs : a.eval s = v) (hown : w.ownsRow base e size v n xs) (A : Option Addr) (m c : Nat) (hx : a.eval x = .slice A m c) (news : List Value) (hr : Sees w A news) (hl : news.length = m * size)
    (h1 : ∀ u ∈ news, u.oneCell' = true) (N : Nat) (hN : n + m = N) (ys : List Value) (hys : xs ++ news = ys) (h63 : N ≤ maxLen) (hbytes : N * bytes ≤ 140737488355328) (hbase : base ≤ w.heap.size)
    (h : AppK w base e size v N ys fun v' w' => wpList P ops Q rest (a.put o.dst v') w') : wpList P ops Q (o :: rest) a w :=
  wpList_plain hgd fun _ hK => wp_app s x t ho E hs hown A m c hx news hr hl h1 N hN ys hys h63 hbytes hbase fun A' c' w' h2 h3 h4 h5 => hK _ _ (h A' c' w' h2 h3 h4 h5)
theorem byte_one (l : List UInt8) : ∀ u ∈ l.map byteV, u.oneCell' = true := by
  intro u hu
  obtain ⟨b, _, rfl⟩ := List.mem_map.1 hu
  rfl
end
end Go.Proofs.YtkmhmehofipehaaGreatDoor
