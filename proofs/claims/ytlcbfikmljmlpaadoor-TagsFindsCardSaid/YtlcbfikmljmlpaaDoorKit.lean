/- Small general lemmas, used in all texts. -/
import Derived.WalkKit
import Derived.StillTailTactics
import Derived.Tactics
import Derived.Laws.Tables
import Derived.Laws.Rows
import Derived.Laws.CopyOwn
import Derived.OwnWalk
namespace Go.Proofs.YtlcbfikmljmlpaaDoor
set_option linter.unusedVariables false
open Go.RowKit
theorem hid {p : Prop} (h : p) : Hid p := h

theorem same {P : Program} {f : FuncId} {args : Array Value} {w : World} {v : Value} (h : Calls P f args w fun e w' => e = .returned v ∧ w = w') :
    Calls P f args w fun e w' => e = .returned v ∧ w' = w := h.mono fun _ _ ⟨a, b⟩ => ⟨a, b.symm⟩
theorem ret_bool {a b : Bool} (h : a = b) : Ending.returned (.bool a) = .returned (.bool b) := by rw [h]
theorem ret_int {k : IntKind} {a b : Int} (h : a = b) : Ending.returned (.int k a) = .returned (.int k b) := by rw [h]
theorem results_tmp4 {P : Program} {fn : Func} {t u v x : Tmp} (h : fn.results = #[.tmp t, .tmp u, .tmp v, .tmp x]) (tmps : Array Value) (w : World) :
    (results fn tmps).run P w = .ok (.tuple #[tmps.getD t undef, tmps.getD u undef, tmps.getD v undef, tmps.getD x undef]) w := by simp [results, h]
theorem addr_block (a : Addr) (n : Nat) : (a.add n).block = a.block := by unfold Addr.add; split <;> rfl
theorem addr_add (a : Addr) (i j : Nat) : (a.add i).add j = a.add (i + j) := by
  unfold Addr.add
  by_cases hi : i = 0 <;> by_cases hj : j = 0 <;> simp [hi, hj, Nat.add_assoc]

/-- a slice that begins at A reads as the values xs -/
def Sees (w : World) (A : Option Addr) (xs : List Value) : Prop :=
  ∀ (i : Nat) (v : Value), xs[i]? = some v → ∃ a, A = some a ∧ w.cell? (a.add i) = some v
/-- worlds that agree on all blocks that were there -/
def Keeps (w w' : World) : Prop := ∀ b, b < w.heap.size → w'.heap[b]? = w.heap[b]?
theorem Keeps.refl (w : World) : Keeps w w := fun _ _ => rfl
theorem Keeps.of_below {w w' : World} (h : Below w.heap.size w w') : Keeps w w' := h.block
theorem Sees.keep {w w' : World} {A : Option Addr} {xs : List Value} (h : Sees w A xs) (hk : Keeps w w') : Sees w' A xs := by
  intro i v hv
  obtain ⟨a, ha, hc⟩ := h i v hv
  have hlt := block_lt_of_cell hc
  exact ⟨a, ha, (World.cell?_of_block (w := w) (hk _ hlt)).trans hc⟩
theorem Sees.below {w w' : World} {A : Option Addr} {xs : List Value} (h : Sees w A xs) (hk : Below w.heap.size w w') : Sees w' A xs := h.keep hk.block
theorem Sees.nil (w : World) (A : Option Addr) : Sees w A [] := fun i v h => by simp at h
theorem Sees.cut {w : World} {A : Option Addr} {xs : List Value} (h : Sees w A xs) (k n cap : Nat) (hk : k + n ≤ cap) :
    Sees w (if cap = k then A else A.map (·.add k)) ((xs.drop k).take n) := by
  intro i v hv
  have hin : i < n := by
    rcases Nat.lt_or_ge i n with h1 | h1
    · exact h1
    · rw [List.getElem?_eq_none (by simp; omega)] at hv; cases hv
  rw [List.getElem?_take_of_lt hin, List.getElem?_drop] at hv
  obtain ⟨a, ha, hc⟩ := h _ v hv
  rw [if_neg (by omega)]
  exact ⟨a.add k, by rw [ha]; rfl, by rw [addr_add]; exact hc⟩
theorem Sees.take {w : World} {A : Option Addr} {xs : List Value} (h : Sees w A xs) (n : Nat) : Sees w A (xs.take n) := by
  intro i v hv
  have hin : i < n := by
    rcases Nat.lt_or_ge i n with h1 | h1
    · exact h1
    · rw [List.getElem?_eq_none (by simp; omega)] at hv; cases hv
  rw [List.getElem?_take_of_lt hin] at hv
  exact h _ v hv

/-- a byte as a value -/
def byteV (b : UInt8) : Value := .int .u8 (b.toNat : Int)
/-- a slice that begins at A reads as these bytes -/
def SeesB (w : World) (A : Option Addr) (l : List UInt8) : Prop := Sees w A (l.map byteV)
theorem SeesB.at {w : World} {A : Option Addr} {l : List UInt8} (h : SeesB w A l) {i : Nat} (hi : i < l.length) :
    ∃ a, A = some a ∧ w.cell? (a.add i) = some (.int .u8 (l[i].toNat : Int)) := h i _ (by simp [hi, byteV])
theorem SeesB.below {w w' : World} {A : Option Addr} {l : List UInt8} (h : SeesB w A l) (hk : Below w.heap.size w w') : SeesB w' A l := Sees.below h hk
theorem Sees.of_block {w : World} {g : Nat} {cs : Array Value} {t : TypeId} {fr : Nat × Nat} (h : w.heap[g]? = some (.cells cs t fr)) {xs : List Value} (hx : cs.toList = xs) : Sees w (some ⟨g, 0, none⟩) xs := by
  intro i v hv
  refine ⟨_, rfl, ?_⟩
  have e : (Addr.add ⟨g, 0, none⟩ i) = ⟨g, i, none⟩ := by unfold Addr.add; split <;> simp_all
  rw [e, cell_of_row w g i cs t fr h, ← Array.getElem?_toList, hx]; exact hv
theorem Sees.of_alloc (w : World) (cs : Array Value) (t : TypeId) {xs : List Value} (hx : cs.toList = xs) : Sees (w.alloc (.cells cs t)) (some ⟨w.heap.size, 0, none⟩) xs :=
  Sees.of_block (heap_alloc_new w _) hx
theorem byte_lt (b : UInt8) : (b.toNat : Int) < 256 := by have := b.toNat_lt; omega
section
variable {P : Program}
/-- a whole struct or array laid into a block of its size -/
theorem wp_store_row {o : Oper} {a : Act} {w : World} {K : Act → World → Prop} {Q : Exit → Act → World → Prop} (ty : TypeId) (x y : Operand) (ho : o.op = .store ty x y) (hd : o.dst = none)
    (g : Nat) (hx : a.eval x = .pointer (some ⟨g, 0, none⟩)) (cs : Array Value) (hy : a.eval y = .agg cs) (t : TypeId) (cur : Array Value) (hg : w.heap[g]? = some (.cells cur t (0, 0)))
    (hi : (P.info? ty).map (·.size) = some cs.size) (hs : cur.size = cs.size) (h1 : cs.all (·.oneCell') = true)
    (h : K a (w.setRow g cs)) : o.wp P a w K Q := by
  have hr := run_storeVar_row (P := P) w g t ty cur cs hg hi hs h1
  unfold Oper.wp execOp
  simp only [ho, hx, hy, Instr.storeAt, Instr.sureAddr, Sem.run_bind, Sem.run_pure, Result.andThen_ok, hr]
  have e : ∀ v, a.put o.dst v = a := by intro v; rw [hd]; rfl
  simp only [Oper.upon, e]
  exact h
theorem wpList_store_row {ops : Array Oper} {rest : List Oper} {o : Oper} {a : Act} {w : World} {Q : Exit → Act → World → Prop} (hgd : o.guard = none) (ty : TypeId) (x y : Operand) (ho : o.op = .store ty x y) (hd : o.dst = none)
    (g : Nat) (hx : a.eval x = .pointer (some ⟨g, 0, none⟩)) (cs : Array Value) (hy : a.eval y = .agg cs) (t : TypeId) (cur : Array Value) (hg : w.heap[g]? = some (.cells cur t (0, 0)))
    (hi : (P.info? ty).map (·.size) = some cs.size) (hs : cur.size = cs.size) (h1 : cs.all (·.oneCell') = true)
    (h : wpList P ops Q rest a (w.setRow g cs)) : wpList P ops Q (o :: rest) a w :=
  wpList_plain hgd fun _ hK => wp_store_row ty x y ho hd g hx cs hy t cur hg hi hs h1 (hK _ _ h)
end
end Go.Proofs.YtlcbfikmljmlpaaDoor
