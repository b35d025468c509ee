/- Operations of a region on whole rows: a load, and a store. -/
import Derived.Test.YtlcbfikmljmlpaaDoorHeld2
namespace Go.Proofs.YtlcbfikmljmlpaaDoor
set_option linter.unusedVariables false
open Go.RowKit
section
variable {P : Program} {S : World → Prop}
theorem held_load_row {o : Oper} {a : Act} {w : World} (ty : TypeId) (x : Operand) (ho : o.op = .load ty x) (g : Nat) (hx : a.eval x = .pointer (some ⟨g, 0, none⟩)) (cs : Array Value) (t : TypeId) (fr : Nat × Nat) (hg : w.heap[g]? = some (.cells cs t fr))
    (d : TypeDesc) (hu : P.underlying ty = some d) (hd : (match d with | .struct _ | .array _ _ => true | _ => false) = true) (hi : (P.info? ty).map (·.size) = some cs.size)
    (h : S w) : HeldUpon P S (.agg cs) ((execOp a.eval o).run P w) := by
  have hr := run_loadVar_row w g t ty cs fr d hg hu hd hi
  unfold execOp
  simp only [ho, hx, Instr.loadAt, Instr.sureAddr, Sem.run_bind, Sem.run_pure, Result.andThen_ok, hr]
  exact ⟨rfl, h⟩
theorem held_store_row {o : Oper} {a : Act} {w : World} (ty : TypeId) (x y : Operand) (ho : o.op = .store ty x y) (g : Nat) (hx : a.eval x = .pointer (some ⟨g, 0, none⟩)) (cs : Array Value) (hy : a.eval y = .agg cs) (t : TypeId) (cur : Array Value) (hg : w.heap[g]? = some (.cells cur t (0, 0)))
    (hi : (P.info? ty).map (·.size) = some cs.size) (hs : cur.size = cs.size) (h1 : cs.all (·.oneCell') = true)
    (h : S (w.setRow g cs)) : HeldUpon P S undef ((execOp a.eval o).run P w) := by
  have hr := run_storeVar_row (P := P) w g t ty cur cs hg hi hs h1
  unfold execOp
  simp only [ho, hx, hy, Instr.storeAt, Instr.sureAddr, Sem.run_bind, Sem.run_pure, Result.andThen_ok, hr]
  exact ⟨rfl, h⟩
end
/-- a row lies at r, another is made at q, nothing below B has turned -/
def RowsS (B r q : Nat) (t : TypeId) (cs : Array Value) (t2 : TypeId) (old new : Array Value) (w0 : World) (b : Bool) (w : World) : Prop :=
  w.heap[r]? = some (.cells cs t (0, 0)) ∧ w.heap[q]? = some (.cells (if b then new else old) t2 (0, 0)) ∧ Below B w0 w
theorem RowsS.below {B r q : Nat} {t t2 : TypeId} {cs old new : Array Value} {w0 w w' : World} {b : Bool} (h : RowsS B r q t cs t2 old new w0 b w) (hB : B ≤ w.heap.size) (hb : Below w.heap.size w w') : RowsS B r q t cs t2 old new w0 b w' :=
  ⟨(hb.block r (Array.getElem?_eq_some_iff.1 h.1).1).trans h.1, (hb.block q (Array.getElem?_eq_some_iff.1 h.2.1).1).trans h.2.1, h.2.2.trans (hb.mono hB)⟩
theorem RowsS.store {B r q : Nat} {t t2 : TypeId} {cs old new : Array Value} {w0 w : World} (h : RowsS B r q t cs t2 old new w0 false w) (hne : r ≠ q) (hB : B ≤ q) : RowsS B r q t cs t2 old new w0 true (w.setRow q new) :=
  ⟨(setRow_other w q r new hne).trans h.1, setRow_heap w q _ new t2 _ h.2.1, below_setRow h.2.2 hB new⟩
end Go.Proofs.YtlcbfikmljmlpaaDoor
