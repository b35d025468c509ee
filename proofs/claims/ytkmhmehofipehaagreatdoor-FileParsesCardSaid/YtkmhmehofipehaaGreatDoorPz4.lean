/- A region that draws its order, with one operation (number k) that turns the world from a state 'false' to a state 'true'; each other operation yields one value in either state, and keeps it: all orders come to one end. -/
import Derived.Test.YtkmhmehofipehaaGreatDoorPz3
import Derived.WalkKit
import Derived.Test.YtkmhmehofipehaaGreatDoorProg
import Derived.Test.YtkmhmehofipehaaGreatDoorPz1
import Derived.WalkSpells
import Derived.WalkLawsBesides
namespace Go.Proofs.YtkmhmehofipehaaGreatDoor
set_option linter.unusedVariables false
open Go.RowKit
section
variable {P : Program} {ops : Array Oper} {md : Region.Mode} {S : Bool → World → Prop} {k : Nat}
def HeldAt2 (P : Program) (ops : Array Oper) (S : Bool → World → Prop) (k i : Nat) (o : Oper) (v : Value) (a : Act) : Prop :=
  (Region.wanted o (yielded ops a.tmps) = true ∧ i ≠ k ∧ ∀ b w, S b w → HeldUpon P (S b) v ((execOp a.eval o).run P w)) ∨
  (Region.wanted o (yielded ops a.tmps) = true ∧ i = k ∧ ∀ w, S false w → HeldUpon P (S true) v ((execOp a.eval o).run P w)) ∨
  (Region.wanted o (yielded ops a.tmps) = false ∧ i ≠ k ∧ v = undef)
def hOp2 (P : Program) (ops : Array Oper) (S : Bool → World → Prop) (k i : Nat) (K : Act → Prop) (a : Act) : Prop :=
  match ops[i]? with
  | none => K a
  | some o => ∃ v, HeldAt2 P ops S k i o v a ∧ K (a.put o.dst v)
theorem hOp2_mono {i : Nat} {a : Act} {K K' : Act → Prop} (h : ∀ a, K a → K' a) (hh : hOp2 P ops S k i K a) : hOp2 P ops S k i K' a := by
  unfold hOp2 at *
  split
  · exact h _ (by simpa [*] using hh)
  · rename_i o ho
    simp only [ho] at hh
    obtain ⟨v, h1, h2⟩ := hh
    exact ⟨v, h1, h _ h2⟩
theorem HeldAt2.of_same {i : Nat} {o : Oper} {v : Value} {a a' : Act} (hy : HeldAt2 P ops S k i o v a) (he : execOp a'.eval o = execOp a.eval o)
    (hw : Region.wanted o (yielded ops a'.tmps) = Region.wanted o (yielded ops a.tmps)) : HeldAt2 P ops S k i o v a' := by
  unfold HeldAt2 at *
  rw [he, hw]
  exact hy
theorem hOp2_put {i j : Nat} {oi oj : Oper} {v : Value} (hj : ops[j]? = some oj) (hap : oi.apart ops oj = true)
    (hsi : ∀ cs b, oi.op ≠ .select cs b) (hsj : ∀ cs b, oj.op ≠ .select cs b) {K : Act → Prop} {a : Act}
    (hy : HeldAt2 P ops S k i oi v a) (h : hOp2 P ops S k j K (a.put oi.dst v)) :
    hOp2 P ops S k j (fun a' => HeldAt2 P ops S k i oi v a' ∧ K (a'.put oi.dst v)) a := by
  obtain ⟨h1, h2, h3⟩ := Oper.apart_spec hap
  unfold hOp2 at *
  simp only [hj] at *
  obtain ⟨u, hu, hK⟩ := h
  refine ⟨u, ?_, ?_, ?_⟩
  · exact hu.of_same (execOp_put oj hsj a oi.dst v h1).symm (wanted_put oj a oi.dst v h1).symm
  · exact hy.of_same (execOp_put oi hsi a oj.dst u h3) (wanted_put oi a oj.dst u h3)
  · rw [← Act.put_comm a v u h2]; exact hK
def wpAnyT2 (P : Program) (md : Region.Mode) (ops : Array Oper) (S : Bool → World → Prop) (k : Nat) (Q : Act → Prop) : Nat → Array Bool → Act → Prop
  | 0, listed, a => Region.ready md ops listed = [] ∧ listed.getD k true = true ∧ Q a
  | fuel + 1, listed, a =>
    (Region.ready md ops listed = [] → listed.getD k true = true ∧ Q a) ∧
    ∀ i ∈ Region.ready md ops listed, hOp2 P ops S k i (wpAnyT2 P md ops S k Q fuel (listed.setIfInBounds i true)) a
theorem wpAnyT2_first {Q : Act → Prop} {i : Nat} {oi : Oper} {v : Value} (hi : ops[i]? = some oi) (hsel : ∀ (j : Nat) (o : Oper) cs b, ops[j]? = some o → o.op ≠ .select cs b) :
    ∀ (fuel : Nat) (listed : Array Bool) (a : Act),
      (∀ j oj, ops[j]? = some oj → j ≠ i → listed.getD j true = false → (∀ e ∈ oj.after, Region.binds md e = true → e.on ≠ i) → oi.apart ops oj = true) →
      i ∈ Region.ready md ops listed → HeldAt2 P ops S k i oi v a →
      wpAnyT2 P md ops S k Q fuel (listed.setIfInBounds i true) (a.put oi.dst v) → wpAnyT2 P md ops S k Q (fuel + 1) listed a := by
  intro fuel
  induction fuel with
  | zero =>
    intro listed a _ hr hy H
    refine ⟨fun h => (by rw [h] at hr; cases hr), fun j hj => ?_⟩
    by_cases hji : j = i
    · subst hji; unfold hOp2; simp only [hi]; exact ⟨v, hy, H⟩
    · have := ready_mono hj hji
      rw [H.1] at this
      cases this
  | succ fuel ih =>
    intro listed a hfree hr hy H
    refine ⟨fun h => (by rw [h] at hr; cases hr), fun j hj => ?_⟩
    by_cases hji : j = i
    · subst hji; unfold hOp2; simp only [hi]; exact ⟨v, hy, H⟩
    · have h1 := H.2 j (ready_mono hj hji)
      obtain ⟨hjun, oj, hoj, hall⟩ := mem_ready.1 hj
      have hnot : ∀ e ∈ oj.after, Region.binds md e = true → e.on ≠ i := fun e he hb heq => by
        have h1 := hall e he hb
        have h0 := (mem_ready.1 hr).1
        rw [heq] at h1
        rcases Nat.lt_or_ge i listed.size with h' | h'
        · simp [h'] at h0 h1; rw [h0] at h1; cases h1
        · simp [Array.getElem?_eq_none h'] at h1
      have h2 := hOp2_put hoj (hfree j oj hoj hji hjun hnot) (fun cs b => hsel i oi cs b hi) (fun cs b => hsel j oj cs b hoj) hy h1
      have hfree' : ∀ m ok, ops[m]? = some ok → m ≠ i → (listed.setIfInBounds j true).getD m true = false →
          (∀ e ∈ ok.after, Region.binds md e = true → e.on ≠ i) → oi.apart ops ok = true := fun m ok hk hki hun hno => by
        refine hfree m ok hk hki ?_ hno
        by_cases hjk : j = m
        · subst hjk; exact hjun
        · rw [getD_set_ne true hjk] at hun; exact hun
      refine hOp2_mono (fun a' h3 => ih (listed.setIfInBounds j true) a' hfree' (ready_mono hr (Ne.symm hji)) h3.1 ?_) h2
      rw [Array.setIfInBounds_comm _ _ hji]
      exact h3.2
/-- the operations, one by one, in the order of the text -/
def wpHeld2 (P : Program) (ops : Array Oper) (S : Bool → World → Prop) (k : Nat) (Q : Act → Prop) : Nat → List Oper → Act → Prop
  | _, [], a => Q a
  | i, o :: rest, a => ∃ v, HeldAt2 P ops S k i o v a ∧ wpHeld2 P ops S k Q (i + 1) rest (a.put o.dst v)
theorem getD_set_self (listed : Array Bool) (i : Nat) : (listed.setIfInBounds i true).getD i true = true := by
  rcases Nat.lt_or_ge i listed.size with h | h
  · simp [h]
  · simp
theorem wpAnyT2_lex {Q : Act → Prop} (hs : Region.noSelect ops = true) : ∀ (l : List Oper) (c : Nat) (listed : Array Bool) (a : Act), (∀ j, l[j]? = ops[c + j]?) → listed.size = ops.size → (∀ j, j < c → listed.getD j true = true) →
    Region.lexFrom md ops l.length c listed = true → wpHeld2 P ops S k Q c l a → wpAnyT2 P md ops S k Q l.length listed a
  | [], c, listed, a, hl, hsz, hd, hB, h => ⟨by simpa [Region.lexFrom] using hB, by
      have hc : ops.size ≤ c := by have := hl 0; simpa using this
      rcases Nat.lt_or_ge k c with h1 | h1
      · exact hd k h1
      · have h2 : listed.size ≤ k := by omega
        simp [Array.getElem?_eq_none h2], h⟩
  | o :: l, c, listed, a, hl, hsz, hd, hB, h => by
    have h0 : ops[c]? = some o := by simpa using (hl 0).symm
    simp only [List.length_cons, Region.lexFrom, Bool.and_eq_true] at hB
    obtain ⟨⟨hr, hf⟩, hB'⟩ := hB
    obtain ⟨v, hy, hK⟩ := h
    refine wpAnyT2_first h0 (Region.noSelect_spec hs) l.length listed a (Region.free_spec h0 hf) (by simpa using hr) hy
      (wpAnyT2_lex hs l (c + 1) _ _ (fun j => by have := hl (j + 1); simpa [Nat.add_assoc, Nat.add_comm 1 j] using this) (by simpa using hsz) (fun j hj => ?_) hB' hK)
    by_cases hjc : c = j
    · subst hjc; exact getD_set_self _ _
    · rw [getD_set_ne true hjc]; exact hd j (by omega)
theorem wpOp_of_hOp2 {i : Nat} {a : Act} {w : World} {b : Bool} {K : Act → Prop} {K' : Act → World → Prop} {Q' : Exit → Act → World → Prop} (hi : i = k → b = false) (hw : S b w) (h : ∀ a w, S (if i = k then true else b) w → K a → K' a w) (hh : hOp2 P ops S k i K a) (hin : i < ops.size) : wpOp P ops Q' i K' a w := by
  unfold hOp2 at hh
  unfold wpOp
  split
  · rename_i ho; rw [Array.getElem?_eq_none_iff] at ho; omega
  · rename_i o ho
    simp only [ho] at hh
    obtain ⟨v, hy, hK⟩ := hh
    rcases hy with ⟨hwt, hne, hy⟩ | ⟨hwt, heq, hy⟩ | ⟨hwt, hne, rfl⟩
    · rw [if_neg hne] at h
      rw [if_pos hwt]
      left
      have hr := hy b w hw
      unfold Oper.wp
      generalize (execOp a.eval o).run P w = r at *
      cases r with
      | ok n w' =>
        cases n <;> simp only [HeldUpon] at hr <;> simp only [Oper.upon]
        case value u => obtain ⟨rfl, hs⟩ := hr; exact h _ _ hs hK
        case skip => obtain ⟨rfl, hs⟩ := hr; exact h _ _ hs hK
        case enter f args => exact hr.mono fun e w'' ⟨he, hs⟩ => by subst he; exact h _ _ hs hK
      | halt x w' => simp only [HeldUpon] at hr
    · rw [if_pos heq] at h
      obtain rfl := hi heq
      rw [if_pos hwt]
      left
      have hr := hy w hw
      unfold Oper.wp
      generalize (execOp a.eval o).run P w = r at *
      cases r with
      | ok n w' =>
        cases n <;> simp only [HeldUpon] at hr <;> simp only [Oper.upon]
        case value u => obtain ⟨rfl, hs⟩ := hr; exact h _ _ hs hK
        case skip => obtain ⟨rfl, hs⟩ := hr; exact h _ _ hs hK
        case enter f args => exact hr.mono fun e w'' ⟨he, hs⟩ => by subst he; exact h _ _ hs hK
      | halt x w' => simp only [HeldUpon] at hr
    · rw [if_neg hne] at h
      rw [if_neg (by rw [hwt]; simp)]
      exact h _ _ hw hK
theorem wpAny_of_held2 {Q : Act → Prop} {Q' : Exit → Act → World → Prop} (hQ : ∀ a w, S true w → Q a → Q' .normal a w) : ∀ (fuel : Nat) (listed : Array Bool) (a : Act) (w : World), S (listed.getD k true) w →
    wpAnyT2 P md ops S k Q fuel listed a → wpAny P md ops Q' fuel listed a w
  | 0, _, _, _, hw, h => ⟨h.1, hQ _ _ (by rw [h.2.1] at hw; exact hw) h.2.2⟩
  | fuel + 1, listed, _, _, hw, h => ⟨fun h0 => hQ _ _ (by rw [(h.1 h0).1] at hw; exact hw) (h.1 h0).2, fun i hi => by
      obtain ⟨hun, oi, hoi, _⟩ := mem_ready.1 hi
      refine wpOp_of_hOp2 (b := listed.getD k true) (fun hik => by subst hik; exact hun) hw (fun a' w' hw' => wpAny_of_held2 hQ fuel _ a' w' ?_) (h.2 i hi) (Array.getElem?_eq_some_iff.1 hoi).1
      by_cases hik : i = k
      · subst hik; rw [getD_set_self]; rw [if_pos rfl] at hw'; exact hw'
      · rw [getD_set_ne true hik]; rw [if_neg hik] at hw'; exact hw'⟩
theorem wp_region_held2 {id : Nat} {Q : Exit → Act → World → Prop} {a : Act} {w : World} {l : List Oper} (S : Bool → World → Prop) (k : Nat) (hk : k < l.length) (hm : P.follows .mixedOrders = true) (hB : Region.lexB .any l.toArray = true)
    (hS : S false { w with drawn := w.drawn + 1 }) (h : wpHeld2 P l.toArray S k (fun a' => ∀ w', S true w' → Q .normal a' w') 0 l a) : (Code.region id l.toArray true).wp P Q a w := by
  simp only [Region.lexB, Bool.and_eq_true] at hB
  refine wp_region_any hm (wpAny_of_held2 (S := S) (k := k) (Q := fun a' => ∀ w', S true w' → Q .normal a' w') (fun a' w' hw' h => h w' hw') _ _ _ _ ?_ ?_)
  · have : (Array.replicate l.toArray.size false).getD k true = false := by simp [hk]
    rw [this]; exact hS
  have := wpAnyT2_lex (P := P) (S := S) (k := k) (Q := fun a' => ∀ w', S true w' → Q .normal a' w') (md := .any) hB.1 l 0 (Array.replicate l.toArray.size false) a (by simp) (by simp) (fun j hj => by omega) (by simpa using hB.2) h
  simpa using this
theorem held2_yes {Q : Act → Prop} {i : Nat} {o : Oper} {rest : List Oper} {a : Act} {v : Value} (hw : Region.wanted o (yielded ops a.tmps) = true) (hne : i ≠ k) (h : ∀ b w, S b w → HeldUpon P (S b) v ((execOp a.eval o).run P w)) (c : wpHeld2 P ops S k Q (i + 1) rest (a.put o.dst v)) : wpHeld2 P ops S k Q i (o :: rest) a :=
  ⟨v, .inl ⟨hw, hne, h⟩, c⟩
theorem held2_at {Q : Act → Prop} {i : Nat} {o : Oper} {rest : List Oper} {a : Act} {v : Value} (hw : Region.wanted o (yielded ops a.tmps) = true) (heq : i = k) (h : ∀ w, S false w → HeldUpon P (S true) v ((execOp a.eval o).run P w)) (c : wpHeld2 P ops S k Q (i + 1) rest (a.put o.dst v)) : wpHeld2 P ops S k Q i (o :: rest) a :=
  ⟨v, .inr (.inl ⟨hw, heq, h⟩), c⟩
theorem held2_no {Q : Act → Prop} {i : Nat} {o : Oper} {rest : List Oper} {a : Act} (hw : Region.wanted o (yielded ops a.tmps) = false) (hne : i ≠ k) (c : wpHeld2 P ops S k Q (i + 1) rest (a.put o.dst undef)) : wpHeld2 P ops S k Q i (o :: rest) a :=
  ⟨undef, .inr (.inr ⟨hw, hne, rfl⟩), c⟩
theorem held2_nil {Q : Act → Prop} {i : Nat} {a : Act} (h : Q a) : wpHeld2 P ops S k Q i [] a := h
end
end Go.Proofs.YtkmhmehofipehaaGreatDoor
/- Operations of a region on whole rows: a load, and a store. -/
namespace Go.Proofs.YtkmhmehofipehaaGreatDoor
set_option linter.unusedVariables false
open Go.RowKit
section
variable {P : Program} {S : World → Prop}
theorem held_load_row {o : Oper} {a : Act} {w : World} (ty : TypeId) (x : Operand) (ho : o.op = .load ty x) (g : Nat) (hx : a.eval x = .pointer (some ⟨g, 0, none⟩)) (cs : Array Value) (t : TypeId) (fr : Nat × Nat) (hg : w.heap[g]? = some (.cells cs t fr))
    (d : TypeDesc) (hu : P.underlying ty = some d) (hd : (match d with | .struct _ | .array _ _ => true | _ => false) = true) (hi : (P.info? ty).map (·.size) = some cs.size)
    (h : S w) : HeldUpon P S (.agg cs) ((execOp a.eval o).run P w) := by
  have hr := run_loadVar_row w g t ty cs fr d hg hu hd hi
  unfold execOp
  simp only [ho, hx, Instr.loadAt, Instr.sureAddr, Sem.run_bind, Sem.run_pure, Result.andThen_ok, hr]
  exact ⟨rfl, h⟩
theorem held_store_row {o : Oper} {a : Act} {w : World} (ty : TypeId) (x y : Operand) (ho : o.op = .store ty x y) (g : Nat) (hx : a.eval x = .pointer (some ⟨g, 0, none⟩)) (cs : Array Value) (hy : a.eval y = .agg cs) (t : TypeId) (cur : Array Value) (hg : w.heap[g]? = some (.cells cur t (0, 0)))
    (hi : (P.info? ty).map (·.size) = some cs.size) (hs : cur.size = cs.size) (h1 : cs.all (·.oneCell') = true)
    (h : S (w.setRow g cs)) : HeldUpon P S undef ((execOp a.eval o).run P w) := by
  have hr := run_storeVar_row (P := P) w g t ty cur cs hg hi hs h1
  unfold execOp
  simp only [ho, hx, hy, Instr.storeAt, Instr.sureAddr, Sem.run_bind, Sem.run_pure, Result.andThen_ok, hr]
  exact ⟨rfl, h⟩
end
/-- a row lies at r, another is made at q, nothing below B has turned -/
def RowsS (B r q : Nat) (t : TypeId) (cs : Array Value) (t2 : TypeId) (old new : Array Value) (w0 : World) (b : Bool) (w : World) : Prop :=
  w.heap[r]? = some (.cells cs t (0, 0)) ∧ w.heap[q]? = some (.cells (if b then new else old) t2 (0, 0)) ∧ Below B w0 w
theorem RowsS.below {B r q : Nat} {t t2 : TypeId} {cs old new : Array Value} {w0 w w' : World} {b : Bool} (h : RowsS B r q t cs t2 old new w0 b w) (hB : B ≤ w.heap.size) (hb : Below w.heap.size w w') : RowsS B r q t cs t2 old new w0 b w' :=
  ⟨(hb.block r (Array.getElem?_eq_some_iff.1 h.1).1).trans h.1, (hb.block q (Array.getElem?_eq_some_iff.1 h.2.1).1).trans h.2.1, h.2.2.trans (hb.mono hB)⟩
theorem RowsS.store {B r q : Nat} {t t2 : TypeId} {cs old new : Array Value} {w0 w : World} (h : RowsS B r q t cs t2 old new w0 false w) (hne : r ≠ q) (hB : B ≤ q) : RowsS B r q t cs t2 old new w0 true (w.setRow q new) :=
  ⟨(setRow_other w q r new hne).trans h.1, setRow_heap w q _ new t2 _ h.2.1, below_setRow h.2.2 hB new⟩
end Go.Proofs.YtkmhmehofipehaaGreatDoor
/- A block's head, taken field by field. -/
namespace Go.Proofs.YtkmhmehofipehaaGreatDoor
set_option linter.unusedVariables false
open Go.RowKit
def okH (l : List UInt8) : Bool := decide (fldH l 3 1 ≤ 1) && rightH (fldH l 2 1 : Nat) (fldH l 4 4 : Nat) (fldH l 8 4 : Nat) (fldH l 12 4 : Nat) (fldH l 16 4 : Nat) (fldH l 3 1 == 1) (fldH l 20 4 : Nat) (fldH l 24 4 : Nat)
def TakeHPost (w : World) (l : List UInt8) (e : Ending) (w' : World) : Prop :=
  e = .returned (.tuple #[.agg #[.int .i64 (fldH l 2 1 : Nat), .int .i64 (fldH l 4 4 : Nat), .int .i64 (fldH l 8 4 : Nat), .int .i64 (fldH l 12 4 : Nat), .int .i64 (fldH l 16 4 : Nat), .bool (fldH l 3 1 == 1), .int .u32 (fldH l 20 4 : Nat), .int .i64 (fldH l 24 4 : Nat)], .bool (okH l)]) ∧ Below w.heap.size w w'
/-- a taker is not touched by a store into a block of other values -/
theorem Tk.setFar {w : World} {g r : Nat} {err : Int} {p : Nat} {l : List UInt8} {cs : Array Value} {t : TypeId} {fr : Nat × Nat} (h : Tk w g err p l) (hr : w.heap[r]? = some (.cells cs t fr)) (hcs : ∀ (j : Nat) (v : Value), cs[j]? = some v → ∃ z, v = .int .i64 z) (hne : r ≠ g) (j : Nat) (v : Value) : Tk (w.setCell ⟨r, j, none⟩ v) g err p l := by
  obtain ⟨A, c, hg, hs, h1, h2, h3, h4⟩ := h
  refine ⟨A, c, (heap_setCell_other w ⟨r, j, none⟩ g v (fun h => hne h.symm)).trans hg, ?_, h1, h2, h3, h4⟩
  intro i u hu
  obtain ⟨a, ha, hc⟩ := hs i u hu
  refine ⟨a, ha, (World.cell?_of_block (w := w) ?_).trans hc⟩
  refine heap_setCell_other w ⟨r, j, none⟩ _ v ?_
  rw [addr_block]
  intro hb
  have hb' : a.block = r := hb
  have hcc := hc
  unfold World.cell? at hcc
  rw [addr_block, hb', hr] at hcc
  have hcc2 : cs[(a.add i).off]? = some u := by
    dsimp only at hcc
    split at hcc
    · cases hcc
    · exact hcc
  obtain ⟨z, hz⟩ := hcs _ _ hcc2
  rw [hz, List.getElem?_map] at hu
  cases h5 : l[i]? with
  | none => rw [h5] at hu; cases hu
  | some b => rw [h5] at hu; simp [byteV] at hu
def SixTo (w : World) (g : Nat) (l : List UInt8) (n : Nat) : Prop :=
  ∃ cs : Array Value, w.heap[g]? = some (.cells cs 157 (0, 0)) ∧ cs.size = 6 ∧ (∀ (j : Nat) (v : Value), cs[j]? = some v → ∃ z, v = .int .i64 z) ∧ ∀ j : Nat, j < n → cs[j]? = some (.int .i64 (fldH l (4 + 4 * j) 4 : Nat))
theorem SixTo.next {w : World} {g n : Nat} {l : List UInt8} (h : SixTo w g l n) (hn : n < 6) (y : Nat) (hy : y = fldH l (4 + 4 * n) 4) : SixTo (w.setCell ⟨g, n, none⟩ (.int .i64 (y : Int))) g l (n + 1) := by
  obtain ⟨cs, hcs, hsz, hi, hv⟩ := h
  subst hy
  refine ⟨_, heap_setCell_same _ _ _ _ _ _ hcs, by simpa using hsz, fun j v hj => ?_, fun j hj => ?_⟩
  · by_cases hjn : n = j
    · subst hjn
      have h2 : v = .int .i64 ((fldH l (4 + 4 * n) 4 : Nat) : Int) := by simpa [hsz, hn, eq_comm] using hj
      exact ⟨_, h2⟩
    · have h2 : cs[j]? = some v := by simpa [hjn] using hj
      exact hi j v h2
  · by_cases hjn : n = j
    · subst hjn; simp [hsz, hn]
    · have := hv j (by omega)
      simpa [hjn] using this
theorem SixTo.cell {w : World} {g n : Nat} {l : List UInt8} (h : SixTo w g l n) (j : Nat) (hj : j < n) : w.cell? ⟨g, j, none⟩ = some (.int .i64 (fldH l (4 + 4 * j) 4 : Nat)) := by
  obtain ⟨cs, hcs, _, _, hv⟩ := h
  rw [cell_of_row _ _ _ _ _ _ hcs]; exact hv j hj
set_option maxRecDepth 40000 in
set_option maxHeartbeats 8000000 in
theorem htake_any (A : Option Addr) (c : Nat) (l : List UInt8) (w : World) (hl : SeesB w A l) (hn : 32 ≤ l.length) (hlen : l.length ≤ 140737488355328) :
    Calls Tryz.prog 92 #[.slice A l.length c] w (TakeHPost w l) := by
  have hb : Below w.heap.size w (w.alloc (.cells #[.int .i64 0, .int .i64 0, .int .i64 0, .int .i64 0, .int .i64 0, .bool false, .int .u32 0, .int .i64 0] 67)) := (Below.refl _ w).alloc (Nat.le_refl _) _
  have hrow := heap_alloc_new w (.cells #[.int .i64 0, .int .i64 0, .int .i64 0, .int .i64 0, .int .i64 0, .bool false, .int .u32 0, .int .i64 0] 67)
  go_enter Tryz.func92, Tryz.ntmps92
  go_wp2_with fail
  generalize w.alloc (.cells #[.int .i64 0, .int .i64 0, .int .i64 0, .int .i64 0, .int .i64 0, .bool false, .int .u32 0, .int .i64 0] 67) = w0 at *
  have hlt0 : w.heap.size < w0.heap.size := (Array.getElem?_eq_some_iff.1 hrow).1
  refine (take_any A c l w0 (hl.below hb) hlen).mono ?_
  rintro e w1 ⟨g, rfl, hg, hT1, hb1⟩
  have hbw1 := hb.trans (hb1.mono hb.size)
  have hrow1 := (hb1.block w.heap.size hlt0).trans hrow
  have hlt1 := Nat.lt_of_lt_of_le hlt0 hb1.size
  have hwg : w.heap.size < g := Nat.lt_of_lt_of_le hlt0 hg
  have HR := hid (traw_any g 0 0 2 l w1 hT1 hlen (by omega))
  rw [show takeRaw (0, 0) l 2 = ((0, 2), (l.drop 0).take 2) by unfold takeRaw tnext; rw [if_neg (by simp), if_neg (by omega), if_neg (by show ¬ l.length - 0 < 2; omega)]; rfl] at HR
  clear hb hb1 hrow
  go_wp2_with fail
  refine HR.out.mono ?_
  rintro e w2 ⟨A2, c2, rfl, _, _, _, _, hT2, hB2⟩
  have hbw2 := But.below hbw1 hB2 (fun b h => by have h2 : b = g := h; omega) hbw1.size
  have hrow2 := (hB2.block w.heap.size hlt1 (fun h => by have h2 : w.heap.size = g := h; omega)).trans hrow1
  have hlt2 := Nat.lt_of_lt_of_le hlt1 hB2.size
  have HU := hid (takerU_any g 0 2 1 l w2 hT2 hlen)
  rw [show takeU (0, 2) l 1 = ((0, 3), (l.drop 2).take 1) from takeU_at 2 1 l (by omega) (by omega)] at HU
  unfold UPost at HU
  rw [show valLE ((l.drop 2).take 1) = fldH l 2 1 from rfl] at HU
  obtain ⟨K, hK⟩ : ∃ K, K = fldH l 2 1 := ⟨_, rfl⟩
  have hK2 : K < 256 := by rw [hK]; exact fldH_lt l 2 1
  rw [← hK] at HU
  have HK := hid hK
  clear hK hbw1 hrow1 hlt1 HR hB2 hT1
  go_wp2_with fail
  refine HU.out.mono ?_
  rintro e w3 ⟨rfl, hT3, hB3⟩
  have hbw3 := But.below hbw2 hB3 (fun b h => by have h2 : b = g := h; omega) hbw2.size
  have hrow3 := (hB3.block w.heap.size hlt2 (fun h => by have h2 : w.heap.size = g := h; omega)).trans hrow2
  have hlt3 := Nat.lt_of_lt_of_le hlt2 hB3.size
  have HV := hid (takerU_any g 0 3 1 l w3 hT3 hlen)
  rw [show takeU (0, 3) l 1 = ((0, 4), (l.drop 3).take 1) from takeU_at 3 1 l (by omega) (by omega)] at HV
  unfold UPost at HV
  rw [show valLE ((l.drop 3).take 1) = fldH l 3 1 from rfl] at HV
  obtain ⟨L, hL⟩ : ∃ L, L = fldH l 3 1 := ⟨_, rfl⟩
  have hL2 : L < 256 := by rw [hL]; exact fldH_lt l 3 1
  rw [← hL] at HV
  have HL := hid hL
  clear hL hbw2 hrow2 hlt2 HU hB3 hT2
  go_wp2_with fail
  refine HV.out.mono ?_
  rintro e w4 ⟨rfl, hT4, hB4⟩
  have hbw4 := But.below hbw3 hB4 (fun b h => by have h2 : b = g := h; omega) hbw3.size
  have hrow4 := (hB4.block w.heap.size hlt3 (fun h => by have h2 : w.heap.size = g := h; omega)).trans hrow3
  have hlt4 := Nat.lt_of_lt_of_le hlt3 hB4.size
  have hgl : g < w4.heap.size := by obtain ⟨_, _, hg0, _⟩ := hT4; exact (Array.getElem?_eq_some_iff.1 hg0).1
  have hb5 : Below w4.heap.size w4 (w4.alloc (.cells #[.int .i64 0, .int .i64 0, .int .i64 0, .int .i64 0, .int .i64 0, .int .i64 0] 157)) := (Below.refl _ _).alloc (Nat.le_refl _) _
  have har := heap_alloc_new w4 (.cells #[.int .i64 0, .int .i64 0, .int .i64 0, .int .i64 0, .int .i64 0, .int .i64 0] 157)
  have hbw5 := hbw4.trans (hb5.mono hbw4.size)
  have hrow5 := (hb5.block w.heap.size hlt4).trans hrow4
  have hT5 := hT4.below hb5
  have hS5 : SixTo (w4.alloc (.cells #[.int .i64 0, .int .i64 0, .int .i64 0, .int .i64 0, .int .i64 0, .int .i64 0] 157)) w4.heap.size l 0 := ⟨_, har, rfl, fun j v h => by
    have h2 := Array.mem_of_getElem? h
    simp at h2
    exact ⟨0, h2⟩, fun j h => by omega⟩
  clear hbw3 hrow3 hlt3 HV hB4 hT3 hb5 har hbw4 hrow4 hT4
  go_wp2_with fail
  generalize w4.alloc (.cells #[.int .i64 0, .int .i64 0, .int .i64 0, .int .i64 0, .int .i64 0, .int .i64 0] 157) = w5 at *
  go_loopw [9, 21] (fun x i wr => ∃ n : Nat, n ≤ 6 ∧ i = .int .i64 n ∧ Tk wr g 0 (4 + 4 * n) l ∧ SixTo wr w4.heap.size l n ∧ wr.heap[w.heap.size]? = some (.cells #[.int .i64 0, .int .i64 0, .int .i64 0, .int .i64 0, .int .i64 0, .bool false, .int .u32 0, .int .i64 0] 67 (0, 0)) ∧ Below w.heap.size w wr) (fun _ i _ => 6 - (intOf i).toNat)
  case atStart => exact ⟨0, by omega, rfl, hT5, hS5, hrow5, hbw5⟩
  case round =>
    clear hT5 hS5 hrow5 hbw5
    obtain ⟨n, hn6, rfl, hT, hS, hrow, hbw⟩ := hrel
    by_cases hlt : n < 6
    · have d1 : decide ((n : Int) < 6) = true := by simp; omega
      have HW := hid (takerU_any g 0 (4 + 4 * n) 4 l wr hT hlen)
      rw [show takeU (0, 4 + 4 * n) l 4 = ((0, 4 + 4 * n + 4), (l.drop (4 + 4 * n)).take 4) from takeU_at (4 + 4 * n) 4 l (by omega) (by omega)] at HW
      unfold UPost at HW
      rw [show valLE ((l.drop (4 + 4 * n)).take 4) = fldH l (4 + 4 * n) 4 from rfl] at HW
      obtain ⟨y, hy⟩ : ∃ y, y = fldH l (4 + 4 * n) 4 := ⟨_, rfl⟩
      have hy2 : y < 4294967296 := by rw [hy]; exact fldH_lt l (4 + 4 * n) 4
      rw [← hy] at HW
      have HY := hid hy
      clear hy
      go_wp2_with fail
      refine HW.out.mono ?_
      rintro e w6 ⟨rfl, hT6, hB6⟩
      have hS6 : SixTo w6 w4.heap.size l n := by
        obtain ⟨cs, hcs, hx⟩ := hS
        exact ⟨cs, (hB6.block w4.heap.size (Array.getElem?_eq_some_iff.1 hcs).1 (fun h => by have h2 : w4.heap.size = g := h; omega)).trans hcs, hx⟩
      have hrow6 := (hB6.block w.heap.size (Array.getElem?_eq_some_iff.1 hrow).1 (fun h => by have h2 : w.heap.size = g := h; omega)).trans hrow
      have hbw6 := But.below hbw hB6 (fun b h => by have h2 : b = g := h; omega) hbw.size
      have HS6 := hid hS6
      obtain ⟨cs, hcs, hsz, hci, hcv⟩ := hS6
      obtain ⟨v0, k0⟩ : ∃ v0, w6.cell? ⟨w4.heap.size, n, none⟩ = some v0 := ⟨_, (cell_of_row w6 _ n cs _ _ hcs).trans (Array.getElem?_eq_getElem (by omega))⟩
      have k1 : w6.frozen? ⟨w4.heap.size, n, none⟩ = false := frozen_of_row w6 _ n cs _ hcs
      have hT7 := fun v => hT6.setFar hcs hci (by omega) n v
      have hS7 := HS6.out.next hlt y HY.out
      have hrow7 := fun v => (heap_setCell_other w6 ⟨w4.heap.size, n, none⟩ w.heap.size v (by show w.heap.size ≠ w4.heap.size; omega)).trans hrow6
      have hbw7 := fun v => hbw6.setCell (p := ⟨w4.heap.size, n, none⟩) (by show w.heap.size ≤ w4.heap.size; omega) v
      have hyw : IntKind.i64.wrap (y : Int) = (y : Int) := by rw [IntKind.wrap_i64]; omega
      clear hcs hsz hci hcv HS6 hrow6 hbw6 hT6 hB6 hT hS hrow hbw HW HY
      have hy8 : (y : Int) < 9223372036854775808 := by omega
      go_wp2_with fail
      go_roundw
      case rel => exact ⟨n + 1, by omega, by go_num, by rw [show 4 + 4 * (n + 1) = 4 + 4 * n + 4 by omega]; exact hT7 _, hS7, hrow7 _, hbw7 _⟩
      case measure => simp [intOf]; omega
    · obtain rfl : n = 6 := by omega
      have a0 := hS.cell 0 (by omega)
      have a1 := hS.cell 1 (by omega)
      have a2 := hS.cell 2 (by omega)
      have a3 := hS.cell 3 (by omega)
      have a4 := hS.cell 4 (by omega)
      have a5 := hS.cell 5 (by omega)
      clear hS hT
      obtain ⟨N0, hN0⟩ : ∃ N, N = fldH l (4 + 4 * 0) 4 := ⟨_, rfl⟩
      have hM0 : N0 < 4294967296 := by rw [hN0]; exact fldH_lt l _ 4
      rw [← hN0] at a0
      obtain ⟨N1, hN1⟩ : ∃ N, N = fldH l (4 + 4 * 1) 4 := ⟨_, rfl⟩
      have hM1 : N1 < 4294967296 := by rw [hN1]; exact fldH_lt l _ 4
      rw [← hN1] at a1
      obtain ⟨N2, hN2⟩ : ∃ N, N = fldH l (4 + 4 * 2) 4 := ⟨_, rfl⟩
      have hM2 : N2 < 4294967296 := by rw [hN2]; exact fldH_lt l _ 4
      rw [← hN2] at a2
      obtain ⟨N3, hN3⟩ : ∃ N, N = fldH l (4 + 4 * 3) 4 := ⟨_, rfl⟩
      have hM3 : N3 < 4294967296 := by rw [hN3]; exact fldH_lt l _ 4
      rw [← hN3] at a3
      obtain ⟨N4, hN4⟩ : ∃ N, N = fldH l (4 + 4 * 4) 4 := ⟨_, rfl⟩
      have hM4 : N4 < 4294967296 := by rw [hN4]; exact fldH_lt l _ 4
      rw [← hN4] at a4
      obtain ⟨N5, hN5⟩ : ∃ N, N = fldH l (4 + 4 * 5) 4 := ⟨_, rfl⟩
      have hM5 : N5 < 4294967296 := by rw [hN5]; exact fldH_lt l _ 4
      rw [← hN5] at a5
      have hfin : Hid (∀ b wz, b = (decide (L ≤ 1) && rightH (K : Int) (N0 : Int) (N1 : Int) (N2 : Int) (N3 : Int) (L == 1) (N4 : Int) (N5 : Int)) → Below w.heap.size w wz → TakeHPost w l (.returned (.tuple #[.agg #[.int .i64 K, .int .i64 N0, .int .i64 N1, .int .i64 N2, .int .i64 N3, .bool (L == 1), .int .u32 N4, .int .i64 N5], .bool b])) wz) := hid (fun b wz hb hz => by
        subst hb
        rw [HK.out, HL.out, hN0, hN1, hN2, hN3, hN4, hN5]
        exact ⟨rfl, hz⟩)
      clear hN0 hN1 hN2 hN3 hN4 hN5 HK HL
      have e4 : (N4 : Int) < 4294967296 := by omega
      obtain ⟨lst, hlst⟩ : ∃ b, b = (L == 1) := ⟨_, rfl⟩
      have el : ((L : Int) == 1) = lst := by rw [hlst, Bool.eq_iff_iff]; simp; omega
      rw [← hlst] at hfin
      have HLS := hid hlst
      clear hlst
      have hb8 : Below wr.heap.size wr (wr.alloc (.cells #[.int .i64 K, .int .i64 N0, .int .i64 N1, .int .i64 N2, .int .i64 N3, .bool lst, .int .u32 N4, .int .i64 N5] 67)) := (Below.refl _ _).alloc (Nat.le_refl _) _
      have hr8 := heap_alloc_new wr (.cells #[.int .i64 K, .int .i64 N0, .int .i64 N1, .int .i64 N2, .int .i64 N3, .bool lst, .int .u32 N4, .int .i64 N5] 67)
      have hbw8 := hbw.trans (hb8.mono hbw.size)
      have hrow8 := (hb8.block w.heap.size (Array.getElem?_eq_some_iff.1 hrow).1).trans hrow
      have hwlt : w.heap.size < wr.heap.size := (Array.getElem?_eq_some_iff.1 hrow).1
      clear hb8 hbw

      by_cases h1 : L ≤ 1
      · have d1 : decide ((L : Int) ≤ 1) = true := by simp; omega
        go_wp2_with fail
        obtain ⟨w8, hw8⟩ : ∃ W, W = wr.alloc (.cells #[.int .i64 K, .int .i64 N0, .int .i64 N1, .int .i64 N2, .int .i64 N3, .bool lst, .int .u32 N4, .int .i64 N5] 67) := ⟨_, rfl⟩
        rw [← hw8]
        rw [← hw8] at hr8 hbw8 hrow8
        clear hw8 a0 a1 a2 a3 a4 a5 hrow hM0 hM1 hM2 hM3 hM4 hM5 HLS
        refine wp_region_held2 (RowsS w.heap.size wr.heap.size w.heap.size 67 #[.int .i64 K, .int .i64 N0, .int .i64 N1, .int .i64 N2, .int .i64 N3, .bool lst, .int .u32 N4, .int .i64 N5] 67 #[.int .i64 0, .int .i64 0, .int .i64 0, .int .i64 0, .int .i64 0, .bool false, .int .u32 0, .int .i64 0] #[.int .i64 K, .int .i64 N0, .int .i64 N1, .int .i64 N2, .int .i64 N3, .bool lst, .int .u32 N4, .int .i64 N5] w) 7 (by decide) (by kernel_rfl) (by kernel_rfl) ⟨hr8, hrow8, hbw8.drew⟩ ?_
        refine held2_yes (by rfl) (by decide) (fun b w' h => held_load_row 67 _ rfl wr.heap.size (by rfl) _ _ _ h.1 _ Tryz.underlying67 rfl (by kernel_rfl) h) ?_
        (try simp only [Act.put, List.setIfInBounds_toArray, List.set_cons_zero, List.set_cons_succ])
        repeat (first
          | (refine held2_no (by rfl) (by decide) ?_; (try simp only [Act.put, List.setIfInBounds_toArray, List.set_cons_zero, List.set_cons_succ]))
          | (refine held2_yes (by rfl) (by decide) (fun b w' h => held_load_row 67 _ rfl wr.heap.size (by rfl) _ _ _ h.1 _ Tryz.underlying67 rfl (by kernel_rfl) h) ?_; (try simp only [Act.put, List.setIfInBounds_toArray, List.set_cons_zero, List.set_cons_succ]))
          | (refine held2_at (by rfl) rfl (fun w' h => held_store_row 67 _ _ rfl w.heap.size (by rfl) _ (by rfl) _ _ h.2.1 (by kernel_rfl) (by rfl) (by simp [Value.oneCell']) (h.store (by omega) (Nat.le_refl _))) ?_; (try simp only [Act.put]))
          | (apply held2_yes (by rfl) (by decide); (· intro b w' h; go_simp; first | exact rfl | exact ⟨rfl, h⟩ | exact h | exact (hright_any K N0 N1 N2 N3 lst N4 N5 _).mono (fun e w'' ⟨he, hb⟩ => ⟨he, h.below h.2.2.size hb⟩)); (try simp only [Act.put, List.setIfInBounds_toArray, List.set_cons_zero, List.set_cons_succ])))
        refine held2_nil ?_
        rintro w9 ⟨_, hq0, hbw9⟩
        have hq : w9.heap[w.heap.size]? = some (.cells #[.int .i64 K, .int .i64 N0, .int .i64 N1, .int .i64 N2, .int .i64 N3, .bool lst, .int .u32 N4, .int .i64 N5] 67 (0, 0)) := hq0
        clear hq0
        go_wp2_with fail
        have hfo := hfin.out (rightH (K : Int) (N0 : Int) (N1 : Int) (N2 : Int) (N3 : Int) lst (N4 : Int) (N5 : Int)) w9 (by rw [show decide (L ≤ 1) = true by simpa using h1]; rfl) hbw9
        exact bodyPost_ret (v := .tuple #[.agg #[.int .i64 K, .int .i64 N0, .int .i64 N1, .int .i64 N2, .int .i64 N3, .bool lst, .int .u32 N4, .int .i64 N5], .bool (rightH (K : Int) (N0 : Int) (N1 : Int) (N2 : Int) (N3 : Int) lst (N4 : Int) (N5 : Int))]) (results_row_tmp (fn := Tryz.f92) (p := 2) (u := 3) (ty := 67) rfl _ _ w.heap.size _ _ _ _ rfl hq Tryz.underlying67 rfl (by kernel_rfl)) rfl hfo
      · have d1 : decide ((L : Int) ≤ 1) = false := by simp; omega
        go_wp2_with fail
        obtain ⟨w8, hw8⟩ : ∃ W, W = wr.alloc (.cells #[.int .i64 K, .int .i64 N0, .int .i64 N1, .int .i64 N2, .int .i64 N3, .bool lst, .int .u32 N4, .int .i64 N5] 67) := ⟨_, rfl⟩
        rw [← hw8]
        rw [← hw8] at hr8 hbw8 hrow8
        clear hw8 a0 a1 a2 a3 a4 a5 hrow hM0 hM1 hM2 hM3 hM4 hM5 HLS
        refine wp_region_held2 (RowsS w.heap.size wr.heap.size w.heap.size 67 #[.int .i64 K, .int .i64 N0, .int .i64 N1, .int .i64 N2, .int .i64 N3, .bool lst, .int .u32 N4, .int .i64 N5] 67 #[.int .i64 0, .int .i64 0, .int .i64 0, .int .i64 0, .int .i64 0, .bool false, .int .u32 0, .int .i64 0] #[.int .i64 K, .int .i64 N0, .int .i64 N1, .int .i64 N2, .int .i64 N3, .bool lst, .int .u32 N4, .int .i64 N5] w) 7 (by decide) (by kernel_rfl) (by kernel_rfl) ⟨hr8, hrow8, hbw8.drew⟩ ?_
        refine held2_yes (by rfl) (by decide) (fun b w' h => held_load_row 67 _ rfl wr.heap.size (by rfl) _ _ _ h.1 _ Tryz.underlying67 rfl (by kernel_rfl) h) ?_
        (try simp only [Act.put, List.setIfInBounds_toArray, List.set_cons_zero, List.set_cons_succ])
        repeat (first
          | (refine held2_no (by rfl) (by decide) ?_; (try simp only [Act.put, List.setIfInBounds_toArray, List.set_cons_zero, List.set_cons_succ]))
          | (refine held2_yes (by rfl) (by decide) (fun b w' h => held_load_row 67 _ rfl wr.heap.size (by rfl) _ _ _ h.1 _ Tryz.underlying67 rfl (by kernel_rfl) h) ?_; (try simp only [Act.put, List.setIfInBounds_toArray, List.set_cons_zero, List.set_cons_succ]))
          | (refine held2_at (by rfl) rfl (fun w' h => held_store_row 67 _ _ rfl w.heap.size (by rfl) _ (by rfl) _ _ h.2.1 (by kernel_rfl) (by rfl) (by simp [Value.oneCell']) (h.store (by omega) (Nat.le_refl _))) ?_; (try simp only [Act.put]))
          | (apply held2_yes (by rfl) (by decide); (· intro b w' h; go_simp; first | exact rfl | exact ⟨rfl, h⟩ | exact h | exact (hright_any K N0 N1 N2 N3 lst N4 N5 _).mono (fun e w'' ⟨he, hb⟩ => ⟨he, h.below h.2.2.size hb⟩)); (try simp only [Act.put, List.setIfInBounds_toArray, List.set_cons_zero, List.set_cons_succ])))
        refine held2_nil ?_
        rintro w9 ⟨_, hq0, hbw9⟩
        have hq : w9.heap[w.heap.size]? = some (.cells #[.int .i64 K, .int .i64 N0, .int .i64 N1, .int .i64 N2, .int .i64 N3, .bool lst, .int .u32 N4, .int .i64 N5] 67 (0, 0)) := hq0
        clear hq0
        go_wp2_with fail
        have hfo := hfin.out false w9 (by rw [show decide (L ≤ 1) = false by simpa using h1]; rfl) hbw9
        exact bodyPost_ret (v := .tuple #[.agg #[.int .i64 K, .int .i64 N0, .int .i64 N1, .int .i64 N2, .int .i64 N3, .bool lst, .int .u32 N4, .int .i64 N5], .bool false]) (results_row_tmp (fn := Tryz.f92) (p := 2) (u := 3) (ty := 67) rfl _ _ w.heap.size _ _ _ _ rfl hq Tryz.underlying67 rfl (by kernel_rfl)) rfl hfo
end Go.Proofs.YtkmhmehofipehaaGreatDoor

namespace Go.Proofs.YtkmhmehofipehaaGreatDoor
set_option linter.unusedVariables false
/-- one step -/
def stepI (x : Int) : Int := if x % 2 = 1 then bits .xor .u32 (x / 2) 3988292384 else x / 2
def stepsI : Nat → Int → Int
  | 0, x => x
  | n + 1, x => stepI (stepsI n x)
theorem xor32 (a b : Int) (h1 : 0 ≤ a) (h2 : a < 4294967296) (h3 : 0 ≤ b) (h4 : b < 4294967296) : bits .xor .u32 a b = ((a.toNat ^^^ b.toNat : Nat) : Int) := by
  obtain ⟨A, rfl⟩ := Int.eq_ofNat_of_zero_le h1
  obtain ⟨B, rfl⟩ := Int.eq_ofNat_of_zero_le h3
  simpa using u32_xor_nat A B (by omega) (by omega)
theorem xor32_range (a b : Int) (h1 : 0 ≤ a) (h2 : a < 4294967296) (h3 : 0 ≤ b) (h4 : b < 4294967296) : 0 ≤ bits .xor .u32 a b ∧ bits .xor .u32 a b < 4294967296 := by
  rw [xor32 a b h1 h2 h3 h4]
  have := Nat.xor_lt_two_pow (x := a.toNat) (y := b.toNat) (n := 32) (by omega) (by omega)
  omega
theorem stepI_range (x : Int) (h0 : 0 ≤ x) (h1 : x < 4294967296) : 0 ≤ stepI x ∧ stepI x < 4294967296 := by
  unfold stepI
  split
  · exact xor32_range _ _ (by omega) (by omega) (by omega) (by omega)
  · omega
theorem stepsI_range (n : Nat) (x : Int) (h0 : 0 ≤ x) (h1 : x < 4294967296) : 0 ≤ stepsI n x ∧ stepsI n x < 4294967296 := by
  induction n with
  | zero => exact ⟨h0, h1⟩
  | succ n ih => exact stepI_range _ ih.1 ih.2
theorem and1_u32 (x : Int) (h0 : 0 ≤ x) (h1 : x < 4294967296) : bits .and .u32 x 1 = x % 2 := by
  obtain ⟨A, rfl⟩ := Int.eq_ofNat_of_zero_le h0
  have := u32_and_nat A 1 (by omega) (by omega)
  simpa [Nat.and_one_is_mod] using this
end Go.Proofs.YtkmhmehofipehaaGreatDoor
/- Contracts of crc.Step, crc.Make. -/
namespace Go.Proofs.YtkmhmehofipehaaGreatDoor
set_option linter.unusedVariables false
open Go.RowKit
set_option maxHeartbeats 400000 in
theorem step_any (x : Int) (w : World) (h0 : 0 ≤ x) (h1 : x < 4294967296) :
    Calls Tryz.prog 16 #[.int .u32 x] w fun e w' => e = .returned (.int .u32 (stepI x)) ∧ w = w' := by
  have ha := and1_u32 x h0 h1
  by_cases h : x % 2 = 1
  · have h' : (x % 2 == 1) = true := beq_iff_eq.2 h
    go_enter Tryz.func16, Tryz.ntmps16
    go_wp2
    go_ret
    exact ⟨by rw [stepI, if_pos h]; rfl, rfl⟩
  · have h' : (x % 2 == 1) = false := beq_eq_false_iff_ne.2 h
    go_enter Tryz.func16, Tryz.ntmps16
    go_wp2
    go_ret
    exact ⟨by rw [stepI, if_neg h]; rfl, rfl⟩
def zeros256 : Array Value := Array.replicate 256 (.int .u32 0)
theorem zeroTable (w : World) : (zeroValue 60).run Tryz.prog w = .ok (.agg zeros256) w := by kernel_rfl
/-- block g is the table, as far as place k -/
def TabTo (w : World) (g k : Nat) : Prop :=
  ∃ cs : Array Value, w.heap[g]? = some (.cells cs 60 (0, 0)) ∧ cs.size = 256 ∧ ∀ j : Nat, j < k → cs[j]? = some (.int .u32 (stepsI 8 j))
def Tab (w : World) (g : Nat) : Prop := TabTo w g 256
theorem TabTo.next {w : World} {g k : Nat} (h : TabTo w g k) (hk : k < 256) : TabTo (w.setCell ⟨g, k, none⟩ (.int .u32 (stepsI 8 k))) g (k + 1) := by
  obtain ⟨cs, hcs, hsz, hv⟩ := h
  refine ⟨_, heap_setCell_same _ _ _ _ _ _ hcs, by simpa using hsz, fun j hj => ?_⟩
  by_cases hjk : j = k
  · subst hjk; simp [hsz, hk]
  · rw [Array.getElem?_setIfInBounds_ne (fun h => hjk h.symm)]; exact hv j (by omega)
theorem Tab.cell {w : World} {g : Nat} (h : Tab w g) (j : Nat) (hj : j < 256) : w.cell? ⟨g, j, none⟩ = some (.int .u32 (stepsI 8 j)) := by
  obtain ⟨cs, hcs, hsz, hv⟩ := h
  rw [cell_of_row w g j cs _ _ hcs]; exact hv j hj
theorem Tab.lt {w : World} {g : Nat} (h : Tab w g) : g < w.heap.size := by
  obtain ⟨cs, hcs, _⟩ := h
  exact (Array.getElem?_eq_some_iff.1 hcs).1
theorem Tab.keep {w w' : World} {g B : Nat} (h : Tab w g) (hb : Below B w w') (hg : g < B) : Tab w' g := by
  obtain ⟨cs, hcs, hx⟩ := h
  exact ⟨cs, (hb.block g hg).trans hcs, hx⟩
set_option maxHeartbeats 400000 in
set_option maxRecDepth 20000 in
theorem make_any (w : World) :
    Calls Tryz.prog 6 #[] w fun e w' => e = .returned (.pointer (some ⟨w.heap.size, 0, none⟩)) ∧ Below w.heap.size w w' ∧ Tab w' w.heap.size := by
  have hz := zeroTable
  go_enter Tryz.func6, Tryz.ntmps6
  go_wp2
  go_loopw [6] (fun i wr => ∃ k : Nat, k ≤ 256 ∧ i = .int .i64 k ∧ Below w.heap.size w wr ∧ TabTo wr w.heap.size k)
    (fun i _ => 256 - (intOf i).toNat)
  case atStart => exact ⟨0, by omega, rfl, (Below.refl _ _).alloc (Nat.le_refl _) _, ⟨zeros256, heap_alloc_new _ _, by decide +kernel, fun j hj => absurd hj (by omega)⟩⟩
  case round =>
    obtain ⟨k, hk, rfl, hb, ht⟩ := hrel
    have HT := hid ht
    obtain ⟨cs, hcs, hsz, hv⟩ := ht
    clear hv
    by_cases hlt : k < 256
    · obtain ⟨v0, hc⟩ : ∃ v0, wr.cell? ⟨w.heap.size, k, none⟩ = some v0 := ⟨_, (cell_of_row wr _ k cs _ _ hcs).trans (Array.getElem?_eq_getElem (by omega))⟩
      have hf : wr.frozen? ⟨w.heap.size, k, none⟩ = false := frozen_of_row wr _ k cs _ hcs
      clear hcs hsz
      have hd : decide ((k : Int) < 256) = true := by simp; omega
      go_wp2
      go_loop [3, 11] (fun x j => ∃ n : Nat, n ≤ 8 ∧ j = .int .i64 n ∧ x = .int .u32 (stepsI n k)) (fun _ j => 8 - (intOf j).toNat)
      case atStart => exact ⟨0, by omega, rfl, rfl⟩
      case round =>
        obtain ⟨n, hn, rfl, rfl⟩ := hrel
        have hr := stepsI_range n k (by omega) (by omega)
        by_cases hln : n < 8
        · go_wp2_with (go_at_call 16; refine (step_any _ _ (by omega) (by omega)).mono ?_; rintro e w' ⟨rfl, rfl⟩)
          go_round
          case rel => exact ⟨n + 1, by omega, by go_num, rfl⟩
          case measure => simp [intOf]; omega
        · obtain rfl : n = 8 := by omega
          go_wp2
          go_roundw
          case rel => exact ⟨k + 1, by omega, by go_num, hb.setCell (Nat.le_refl _) _, HT.out.next hlt⟩
          case measure => simp [intOf]; omega
    · obtain rfl : k = 256 := by omega
      clear hcs hsz
      go_wp2
      go_ret
      exact ⟨rfl, hb, HT.out⟩
end Go.Proofs.YtkmhmehofipehaaGreatDoor
/- The sums, in plain words. -/
namespace Go.Proofs.YtkmhmehofipehaaGreatDoor
set_option linter.unusedVariables false
/-- the steps of a byte -/
def byteI (x : Int) (b : UInt8) : Int := stepsI 8 (bits .xor .u32 x (b.toNat : Int))
def bytesI (x : Int) (l : List UInt8) : Int := l.foldl byteI x
def nextI (s : Int) (l : List UInt8) : Int := bits .xor .u32 (bytesI (bits .xor .u32 s 4294967295) l) 4294967295
def sumI (l : List UInt8) : Int := nextI 0 l
theorem byteI_range (x : Int) (b : UInt8) (h0 : 0 ≤ x) (h1 : x < 4294967296) : 0 ≤ byteI x b ∧ byteI x b < 4294967296 := by
  have h := xor32_range x (b.toNat : Int) h0 h1 (by omega) (by have := b.toNat_lt; omega)
  exact stepsI_range 8 _ h.1 h.2
theorem bytesI_range (l : List UInt8) : ∀ (x : Int), 0 ≤ x → x < 4294967296 → 0 ≤ bytesI x l ∧ bytesI x l < 4294967296 := by
  induction l with
  | nil => intro x h0 h1; exact ⟨h0, h1⟩
  | cons b l ih => intro x h0 h1; have h := byteI_range x b h0 h1; exact ih _ h.1 h.2
theorem nextI_range (s : Int) (l : List UInt8) (h0 : 0 ≤ s) (h1 : s < 4294967296) : 0 ≤ nextI s l ∧ nextI s l < 4294967296 := by
  have h := xor32_range s 4294967295 h0 h1 (by omega) (by omega)
  have h' := bytesI_range l _ h.1 h.2
  exact xor32_range _ _ h'.1 h'.2 (by omega) (by omega)
theorem bytesI_snoc (x : Int) (l : List UInt8) (k : Nat) (h : k < l.length) : bytesI x (l.take (k + 1)) = byteI (bytesI x (l.take k)) l[k] := by
  rw [List.take_succ_eq_append_getElem h]; unfold bytesI; rw [List.foldl_append]; rfl

/-! steps are linear: over Nat -/
def stepN (n : Nat) : Nat := (n / 2) ^^^ (if n % 2 = 1 then 3988292384 else 0)
def stepsN : Nat → Nat → Nat
  | 0, x => x
  | n + 1, x => stepN (stepsN n x)
theorem stepN_lt (n : Nat) (h : n < 4294967296) : stepN n < 4294967296 := by
  have : stepN n < 2 ^ 32 := by
    apply Nat.xor_lt_two_pow
    · omega
    · split <;> omega
  omega
theorem stepsN_lt (k n : Nat) (h : n < 4294967296) : stepsN k n < 4294967296 := by
  induction k with
  | zero => exact h
  | succ k ih => exact stepN_lt _ ih
theorem stepI_nat (n : Nat) (hn : n < 4294967296) : stepI (n : Int) = (stepN n : Nat) := by
  unfold stepI stepN
  by_cases h : n % 2 = 1
  · rw [if_pos (by omega), if_pos h, xor32 _ _ (by omega) (by omega) (by omega) (by omega)]
    have e1 : ((n : Int) / 2).toNat = n / 2 := by omega
    rw [e1]; rfl
  · rw [if_neg (by omega), if_neg h]; simp
theorem stepsI_nat (k n : Nat) (hn : n < 4294967296) : stepsI k (n : Int) = (stepsN k n : Nat) := by
  induction k with
  | zero => rfl
  | succ k ih => rw [stepsI, ih, stepI_nat _ (stepsN_lt k n hn)]; rfl
theorem stepN_xor (a b : Nat) : stepN (a ^^^ b) = stepN a ^^^ stepN b := by
  have hd : (a ^^^ b) / 2 = (a / 2) ^^^ (b / 2) := by
    have := Nat.shiftRight_xor_distrib (a := a) (b := b) (i := 1)
    simpa [Nat.shiftRight_eq_div_pow] using this
  have hm : (a ^^^ b) % 2 = (a % 2 + b % 2) % 2 := by
    have := Nat.xor_mod_two_pow (a := a) (b := b) (n := 1)
    rw [Nat.pow_one] at this
    rw [this]
    rcases Nat.mod_two_eq_zero_or_one a with h | h <;> rcases Nat.mod_two_eq_zero_or_one b with h' | h' <;> rw [h, h']
    all_goals decide
  unfold stepN
  rw [hd, hm]
  rcases Nat.mod_two_eq_zero_or_one a with h | h <;> rcases Nat.mod_two_eq_zero_or_one b with h' | h' <;> rw [h, h'] <;> simp
  · rw [Nat.xor_assoc]
  · rw [Nat.xor_assoc, Nat.xor_assoc, Nat.xor_comm 3988292384]
  · rw [Nat.xor_assoc, ← Nat.xor_assoc 3988292384, Nat.xor_comm 3988292384 (b / 2), Nat.xor_assoc]; simp
theorem stepsN_xor (k a b : Nat) : stepsN k (a ^^^ b) = stepsN k a ^^^ stepsN k b := by
  induction k with
  | zero => rfl
  | succ k ih => simp only [stepsN, ih, stepN_xor]
theorem stepsN_shift (k m : Nat) : stepsN k (2 ^ k * m) = m := by
  have gen : ∀ j, j ≤ k → stepsN j (2 ^ k * m) = 2 ^ (k - j) * m := by
    intro j
    induction j with
    | zero => intro _; rfl
    | succ j ih =>
      intro hj
      rw [stepsN, ih (by omega)]
      have e : 2 ^ (k - j) * m = 2 * (2 ^ (k - (j + 1)) * m) := by
        rw [show k - j = (k - (j + 1)) + 1 by omega, Nat.pow_succ]
        rw [Nat.mul_comm (2 ^ (k - (j + 1))) 2, Nat.mul_assoc]
      rw [e, stepN, if_neg (by omega)]
      simp
  simpa using gen k (Nat.le_refl k)
/-- the table's way is the way of eight steps -/
theorem feedN (x b : Nat) (hb : b < 256) : (x / 256) ^^^ stepsN 8 ((x % 256) ^^^ b) = stepsN 8 (x ^^^ b) := by
  have hx : x = (2 ^ 8 * (x / 256)) ^^^ (x % 256) := by
    have h := Nat.two_pow_add_eq_or_of_lt (i := 8) (b := x % 256) (by omega) (x / 256)
    have h2 : 2 ^ 8 * (x / 256) ||| x % 256 = 2 ^ 8 * (x / 256) ^^^ x % 256 := by
      apply Nat.eq_of_testBit_eq
      intro i
      rw [Nat.testBit_or, Nat.testBit_xor, Nat.testBit_two_pow_mul]
      by_cases hi : i < 8
      · have h8 : ¬ 8 ≤ i := by omega
        simp [h8]
      · have : (x % 256).testBit i = false := Nat.testBit_lt_two_pow (Nat.lt_of_lt_of_le (by omega : x % 256 < 2 ^ 8) (Nat.pow_le_pow_right (by omega) (by omega)))
        simp [this]
    exact (show x = 2 ^ 8 * (x / 256) + x % 256 by omega).trans (h.trans h2)
  conv => rhs; rw [hx, Nat.xor_assoc, stepsN_xor, stepsN_shift]
theorem xor32_nat (a b : Nat) (h1 : a < 4294967296) (h2 : b < 4294967296) : bits .xor .u32 (a : Int) (b : Int) = ((a ^^^ b : Nat) : Int) := u32_xor_nat a b h1 h2
theorem xor8_range (a b : Int) (h1 : 0 ≤ a) (h2 : a < 256) (h3 : 0 ≤ b) (h4 : b < 256) : 0 ≤ bits .xor .u8 a b ∧ bits .xor .u8 a b < 256 := by
  rw [u8_xor a b h1 h2 h3 h4]
  have := Nat.xor_lt_two_pow (x := a.toNat) (y := b.toNat) (n := 8) (by omega) (by omega)
  omega
theorem feedI (x : Int) (b : UInt8) (h0 : 0 ≤ x) (h1 : x < 4294967296) :
    bits .xor .u32 (x / 256) (stepsI 8 (bits .xor .u8 (x % 256) (b.toNat : Int))) = byteI x b := by
  obtain ⟨X, rfl⟩ := Int.eq_ofNat_of_zero_le h0
  have hb := b.toNat_lt
  have e1 : ((X : Int) / 256) = ((X / 256 : Nat) : Int) := by omega
  have e2 : ((X : Int) % 256) = ((X % 256 : Nat) : Int) := by omega
  have hx : (X % 256) ^^^ b.toNat < 2 ^ 8 := Nat.xor_lt_two_pow (by omega) (by omega)
  have hx2 : X ^^^ b.toNat < 2 ^ 32 := Nat.xor_lt_two_pow (by omega) (by omega)
  rw [e1, e2, u8_xor_nat _ _ (by omega) (by omega), stepsI_nat _ _ (by omega), xor32_nat _ _ (by omega) (stepsN_lt _ _ (by omega)), feedN _ _ hb]
  unfold byteI
  rw [xor32_nat _ _ (by omega) (by omega), stepsI_nat _ _ (by omega)]
/-! parts -/
/-! a changed byte changes the sum -/
theorem sumI_range (l : List UInt8) : 0 ≤ sumI l ∧ sumI l < 4294967296 := nextI_range 0 l (by omega) (by omega)
end Go.Proofs.YtkmhmehofipehaaGreatDoor
/- Contracts of the sums: the table's Next and Sum, the reference's. -/
namespace Go.Proofs.YtkmhmehofipehaaGreatDoor
set_option linter.unusedVariables false
open Go.RowKit
set_option maxHeartbeats 400000 in
theorem feed_any (g : Nat) (x : Int) (b : UInt8) (w : World) (ht : Tab w g) (h0 : 0 ≤ x) (h1 : x < 4294967296) :
    Calls Tryz.prog 100 #[.pointer (some ⟨g, 0, none⟩), .int .u32 x, .int .u8 (b.toNat : Int)] w fun e w' => e = .returned (.int .u32 (byteI x b)) ∧ w = w' := by
  have hx := xor8_range (x % 256) b.toNat (by omega) (by omega) (by omega) (byte_lt b)
  have hf := hid (feedI x b h0 h1)
  generalize hy : bits .xor .u8 (x % 256) (b.toNat : Int) = y at hx hf
  obtain ⟨Y, rfl⟩ := Int.eq_ofNat_of_zero_le hx.1
  have hc := ht.cell Y (by omega)
  clear ht
  go_enter Tryz.func100, Tryz.ntmps100
  go_wp2
  go_ret
  exact ⟨by rw [← hf.out]; rfl, rfl⟩
set_option maxHeartbeats 400000 in
theorem next_any (g : Nat) (s : Int) (A : Option Addr) (c : Nat) (l : List UInt8) (w : World) (ht : Tab w g) (h0 : 0 ≤ s) (h1 : s < 4294967296) (hl : SeesB w A l) (hlen : l.length ≤ 140737488355328) :
    Calls Tryz.prog 82 #[.pointer (some ⟨g, 0, none⟩), .int .u32 s, .slice A l.length c] w fun e w' => e = .returned (.int .u32 (nextI s l)) ∧ w = w' := by
  have hr := xor32_range s 4294967295 h0 h1 (by omega) (by omega)
  go_enter Tryz.func82, Tryz.ntmps82
  go_wp2
  go_loop [7, 16] (fun x i => ∃ k : Nat, k ≤ l.length ∧ i = .int .i64 k ∧ x = .int .u32 (bytesI (bits .xor .u32 s 4294967295) (l.take k))) (fun _ i => l.length - (intOf i).toNat)
  case atStart => exact ⟨0, by omega, rfl, rfl⟩
  case round =>
    obtain ⟨k, hk, rfl, rfl⟩ := hrel
    have hx := bytesI_range (l.take k) _ hr.1 hr.2
    by_cases hlt : k < l.length
    · obtain ⟨a, rfl, hc⟩ := hl.at hlt
      have hn := hid (bytesI_snoc (bits .xor .u32 s 4294967295) l k hlt)
      generalize hb : l[k] = b at hc hn
      go_wp2_with (go_at_call 100; refine (feed_any g _ b _ ht (by omega) (by omega)).mono ?_; rintro e w' ⟨rfl, rfl⟩)
      go_round
      case rel => exact ⟨k + 1, by omega, by go_num, by rw [hn.out]⟩
      case measure => simp [intOf]; omega
    · obtain rfl : k = l.length := by omega
      go_wp2
      go_ret
      exact ⟨by rw [nextI, ← List.take_length (l := l)]; rfl, rfl⟩
set_option maxHeartbeats 400000 in
theorem rstep_any (x : Int) (w : World) (h0 : 0 ≤ x) (h1 : x < 4294967296) :
    Calls Tryz.prog 106 #[.int .u32 x] w fun e w' => e = .returned (.int .u32 (stepI x)) ∧ w = w' := by
  by_cases h : x % 2 = 1
  · have h' : (x % 2 == 1) = true := beq_iff_eq.2 h
    go_enter Tryz.func106, Tryz.ntmps106
    go_wp2
    go_ret
    exact ⟨by rw [stepI, if_pos h]; rfl, rfl⟩
  · have h' : (x % 2 == 1) = false := beq_eq_false_iff_ne.2 h
    go_enter Tryz.func106, Tryz.ntmps106
    go_wp2
    go_ret
    exact ⟨by rw [stepI, if_neg h]; rfl, rfl⟩
set_option maxHeartbeats 400000 in
theorem eight_any (x : Int) (w : World) (h0 : 0 ≤ x) (h1 : x < 4294967296) :
    Calls Tryz.prog 95 #[.int .u32 x] w fun e w' => e = .returned (.int .u32 (stepsI 8 x)) ∧ w = w' := by
  go_enter Tryz.func95, Tryz.ntmps95
  go_wp2
  go_loop [0, 3] (fun y i => ∃ k : Nat, k ≤ 8 ∧ i = .int .i64 k ∧ y = .int .u32 (stepsI k x)) (fun _ i => 8 - (intOf i).toNat)
  case atStart => exact ⟨0, by omega, rfl, rfl⟩
  case round =>
    obtain ⟨k, hk, rfl, rfl⟩ := hrel
    have hx := stepsI_range k x h0 h1
    by_cases hlt : k < 8
    · go_wp2_with (go_at_call 106; refine (rstep_any _ _ (by omega) (by omega)).mono ?_; rintro e w' ⟨rfl, rfl⟩)
      go_round
      case rel => exact ⟨k + 1, by omega, by go_num, rfl⟩
      case measure => simp [intOf]; omega
    · obtain rfl : k = 8 := by omega
      go_wp2
      go_ret
      exact ⟨rfl, rfl⟩
set_option maxHeartbeats 400000 in
theorem rnext_any (s : Int) (A : Option Addr) (c : Nat) (l : List UInt8) (w : World) (h0 : 0 ≤ s) (h1 : s < 4294967296) (hl : SeesB w A l) (hlen : l.length ≤ 140737488355328) :
    Calls Tryz.prog 67 #[.int .u32 s, .slice A l.length c] w fun e w' => e = .returned (.int .u32 (nextI s l)) ∧ w = w' := by
  have hr := xor32_range s 4294967295 h0 h1 (by omega) (by omega)
  go_enter Tryz.func67, Tryz.ntmps67
  go_wp2
  go_loop [5, 6] (fun x i => ∃ k : Nat, k ≤ l.length ∧ i = .int .i64 k ∧ x = .int .u32 (bytesI (bits .xor .u32 s 4294967295) (l.take k))) (fun _ i => l.length - (intOf i).toNat)
  case atStart => exact ⟨0, by omega, rfl, rfl⟩
  case round =>
    obtain ⟨k, hk, rfl, rfl⟩ := hrel
    have hx := bytesI_range (l.take k) _ hr.1 hr.2
    by_cases hlt : k < l.length
    · obtain ⟨a, rfl, hc⟩ := hl.at hlt
      have hn := hid (bytesI_snoc (bits .xor .u32 s 4294967295) l k hlt)
      generalize hb : l[k] = b at hc hn
      have hbm : (b.toNat : Int) % 4294967296 = b.toNat := by have := byte_lt b; omega
      have hx2 := xor32_range _ (b.toNat : Int) hx.1 hx.2 (by omega) (by have := byte_lt b; omega)
      go_wp2_with (go_at_call 95; refine (eight_any _ _ (by omega) (by omega)).mono ?_; rintro e w' ⟨rfl, rfl⟩)
      go_round
      case rel => exact ⟨k + 1, by omega, by go_num, by rw [hn.out]; rfl⟩
      case measure => simp [intOf]; omega
    · obtain rfl : k = l.length := by omega
      go_wp2
      go_ret
      exact ⟨by rw [nextI, ← List.take_length (l := l)]; rfl, rfl⟩
set_option maxHeartbeats 400000 in
theorem rsum_any (A : Option Addr) (c : Nat) (l : List UInt8) (w : World) (hl : SeesB w A l) (hlen : l.length ≤ 140737488355328) :
    Calls Tryz.prog 35 #[.slice A l.length c] w fun e w' => e = .returned (.int .u32 (sumI l)) ∧ w = w' := by
  go_enter Tryz.func35, Tryz.ntmps35
  go_wp2_with (go_at_call 67; refine (rnext_any 0 _ _ _ _ (by omega) (by omega) hl hlen).mono ?_; rintro e w' ⟨rfl, rfl⟩)
  go_ret
  exact ⟨rfl, rfl⟩
set_option maxHeartbeats 400000 in
theorem sum_any (g : Nat) (A : Option Addr) (c : Nat) (l : List UInt8) (w : World) (ht : Tab w g) (hl : SeesB w A l) (hlen : l.length ≤ 140737488355328) :
    Calls Tryz.prog 52 #[.pointer (some ⟨g, 0, none⟩), .slice A l.length c] w fun e w' => e = .returned (.int .u32 (sumI l)) ∧ w = w' := by
  go_enter Tryz.func52, Tryz.ntmps52
  go_wp2_with (go_at_call 82; refine (next_any g 0 _ _ _ _ ht (by omega) (by omega) hl hlen).mono ?_; rintro e w' ⟨rfl, rfl⟩)
  go_ret
  exact ⟨rfl, rfl⟩
end Go.Proofs.YtkmhmehofipehaaGreatDoor
