/- Small general lemmas, used in all texts. -/
import Derived.WalkKit
import Derived.StillTailTactics
import Derived.Tactics
import Derived.Laws.Tables
import Derived.Laws.Rows
import Derived.Laws.CopyOwn
import Derived.OwnWalk
import Derived.Test.YtlcbfikmljmlpaaDoorProg
import Derived.Laws.RangeAny
import Derived.Lib.ConvBytes
import Derived.Laws.IdiomStrings
import Derived.Laws.BytesArg
namespace Go.Proofs.YtlcbfikmljmlpaaDoor
set_option linter.unusedVariables false
open Go.RowKit
theorem hid {p : Prop} (h : p) : Hid p := h

theorem same {P : Program} {f : FuncId} {args : Array Value} {w : World} {v : Value} (h : Calls P f args w fun e w' => e = .returned v ∧ w = w') :
    Calls P f args w fun e w' => e = .returned v ∧ w' = w := h.mono fun _ _ ⟨a, b⟩ => ⟨a, b.symm⟩
theorem ret_bool {a b : Bool} (h : a = b) : Ending.returned (.bool a) = .returned (.bool b) := by rw [h]
theorem ret_int {k : IntKind} {a b : Int} (h : a = b) : Ending.returned (.int k a) = .returned (.int k b) := by rw [h]
theorem results_tmp4 {P : Program} {fn : Func} {t u v x : Tmp} (h : fn.results = #[.tmp t, .tmp u, .tmp v, .tmp x]) (tmps : Array Value) (w : World) :
    (results fn tmps).run P w = .ok (.tuple #[tmps.getD t undef, tmps.getD u undef, tmps.getD v undef, tmps.getD x undef]) w := by simp [results, h]
theorem addr_block (a : Addr) (n : Nat) : (a.add n).block = a.block := by unfold Addr.add; split <;> rfl
theorem addr_add (a : Addr) (i j : Nat) : (a.add i).add j = a.add (i + j) := by
  unfold Addr.add
  by_cases hi : i = 0 <;> by_cases hj : j = 0 <;> simp [hi, hj, Nat.add_assoc]

/-- a slice that begins at A reads as the values xs -/
def Sees (w : World) (A : Option Addr) (xs : List Value) : Prop :=
  ∀ (i : Nat) (v : Value), xs[i]? = some v → ∃ a, A = some a ∧ w.cell? (a.add i) = some v
/-- worlds that agree on all blocks that were there -/
def Keeps (w w' : World) : Prop := ∀ b, b < w.heap.size → w'.heap[b]? = w.heap[b]?
theorem Keeps.refl (w : World) : Keeps w w := fun _ _ => rfl
theorem Keeps.of_below {w w' : World} (h : Below w.heap.size w w') : Keeps w w' := h.block
theorem Sees.keep {w w' : World} {A : Option Addr} {xs : List Value} (h : Sees w A xs) (hk : Keeps w w') : Sees w' A xs := by
  intro i v hv
  obtain ⟨a, ha, hc⟩ := h i v hv
  have hlt := block_lt_of_cell hc
  exact ⟨a, ha, (World.cell?_of_block (w := w) (hk _ hlt)).trans hc⟩
theorem Sees.below {w w' : World} {A : Option Addr} {xs : List Value} (h : Sees w A xs) (hk : Below w.heap.size w w') : Sees w' A xs := h.keep hk.block
theorem Sees.nil (w : World) (A : Option Addr) : Sees w A [] := fun i v h => by simp at h
theorem Sees.cut {w : World} {A : Option Addr} {xs : List Value} (h : Sees w A xs) (k n cap : Nat) (hk : k + n ≤ cap) :
    Sees w (if cap = k then A else A.map (·.add k)) ((xs.drop k).take n) := by
  intro i v hv
  have hin : i < n := by
    rcases Nat.lt_or_ge i n with h1 | h1
    · exact h1
    · rw [List.getElem?_eq_none (by simp; omega)] at hv; cases hv
  rw [List.getElem?_take_of_lt hin, List.getElem?_drop] at hv
  obtain ⟨a, ha, hc⟩ := h _ v hv
  rw [if_neg (by omega)]
  exact ⟨a.add k, by rw [ha]; rfl, by rw [addr_add]; exact hc⟩
theorem Sees.take {w : World} {A : Option Addr} {xs : List Value} (h : Sees w A xs) (n : Nat) : Sees w A (xs.take n) := by
  intro i v hv
  have hin : i < n := by
    rcases Nat.lt_or_ge i n with h1 | h1
    · exact h1
    · rw [List.getElem?_eq_none (by simp; omega)] at hv; cases hv
  rw [List.getElem?_take_of_lt hin] at hv
  exact h _ v hv

/-- a byte as a value -/
def byteV (b : UInt8) : Value := .int .u8 (b.toNat : Int)
/-- a slice that begins at A reads as these bytes -/
def SeesB (w : World) (A : Option Addr) (l : List UInt8) : Prop := Sees w A (l.map byteV)
theorem SeesB.at {w : World} {A : Option Addr} {l : List UInt8} (h : SeesB w A l) {i : Nat} (hi : i < l.length) :
    ∃ a, A = some a ∧ w.cell? (a.add i) = some (.int .u8 (l[i].toNat : Int)) := h i _ (by simp [hi, byteV])
theorem SeesB.below {w w' : World} {A : Option Addr} {l : List UInt8} (h : SeesB w A l) (hk : Below w.heap.size w w') : SeesB w' A l := Sees.below h hk
theorem Sees.of_block {w : World} {g : Nat} {cs : Array Value} {t : TypeId} {fr : Nat × Nat} (h : w.heap[g]? = some (.cells cs t fr)) {xs : List Value} (hx : cs.toList = xs) : Sees w (some ⟨g, 0, none⟩) xs := by
  intro i v hv
  refine ⟨_, rfl, ?_⟩
  have e : (Addr.add ⟨g, 0, none⟩ i) = ⟨g, i, none⟩ := by unfold Addr.add; split <;> simp_all
  rw [e, cell_of_row w g i cs t fr h, ← Array.getElem?_toList, hx]; exact hv
theorem Sees.of_alloc (w : World) (cs : Array Value) (t : TypeId) {xs : List Value} (hx : cs.toList = xs) : Sees (w.alloc (.cells cs t)) (some ⟨w.heap.size, 0, none⟩) xs :=
  Sees.of_block (heap_alloc_new w _) hx
theorem byte_lt (b : UInt8) : (b.toNat : Int) < 256 := by have := b.toNat_lt; omega
section
variable {P : Program}
/-- a whole struct or array laid into a block of its size -/
theorem wp_store_row {o : Oper} {a : Act} {w : World} {K : Act → World → Prop} {Q : Exit → Act → World → Prop} (ty : TypeId) (x y : Operand) (ho : o.op = .store ty x y) (hd : o.dst = none)
    (g : Nat) (hx : a.eval x = .pointer (some ⟨g, 0, none⟩)) (cs : Array Value) (hy : a.eval y = .agg cs) (t : TypeId) (cur : Array Value) (hg : w.heap[g]? = some (.cells cur t (0, 0)))
    (hi : (P.info? ty).map (·.size) = some cs.size) (hs : cur.size = cs.size) (h1 : cs.all (·.oneCell') = true)
    (h : K a (w.setRow g cs)) : o.wp P a w K Q := by
  have hr := run_storeVar_row (P := P) w g t ty cur cs hg hi hs h1
  unfold Oper.wp execOp
  simp only [ho, hx, hy, Instr.storeAt, Instr.sureAddr, Sem.run_bind, Sem.run_pure, Result.andThen_ok, hr]
  have e : ∀ v, a.put o.dst v = a := by intro v; rw [hd]; rfl
  simp only [Oper.upon, e]
  exact h
theorem wpList_store_row {ops : Array Oper} {rest : List Oper} {o : Oper} {a : Act} {w : World} {Q : Exit → Act → World → Prop} (hgd : o.guard = none) (ty : TypeId) (x y : Operand) (ho : o.op = .store ty x y) (hd : o.dst = none)
    (g : Nat) (hx : a.eval x = .pointer (some ⟨g, 0, none⟩)) (cs : Array Value) (hy : a.eval y = .agg cs) (t : TypeId) (cur : Array Value) (hg : w.heap[g]? = some (.cells cur t (0, 0)))
    (hi : (P.info? ty).map (·.size) = some cs.size) (hs : cur.size = cs.size) (h1 : cs.all (·.oneCell') = true)
    (h : wpList P ops Q rest a (w.setRow g cs)) : wpList P ops Q (o :: rest) a w :=
  wpList_plain hgd fun _ hK => wp_store_row ty x y ho hd g hx cs hy t cur hg hi hs h1 (hK _ _ h)
end
end Go.Proofs.YtlcbfikmljmlpaaDoor
/- Letters of a text: their widths. -/
namespace Go.Proofs.YtlcbfikmljmlpaaDoor
set_option linter.unusedVariables false
open Go.RowKit
def widL (s : ByteArray) (p : Nat) : Nat := (Utf8.decode s p).2
theorem widL_pos (s : ByteArray) (p : Nat) (h : p < s.size) : 1 ≤ widL s p := by
  unfold widL
  by_cases ha : (s[p]'h).toNat < 128
  · rw [decode_ascii s p h ha]; exact Nat.le_refl _
  · exact (decode_high s p h (by omega)).2
/-- a byte of a text; behind its end some number -/
def byL (s : ByteArray) (p : Nat) : Nat := (s.get! p).toNat
theorem byL_at (s : ByteArray) (p : Nat) (h : p < s.size) : byL s p = (s[p]'h).toNat := by
  unfold byL; rw [← get_at s p h]; rfl
def conL (s : ByteArray) (p : Nat) : Bool := decide (p < s.size) && (byL s p / 64 == 2)
def okR (r : Nat) : Bool := decide (r < 55296) || (decide (57344 ≤ r) && decide (r ≤ 1114111))
theorem valid_is (r : Nat) : Utf8.valid (r : Int) = okR r := by
  unfold Utf8.valid okR
  rw [Bool.eq_iff_iff]
  simp
  omega
def r2 (s : ByteArray) (p : Nat) : Nat := (byL s p % 32) * 64 + byL s (p + 1) % 64
def r3 (s : ByteArray) (p : Nat) : Nat := (byL s p % 16) * 4096 + (byL s (p + 1) % 64) * 64 + byL s (p + 2) % 64
def r4 (s : ByteArray) (p : Nat) : Nat := (byL s p % 8) * 262144 + (byL s (p + 1) % 64) * 4096 + (byL s (p + 2) % 64) * 64 + byL s (p + 3) % 64
theorem decode_is (s : ByteArray) (p : Nat) : Utf8.decode s p =
    if byL s p < 128 then (byL s p, 1) else if (byL s p / 32 == 6 && conL s (p + 1)) = true then (if 128 ≤ r2 s p then (r2 s p, 2) else (65533, 1))
    else if (byL s p / 16 == 14 && conL s (p + 1) && conL s (p + 2)) = true then (if (decide (2048 ≤ r3 s p) && okR (r3 s p)) = true then (r3 s p, 3) else (65533, 1))
    else if (byL s p / 8 == 30 && conL s (p + 1) && conL s (p + 2) && conL s (p + 3)) = true then (if (decide (65536 ≤ r4 s p) && okR (r4 s p)) = true then (r4 s p, 4) else (65533, 1)) else (65533, 1) := by
  unfold Utf8.decode r2 r3 r4 conL byL
  simp only [valid_is, Nat.add_zero, ge_iff_le, Utf8.runeError]
/-- how many bytes the letter at a place has by the document, and which it is; none: 0 -/
def letL (s : ByteArray) (p : Nat) : Nat × Nat :=
  if byL s p < 128 then (1, byL s p) else if (decide (194 ≤ byL s p) && decide (byL s p < 224) && conL s (p + 1)) = true then (2, r2 s p)
  else if (decide (224 ≤ byL s p) && decide (byL s p < 240) && conL s (p + 1) && conL s (p + 2) && (decide (2048 ≤ r3 s p) && okR (r3 s p))) = true then (3, r3 s p)
  else if (decide (240 ≤ byL s p) && decide (byL s p < 245) && conL s (p + 1) && conL s (p + 2) && conL s (p + 3) && (decide (65536 ≤ r4 s p) && okR (r4 s p))) = true then (4, r4 s p) else (0, 0)
theorem byL_lt (s : ByteArray) (p : Nat) : byL s p < 256 := (s.get! p).toNat_lt
/-- the width by the model is the width by the document; where there is no letter, one byte -/
theorem letL_wid (s : ByteArray) (p : Nat) : (if (letL s p).1 = 0 then 1 else (letL s p).1) = widL s p := by
  have h0 := byL_lt s p
  have h1 := byL_lt s (p + 1)
  have h2 := byL_lt s (p + 2)
  have h3 := byL_lt s (p + 3)
  have fin : ∀ (a : Nat × Nat) (b : Nat × Nat), letL s p = a → Utf8.decode s p = b → (if a.1 = 0 then 1 else a.1) = b.2 → (if (letL s p).1 = 0 then 1 else (letL s p).1) = widL s p := fun a b e1 e2 e3 => by
    unfold widL; rw [e1, e2, e3]
  by_cases a : byL s p < 128
  · exact fin (1, byL s p) (byL s p, 1) (by unfold letL; rw [if_pos a]) (by rw [decode_is, if_pos a]) rfl
  by_cases b : (byL s p / 32 == 6 && conL s (p + 1)) = true
  · have b' := b
    simp only [Bool.and_eq_true, beq_iff_eq] at b'
    obtain ⟨b1, b2⟩ := b'
    have b3 := b2
    unfold conL at b3
    simp only [Bool.and_eq_true, decide_eq_true_eq, beq_iff_eq] at b3
    by_cases c : 194 ≤ byL s p
    · exact fin (2, r2 s p) (r2 s p, 2) (by unfold letL; rw [if_neg a, if_pos (by simp only [b2, Bool.and_eq_true, decide_eq_true_eq, eq_self, and_true]; omega)]) (by rw [decode_is, if_neg a, if_pos b, if_pos (by unfold r2; omega)]) rfl
    · exact fin (0, 0) (65533, 1) (by
        unfold letL
        rw [if_neg a, if_neg (by simp only [Bool.and_eq_true, decide_eq_true_eq]; omega), if_neg (by simp only [Bool.and_eq_true, decide_eq_true_eq]; omega), if_neg (by simp only [Bool.and_eq_true, decide_eq_true_eq]; omega)])
        (by rw [decode_is, if_neg a, if_pos b, if_neg (by unfold r2; omega)]) rfl
  have hb : ¬ ((decide (194 ≤ byL s p) && decide (byL s p < 224) && conL s (p + 1)) = true) := by
    intro h
    simp only [Bool.and_eq_true, decide_eq_true_eq] at h
    exact b (by simp only [Bool.and_eq_true, beq_iff_eq]; exact ⟨by omega, h.2⟩)
  by_cases c : (byL s p / 16 == 14 && conL s (p + 1) && conL s (p + 2)) = true
  · have c' := c
    simp only [Bool.and_eq_true, beq_iff_eq] at c'
    obtain ⟨⟨c1, c2⟩, c3⟩ := c'
    by_cases d : (decide (2048 ≤ r3 s p) && okR (r3 s p)) = true
    · exact fin (3, r3 s p) (r3 s p, 3) (by
        unfold letL
        rw [if_neg a, if_neg hb, if_pos (by rw [d, c2, c3]; simp only [Bool.and_eq_true, decide_eq_true_eq, eq_self, and_true]; omega)])
        (by rw [decode_is, if_neg a, if_neg b, if_pos c, if_pos d]) rfl
    · exact fin (0, 0) (65533, 1) (by
        unfold letL
        rw [if_neg a, if_neg hb, if_neg (fun h => d (by rw [Bool.and_eq_true] at h; exact h.2)), if_neg (by simp only [Bool.and_eq_true, decide_eq_true_eq]; omega)])
        (by rw [decode_is, if_neg a, if_neg b, if_pos c, if_neg d]) rfl
  have hc : ¬ ((decide (224 ≤ byL s p) && decide (byL s p < 240) && conL s (p + 1) && conL s (p + 2) && (decide (2048 ≤ r3 s p) && okR (r3 s p))) = true) := by
    intro h
    simp only [Bool.and_eq_true, decide_eq_true_eq] at h
    exact c (by simp only [Bool.and_eq_true, beq_iff_eq]; exact ⟨⟨by omega, h.1.1.2⟩, h.1.2⟩)
  by_cases d : (byL s p / 8 == 30 && conL s (p + 1) && conL s (p + 2) && conL s (p + 3)) = true
  · have d' := d
    simp only [Bool.and_eq_true, beq_iff_eq] at d'
    obtain ⟨⟨⟨d1, d2⟩, d3⟩, d4⟩ := d'
    by_cases e : (decide (65536 ≤ r4 s p) && okR (r4 s p)) = true
    · have e' := e
      unfold okR r4 at e'
      simp only [Bool.and_eq_true, Bool.or_eq_true, decide_eq_true_eq] at e'
      exact fin (4, r4 s p) (r4 s p, 4) (by
        unfold letL
        rw [if_neg a, if_neg hb, if_neg hc, if_pos (by rw [e, d2, d3, d4]; simp only [Bool.and_eq_true, decide_eq_true_eq, eq_self, and_true]; omega)])
        (by rw [decode_is, if_neg a, if_neg b, if_neg c, if_pos d, if_pos e]) rfl
    · exact fin (0, 0) (65533, 1) (by
        unfold letL
        rw [if_neg a, if_neg hb, if_neg hc, if_neg (fun h => e (by rw [Bool.and_eq_true] at h; exact h.2))])
        (by rw [decode_is, if_neg a, if_neg b, if_neg c, if_pos d, if_neg e]) rfl
  · exact fin (0, 0) (65533, 1) (by
      unfold letL
      rw [if_neg a, if_neg hb, if_neg hc, if_neg (fun h => d (by
        simp only [Bool.and_eq_true, decide_eq_true_eq] at h
        simp only [Bool.and_eq_true, beq_iff_eq]
        exact ⟨⟨⟨by omega, h.1.1.1.2⟩, h.1.1.2⟩, h.1.2⟩))])
      (by rw [decode_is, if_neg a, if_neg b, if_neg c, if_neg d]) rfl
/-- a letter ends within its text -/
theorem widL_le (s : ByteArray) (p : Nat) (h : p < s.size) : p + widL s p ≤ s.size := by
  unfold widL
  rw [decode_is]
  unfold conL
  repeat' split
  all_goals simp_all
  all_goals omega
/-- the place behind so many letters, and how many there are -/
def posL (s : ByteArray) : Nat → Nat → Nat
  | 0, p => p
  | k + 1, p => if p < s.size then posL s k (p + widL s p) else p
def lenL (s : ByteArray) : Nat → Nat → Nat
  | 0, _ => 0
  | k + 1, p => if p < s.size then 1 + lenL s k (p + widL s p) else 0
theorem posL_le (s : ByteArray) : ∀ (k p : Nat), p ≤ s.size → posL s k p ≤ s.size
  | 0, p, h => h
  | k + 1, p, h => by
    unfold posL
    split
    · exact posL_le s k _ (widL_le s p ‹_›)
    · exact h
theorem posL_ge (s : ByteArray) : ∀ (k p : Nat), p ≤ posL s k p
  | 0, p => Nat.le_refl _
  | k + 1, p => by
    unfold posL
    split
    · have := posL_ge s k (p + widL s p); omega
    · exact Nat.le_refl _
theorem lenL_more (s : ByteArray) : ∀ (k m p : Nat), s.size ≤ p + k → k ≤ m → lenL s m p = lenL s k p
  | 0, m, p, h, _ => by
    cases m with
    | zero => rfl
    | succ m => unfold lenL; rw [if_neg (by omega)]
  | k + 1, m, p, h, hm => by
    cases m with
    | zero => omega
    | succ m =>
      unfold lenL
      by_cases hp : p < s.size
      · rw [if_pos hp, if_pos hp]
        have := widL_pos s p hp
        rw [lenL_more s k m _ (by omega) (by omega)]
      · rw [if_neg hp, if_neg hp]
end Go.Proofs.YtlcbfikmljmlpaaDoor
/- Letters of a text that was cut behind a letter. -/
namespace Go.Proofs.YtlcbfikmljmlpaaDoor
set_option linter.unusedVariables false
open Go.RowKit
def widB (b : Nat) (c1 c2 c3 g2 g3 g4 : Bool) : Nat :=
  if b < 128 then 1 else if (b / 32 == 6 && c1) = true then (if g2 = true then 2 else 1)
  else if (b / 16 == 14 && c1 && c2) = true then (if g3 = true then 3 else 1)
  else if (b / 8 == 30 && c1 && c2 && c3) = true then (if g4 = true then 4 else 1) else 1
theorem widL_is (s : ByteArray) (p : Nat) : widL s p = widB (byL s p) (conL s (p + 1)) (conL s (p + 2)) (conL s (p + 3)) (decide (128 ≤ r2 s p))
    (decide (2048 ≤ r3 s p) && okR (r3 s p)) (decide (65536 ≤ r4 s p) && okR (r4 s p)) := by
  unfold widL widB
  rw [decode_is]
  simp only [decide_eq_true_eq]
  repeat' split
  all_goals rfl
theorem widB_1 (b : Nat) (c2 c3 c2' c3' c1 g2 g3 g4 h2 h3 h4 : Bool) (h : widB b c1 c2 c3 g2 g3 g4 ≤ 1) : widB b false c2' c3' h2 h3 h4 = widB b c1 c2 c3 g2 g3 g4 := by
  have hp : 1 ≤ widB b c1 c2 c3 g2 g3 g4 := by
    unfold widB
    repeat' split
    all_goals omega
  have : widB b false c2' c3' h2 h3 h4 = 1 := by
    unfold widB
    simp
  omega
theorem widB_2 (b : Nat) (c1 c2 c3 c3' g2 g3 g4 h3 h4 : Bool) (h : widB b c1 c2 c3 g2 g3 g4 ≤ 2) : widB b c1 false c3' g2 h3 h4 = widB b c1 c2 c3 g2 g3 g4 := by
  revert h
  unfold widB
  cases c1 <;> cases c2 <;> cases c3 <;> cases g2 <;> cases g3 <;> cases g4 <;> simp <;> (repeat' split) <;> omega
theorem widB_3 (b : Nat) (c1 c2 c3 g2 g3 g4 h4 : Bool) (h : widB b c1 c2 c3 g2 g3 g4 ≤ 3) : widB b c1 c2 false g2 g3 h4 = widB b c1 c2 c3 g2 g3 g4 := by
  revert h
  unfold widB
  cases c1 <;> cases c2 <;> cases c3 <;> cases g2 <;> cases g3 <;> cases g4 <;> simp <;> (repeat' split) <;> omega
theorem byL_pre (s : ByteArray) (c q : Nat) (hc : c ≤ s.size) (h : q < c) : byL (s.extract 0 c) q = byL s q := by
  have h1 : q < (s.extract 0 c).size := by simp [ByteArray.size_extract]; omega
  rw [byL_at _ _ h1, byL_at s q (by omega)]
  simp [ByteArray.getElem_extract]
theorem conL_pre (s : ByteArray) (c q : Nat) (hc : c ≤ s.size) (h : q < c) : conL (s.extract 0 c) q = conL s q := by
  unfold conL
  rw [byL_pre s c q hc h]
  have : (s.extract 0 c).size = c := by simp [ByteArray.size_extract]; omega
  rw [this, decide_eq_true h, decide_eq_true (show q < s.size by omega)]
theorem conL_out (s : ByteArray) (c q : Nat) (hc : c ≤ s.size) (h : c ≤ q) : conL (s.extract 0 c) q = false := by
  unfold conL
  have : (s.extract 0 c).size = c := by simp [ByteArray.size_extract]; omega
  rw [this, decide_eq_false (show ¬ q < c by omega)]
  rfl
theorem widL_pre (s : ByteArray) (c p : Nat) (hc : c ≤ s.size) (h : p + widL s p ≤ c) (hp : p < c) : widL (s.extract 0 c) p = widL s p := by
  rw [widL_is (s.extract 0 c), byL_pre s c p hc hp]
  by_cases h1 : p + 1 < c
  · rw [conL_pre s c (p + 1) hc h1]
    have e2 : r2 (s.extract 0 c) p = r2 s p := by unfold r2; rw [byL_pre s c p hc hp, byL_pre s c (p + 1) hc h1]
    rw [e2]
    by_cases h2 : p + 2 < c
    · rw [conL_pre s c (p + 2) hc h2]
      have e3 : r3 (s.extract 0 c) p = r3 s p := by unfold r3; rw [byL_pre s c p hc hp, byL_pre s c (p + 1) hc h1, byL_pre s c (p + 2) hc h2]
      rw [e3]
      by_cases h3 : p + 3 < c
      · rw [conL_pre s c (p + 3) hc h3]
        have e4 : r4 (s.extract 0 c) p = r4 s p := by unfold r4; rw [byL_pre s c p hc hp, byL_pre s c (p + 1) hc h1, byL_pre s c (p + 2) hc h2, byL_pre s c (p + 3) hc h3]
        rw [e4, ← widL_is]
      · rw [conL_out s c (p + 3) hc (by omega)]
        rw [widL_is] at h ⊢
        exact widB_3 _ _ _ _ _ _ _ _ (by omega)
    · rw [conL_out s c (p + 2) hc (by omega)]
      rw [widL_is] at h ⊢
      exact widB_2 _ _ _ _ _ _ _ _ _ _ (by omega)
  · rw [conL_out s c (p + 1) hc (by omega)]
    rw [widL_is] at h ⊢
    exact widB_1 _ _ _ _ _ _ _ _ _ _ _ _ (by omega)
/-- the letters of a text that is cut behind so many letters -/
theorem lenL_pre (s : ByteArray) (c : Nat) (hc : c ≤ s.size) : ∀ (k m p : Nat), c = posL s k p → p ≤ s.size → c ≤ p + m → lenL (s.extract 0 c) m p = lenL s k p
  | 0, m, p, h, _, _ => by
    have hs : (s.extract 0 c).size = c := by simp [ByteArray.size_extract]; omega
    have : posL s 0 p = p := rfl
    cases m with
    | zero => rfl
    | succ m => unfold lenL; rw [if_neg (by omega)]
  | k + 1, m, p, h, hp, hm => by
    have hs : (s.extract 0 c).size = c := by simp [ByteArray.size_extract]; omega
    by_cases hlt : p < s.size
    · have h' : c = posL s k (p + widL s p) := by rw [h]; show (if p < s.size then _ else _) = _; rw [if_pos hlt]
      have hw := widL_le s p hlt
      have hw1 := widL_pos s p hlt
      have hge : p + widL s p ≤ c := by rw [h']; exact posL_ge s k _
      cases m with
      | zero => omega
      | succ m =>
        have e1 : lenL (s.extract 0 c) (m + 1) p = 1 + lenL (s.extract 0 c) m (p + widL (s.extract 0 c) p) := by
          show (if p < (s.extract 0 c).size then _ else _) = _
          rw [if_pos (by omega)]
        have e2 : lenL s (k + 1) p = 1 + lenL s k (p + widL s p) := by
          show (if p < s.size then _ else _) = _
          rw [if_pos hlt]
        rw [e1, e2, widL_pre s c p hc hge (by omega), lenL_pre s c hc k m (p + widL s p) h' hw (by omega)]
    · have h' : c = p := by rw [h]; show (if p < s.size then _ else _) = _; rw [if_neg hlt]
      have e2 : lenL s (k + 1) p = 0 := by
        show (if p < s.size then _ else _) = _
        rw [if_neg hlt]
      rw [e2]
      cases m with
      | zero => rfl
      | succ m => unfold lenL; rw [if_neg (by omega)]
end Go.Proofs.YtlcbfikmljmlpaaDoor
/- Texts as bytes, and back. -/
namespace Go.Proofs.YtlcbfikmljmlpaaDoor
set_option linter.unusedVariables false
open Go.RowKit
theorem conv_sb (s : ByteArray) (w : World) : ∃ (c : Nat) (w' : World), (convert 9 40 (.string s)).run Tryd.prog w = .ok (.slice (some ⟨w.heap.size, 0, none⟩) s.size c) w' ∧ Below w.heap.size w w' ∧ SeesB w' (some ⟨w.heap.size, 0, none⟩) s.data.toList ∧ s.data.toList.length = s.size := by
  refine ⟨_, _, Lib.run_convert_string_bytes w _ _ _ s Tryd.underlying9 Tryd.underlying40 Tryd.underlying5, ⟨rfl, rfl, rfl, by rw [Lib.bytesWorld_size]; omega, fun b hb => Lib.bytesWorld_at_old w _ s b hb⟩, ?_, by rw [Array.length_toList]; rfl⟩
  intro i v hv
  refine ⟨_, rfl, ?_⟩
  have e : (Addr.add ⟨w.heap.size, 0, none⟩ i) = ⟨w.heap.size, i, none⟩ := by unfold Addr.add; split <;> simp_all
  rw [e]
  have hi : i < s.size := by
    have := (List.getElem?_eq_some_iff.1 hv).1
    simpa using this
  rw [Lib.bytesWorld_cell w _ s i hi]
  rw [List.getElem?_map, List.getElem?_eq_getElem (by simpa using hi)] at hv
  rw [← hv]
  simp [byteV, List.getD, List.getElem?_eq_getElem (show i < s.data.toList.length by simpa using hi)]
theorem conv_bs (A : Option Addr) (c : Nat) (l : List UInt8) (w : World) (h : SeesB w A l) : (convert 40 9 (.slice A l.length c)).run Tryd.prog w = .ok (.string ⟨l.toArray⟩) w := by
  cases A with
  | some a =>
    refine run_convert_bytes_back w _ _ _ a c l Tryd.underlying40 Tryd.underlying5 Tryd.underlying9 fun j hj => ?_
    obtain ⟨a', ha, hc⟩ := SeesB.at h hj
    injection ha with ha; subst ha; exact hc
  | none =>
    have : l = [] := by
      cases l with
      | nil => rfl
      | cons x l => obtain ⟨a, ha, _⟩ := h 0 (byteV x) rfl; cases ha
    subst this
    exact run_convert_bytes_nil w _ _ Tryd.underlying40 Tryd.underlying5 0 c _ Tryd.underlying9
end Go.Proofs.YtlcbfikmljmlpaaDoor
