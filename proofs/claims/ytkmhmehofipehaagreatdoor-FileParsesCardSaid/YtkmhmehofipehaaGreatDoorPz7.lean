/- Rows in a region that draws its order. -/
import Derived.Test.YtkmhmehofipehaaGreatDoorPz4
import Derived.Deep.RegionHeld3
import Derived.Test.YtkmhmehofipehaaGreatDoorPz6
import Derived.Test.YtkmhmehofipehaaGreatDoorPz3
import Derived.Test.YtkmhmehofipehaaGreatDoorPz1
import Derived.ProofKit
import Derived.OpenShut
import Derived.ShutString
import Derived.ChangeOld
import Derived.Below
import Derived.Test.YtkmhmehofipehaaGreatDoorProg
import Derived.WalkSpells
import Derived.WalkLawsBesides
import Derived.Deep.Slices
import Derived.Deep.Fields
import Derived.ChangeSame
import Derived.Lib.UnsafeStr
import Derived.Lib.BufferWrite
import Derived.Laws.RangeAny
import Derived.WalkKit
import Derived.Lib.LaidU8T
import Derived.Shelf.Unicode.ValidAny
import Derived.Lib.ValidLaws
import Derived.Lib.TrimUEq
namespace Go.Proofs.YtkmhmehofipehaaGreatDoor
set_option linter.unusedVariables false
open Go.RowKit
theorem run_load_rowop {P : Program} {o : Oper} {a : Act} {w : World} (ty : TypeId) (x : Operand) (ho : o.op = .load ty x) (g : Nat) (hx : a.eval x = .pointer (some ⟨g, 0, none⟩)) (cs : Array Value) (t : TypeId) (fr : Nat × Nat) (hg : w.heap[g]? = some (.cells cs t fr))
    (d : TypeDesc) (hu : P.underlying ty = some d) (hd : (match d with | .struct _ | .array _ _ => true | _ => false) = true) (hi : (P.info? ty).map (·.size) = some cs.size) : (execOp a.eval o).run P w = .ok (.value (.agg cs)) w := by
  have hr := run_loadVar_row w g t ty cs fr d hg hu hd hi
  unfold execOp
  simp only [ho, hx, Instr.loadAt, Instr.sureAddr, Sem.run_bind, Sem.run_pure, Result.andThen_ok, hr]
theorem wpAnyH_takeD {P : Program} {ops : Array Oper} {Q : Exit → Act → World → Prop} {md : Region.Mode} {S : World → Prop} {i : Nat} {oi : Oper} {d : Option Tmp} {v : Value} {fuel : Nat} {listed : Array Bool} {a : Act} {w : World} (hi : ops[i]? = some oi) (hd : oi.dst = d)
    (hs : Region.noSelect ops = true) (hf : Region.free md ops listed i = true) (hr : (Region.ready md ops listed).contains i = true)
    (hQ : ∀ c a w, Q (.panic c) (a.put d v) w → Q (.panic c) a w) (hy : YieldsIf P ops S oi v a) (hS : S w)
    (h : wpAnyH P md ops Q S fuel (listed.setIfInBounds i true) (a.put d v) w) : wpAnyH P md ops Q S (fuel + 1) listed a w := by
  subst hd
  exact wpAnyH_take hi hs hf hr hQ hy hS h
/-- what is seen in other blocks is seen behind a store of a row -/
theorem SeesB.setRowFar {w : World} {A : Option Addr} {l : List UInt8} (h : SeesB w A l) (q : Nat) (new : Array Value) (hne : ∀ a, A = some a → a.block ≠ q) : SeesB (w.setRow q new) A l := by
  intro i v hv
  obtain ⟨a, ha, hc⟩ := h i v hv
  refine ⟨a, ha, (World.cell?_of_block (w := w) ?_).trans hc⟩
  exact setRow_other w q _ new (by rw [addr_block]; exact hne a ha)
end Go.Proofs.YtkmhmehofipehaaGreatDoor
/- A block opened: the program's Open. -/
namespace Go.Proofs.YtkmhmehofipehaaGreatDoor
set_option linter.unusedVariables false
open Go.RowKit
def openH (l : List UInt8) : Int × HeadV × List UInt8 × Int :=
  if (getH l).1 ≠ 0 then ((getH l).1, HeadV.zero, [], 0) else if l.length < 36 + fldH l 24 4 then (10, HeadV.zero, [], 0)
  else if sumI (l.take (32 + fldH l 24 4)) ≠ (fldH l (32 + fldH l 24 4) 4 : Int) then (33, HeadV.zero, [], 0)
  else (0, (getH l).2, (l.drop 32).take (fldH l 24 4), sumI (l.take (32 + fldH l 24 4)))
theorem getH_ok {l : List UInt8} (h : (getH l).1 = 0) : startsH l = true ∧ 32 ≤ l.length ∧ sumI (l.take 28) = (fldH l 28 4 : Int) ∧ okH l = true ∧ (getH l).2 = saidH l := by
  unfold getH at h ⊢
  split at h
  · exact absurd h (by decide)
  · split at h
    · exact absurd h (by decide)
    · split at h
      · exact absurd h (by decide)
      · split at h
        · exact absurd h (by decide)
        · rename_i h1 h2 h3 h4
          rw [if_neg h1, if_neg h2, if_neg h3, if_neg h4]
          exact ⟨by simpa using h1, by omega, by simpa using h3, by simpa using h4, rfl⟩
end Go.Proofs.YtkmhmehofipehaaGreatDoor
/- A block opened: the reference's Open. -/
namespace Go.Proofs.YtkmhmehofipehaaGreatDoor
set_option linter.unusedVariables false
open Go.RowKit
end Go.Proofs.YtkmhmehofipehaaGreatDoor
/- How long a block is. -/
namespace Go.Proofs.YtkmhmehofipehaaGreatDoor
set_option linter.unusedVariables false
open Go.RowKit
def longH (k idx len stp bnd : Int) (lst : Bool) (lnk siz : Int) : Int := if rightH k idx len stp bnd lst lnk siz = true then 36 + siz else 0
set_option maxHeartbeats 2000000 in
theorem hlong_any (k idx len stp bnd : Int) (lst : Bool) (lnk siz : Int) (w : World) :
    Calls Tryz.prog 32 #[.agg #[.int .i64 k, .int .i64 idx, .int .i64 len, .int .i64 stp, .int .i64 bnd, .bool lst, .int .u32 lnk, .int .i64 siz]] w fun e w' => e = .returned (.int .i64 (longH k idx len stp bnd lst lnk siz)) ∧ Below w.heap.size w w' := by
  have hb : Below w.heap.size w (w.alloc (.cells #[.int .i64 k, .int .i64 idx, .int .i64 len, .int .i64 stp, .int .i64 bnd, .bool lst, .int .u32 lnk, .int .i64 siz] 67)) := (Below.refl _ w).alloc (Nat.le_refl _) _
  have hrow := heap_alloc_new w (.cells #[.int .i64 k, .int .i64 idx, .int .i64 len, .int .i64 stp, .int .i64 bnd, .bool lst, .int .u32 lnk, .int .i64 siz] 67)
  cases hr : rightH k idx len stp bnd lst lnk siz with
  | false =>
    go_enter Tryz.func32, Tryz.ntmps32
    go_wp2_with fail
    refine (hright_any k idx len stp bnd lst lnk siz _).mono ?_
    rintro e w1 ⟨rfl, hb1⟩
    rw [hr]
    go_wp2_with fail
    go_ret
    exact ⟨ret_int (by unfold longH; rw [hr]; rfl), hb.trans (hb1.mono hb.size)⟩
  | true =>
    have hr2 := (of_decide_eq_true hr).2.2.2.2.2.1
    go_enter Tryz.func32, Tryz.ntmps32
    go_wp2_with fail
    generalize w.alloc (.cells #[.int .i64 k, .int .i64 idx, .int .i64 len, .int .i64 stp, .int .i64 bnd, .bool lst, .int .u32 lnk, .int .i64 siz] 67) = w0 at *
    have hlt0 : w.heap.size < w0.heap.size := (Array.getElem?_eq_some_iff.1 hrow).1
    refine (hright_any k idx len stp bnd lst lnk siz _).mono ?_
    rintro e w1 ⟨rfl, hb1⟩
    rw [hr]
    have hrow1 := (hb1.block w.heap.size hlt0).trans hrow
    have c7 : w1.cell? ⟨w.heap.size, 7, none⟩ = some (.int .i64 siz) := by rw [cell_of_row _ _ _ _ _ _ hrow1]; rfl
    have hw1 : wrap64 (32 + siz) = 32 + siz := by unfold wrap64; omega
    have hw2 : wrap64 (32 + siz + 4) = 32 + siz + 4 := by unfold wrap64; omega
    have hw3 : wrap64 (36 + siz) = 36 + siz := by unfold wrap64; omega
    have HR := hid hr
    clear hr
    go_wp2_with fail
    go_ret
    exact ⟨ret_int (by unfold longH; rw [HR.out, if_pos rfl] <;> first | rfl | omega), hb.trans (hb1.mono hb.size)⟩
end Go.Proofs.YtkmhmehofipehaaGreatDoor
/- Arguments opened: what a value that was read as data is. -/
namespace Go.Proofs.YtkmhmehofipehaaGreatDoor
set_option linter.unusedVariables false
open Go.ChangeShapes Go.WideShapes Go.ChangeAt Go.RowKit
section
variable {H : Type} {enc : TypeId × Value → H} {P : Program} {w : World} {base b0 : Nat} {spare : Nat → Bool} {held : Bool} {r : Reach}
theorem wf_u8 {z : Int} (h : (Lit.int .u8 z).wf = true) : 0 ≤ z ∧ z < 256 := by
  simp [Lit.wf, IntKind.min, IntKind.max, IntKind.signed, IntKind.bits] at h; omega
theorem open_ints_of {t e : TypeId} {k : IntKind} {v : Value} {d : DataW H} {p : List MemPlace} (ht : P.underlying t = some (.slice e)) (he : P.underlying e = some (.int k)) (hc : P.cellsOf e = 1)
    (hv : Value.okWide P w r b0 t v) (h : DataW.Trod enc P w base spare held t v d p) :
    ∃ (A : Option Addr) (c : Nat) (zs : List Int), v = .slice A zs.length c ∧ Sees w A (zs.map fun z => .int k z) ∧ zs.length ≤ c ∧ c ≤ maxLen ∧ (∀ z ∈ zs, (Lit.int k z).wf = true) := by
  obtain ⟨A, n, c, rfl⟩ := okWide_slice ht hv
  obtain ⟨fuel, hf⟩ := h
  rcases open_ints ht he hc hf with ⟨hcs, _⟩ | ⟨x, l, c', zs, hcs, _, hl, hm, hz, _, hcell, hwz⟩
  · simp [Value.cells] at hcs
    obtain ⟨rfl, rfl, rfl⟩ := hcs
    exact ⟨none, 0, [], rfl, Sees.nil _ _, by simp, by simp, by simp⟩
  · simp [Value.cells] at hcs
    obtain ⟨rfl, rfl, rfl⟩ := hcs
    have hln : n ≤ zs.length := by rw [hz]; split <;> omega
    have hlen : (zs.take n).length = n := by simp; omega
    refine ⟨some x, c, zs.take n, by rw [hlen], ?_, by rw [hlen]; exact hl, hm, fun z hz' => hwz z (List.mem_of_mem_take hz')⟩
    intro i v hv
    refine ⟨x, rfl, ?_⟩
    rw [List.getElem?_map] at hv
    have hin : i < n := by
      rcases Nat.lt_or_ge i n with h1 | h1
      · exact h1
      · rw [List.getElem?_eq_none (by simp; omega)] at hv; cases hv
    rw [List.getElem?_take_of_lt hin] at hv
    rw [hcell i (by omega)]
    rw [List.getElem?_eq_getElem (by omega : i < zs.length)] at hv
    rw [← hv]; simp [List.getD, List.getElem?_eq_getElem (by omega : i < zs.length)]
theorem open_bytes {t e : TypeId} {v : Value} {d : DataW H} {p : List MemPlace} (ht : P.underlying t = some (.slice e)) (he : P.underlying e = some (.int .u8)) (hc : P.cellsOf e = 1)
    (hv : Value.okWide P w r b0 t v) (h : DataW.Trod enc P w base spare held t v d p) :
    ∃ (A : Option Addr) (c : Nat) (l : List UInt8), v = .slice A l.length c ∧ SeesB w A l ∧ l.length ≤ c ∧ c ≤ maxLen := by
  obtain ⟨A, c, zs, rfl, hs, h1, h2, hw⟩ := open_ints_of ht he hc hv h
  refine ⟨A, c, zs.map fun z => UInt8.ofNat z.toNat, by simp, ?_, by simpa using h1, h2⟩
  have e : (zs.map fun z => UInt8.ofNat z.toNat).map byteV = zs.map fun z => Value.int .u8 z := by
    rw [List.map_map]
    apply List.map_congr_left
    intro z hz
    have := wf_u8 (hw z hz)
    simp [byteV]; omega
  unfold SeesB; rw [e]; exact hs
end
end Go.Proofs.YtkmhmehofipehaaGreatDoor
/- Slices of acts: four cells each. -/
namespace Go.Proofs.YtkmhmehofipehaaGreatDoor
set_option linter.unusedVariables false
open Go.RowKit
theorem addr_one (a : Addr) (j : Nat) (h : j ≠ 0) : a.add j = { block := a.block, off := a.off + j } := by unfold Addr.add; rw [if_neg h]
section
open Go.ChangeShapes Go.WideShapes Go.ChangeAt Go.Deep
variable {H : Type} {enc : TypeId × Value → H} {P : Program} {w : World} {base b0 : Nat} {spare : Nat → Bool} {held : Bool} {r : Reach}
end
end Go.Proofs.YtkmhmehofipehaaGreatDoor
/- Rows of bytes: made, and with a frozen end. -/
namespace Go.Proofs.YtkmhmehofipehaaGreatDoor
set_option linter.unusedVariables false
open Go.RowKit
theorem mk_info : (Tryz.prog.info? 5).map (fun i => (i.zero, i.size, i.bytes)) = some (some (.int .u8 0), 1, 1) := by kernel_rfl
theorem mk_bytes (n : Nat) (hn : n ≤ 281474976710656) (w : World) : (Instr.makeSlice 22 (.int .i64 (n : Int)) (.int .i64 (n : Int))).run Tryz.prog w =
    .ok (.slice (some ⟨w.heap.size, 0, none⟩) n n) (w.alloc (.cells (madeCells #[.int .u8 0] n) 5)) := by
  obtain ⟨i, h0, h1, h2, h3⟩ := info_parts mk_info
  have hr := run_make (P := Tryz.prog) w 22 5 i (.int .u8 0) Tryz.underlying22 h0 h1 .i64 .i64 n n (by omega) (by omega) (by rw [h3]; omega) (by omega)
  simp only [Int.toNat_natCast, h2, Nat.mul_one] at hr
  exact hr
theorem mk_own (n : Nat) (hn : n ≤ 281474976710656) (w : World) : (w.alloc (.cells (madeCells #[.int .u8 0] n) 5)).ownsRow w.heap.size 5 1 (.slice (some ⟨w.heap.size, 0, none⟩) n n) n (List.replicate n (.int .u8 0)) := by
  refine ⟨by simp, .inr ⟨w.heap.size, n, _, rfl, Nat.le_refl _, heap_alloc_new _ _, Nat.le_refl _, by unfold maxLen; omega, by simp [size_madeCells], ?_⟩⟩
  rw [toList_madeCells_one, Nat.mul_one, List.take_of_length_le (by simp)]
/-- a row of bytes whose end may be frozen -/
def RowF (w : World) (g : Nat) (fr : Nat × Nat) (xs : List Value) : Prop := ∃ cur : Array Value, w.heap[g]? = some (.cells cur 5 fr) ∧ xs.length ≤ fr.1 ∧ xs.length ≤ cur.size ∧ cur.toList.take xs.length = xs
theorem RowF.cellAt {w : World} {g : Nat} {fr : Nat × Nat} {xs : List Value} (h : RowF w g fr xs) (j : Nat) (hj : j < xs.length) : w.cell? ⟨g, j, none⟩ = xs[j]? := by
  obtain ⟨cur, hg, h1, h2, h3⟩ := h
  rw [cell_of_row w g j cur 5 fr hg]
  have : xs[j]? = (cur.toList.take xs.length)[j]? := by rw [h3]
  rw [this, List.getElem?_take, if_pos hj]
  simp
theorem RowF.frozenAt {w : World} {g : Nat} {fr : Nat × Nat} {xs : List Value} (h : RowF w g fr xs) (j : Nat) (hj : j < xs.length) : w.frozen? ⟨g, j, none⟩ = false := by
  obtain ⟨cur, hg, h1, h2, h3⟩ := h
  obtain ⟨lo, hi⟩ := fr
  simp only [World.frozen?, hg]
  have : ¬ lo ≤ j := by have : xs.length ≤ lo := h1; omega
  simp [this]
theorem RowF.stored {w : World} {g : Nat} {fr : Nat × Nat} {xs : List Value} (h : RowF w g fr xs) (j : Nat) (u : Value) : RowF (w.setCell ⟨g, j, none⟩ u) g fr (xs.set j u) := by
  obtain ⟨cur, hg, h1, h2, h3⟩ := h
  refine ⟨cur.setIfInBounds j u, ?_, by simpa using h1, by simpa using h2, ?_⟩
  · simp [World.setCell, Array.getElem?_modify, hg]
  · rw [List.length_set, Array.toList_setIfInBounds, List.take_set, h3]
theorem RowF.sees {w : World} {g : Nat} {fr : Nat × Nat} {l : List UInt8} (h : RowF w g fr (l.map byteV)) : SeesB w (some ⟨g, 0, none⟩) l := by
  intro i v hv
  refine ⟨_, rfl, ?_⟩
  have e : (Addr.add ⟨g, 0, none⟩ i) = ⟨g, i, none⟩ := by unfold Addr.add; split <;> simp_all
  rw [e, h.cellAt i (List.getElem?_eq_some_iff.1 hv).1, hv]
/-- a text as a row of bytes -/
theorem conv_row (s : ByteArray) (w : World) : ∃ (c : Nat) (fr : Nat × Nat) (w' : World), (convert 9 22 (.string s)).run Tryz.prog w = .ok (.slice (some ⟨w.heap.size, 0, none⟩) s.size c) w' ∧ Below w.heap.size w w' ∧ RowF w' w.heap.size fr (s.data.toList.map byteV) ∧ s.data.toList.length = s.size := by
  refine ⟨_, ((Lib.bytesCells w 5 s).size, (Lib.bytesCells w 5 s).size + 1), _, Lib.run_convert_string_bytes w _ _ _ s Tryz.underlying9 Tryz.underlying22 Tryz.underlying5, ⟨rfl, rfl, rfl, by rw [Lib.bytesWorld_size]; omega, fun b hb => Lib.bytesWorld_at_old w _ s b hb⟩, ?_, by rw [Array.length_toList]; rfl⟩
  have hl : (s.data.toList.map byteV).length = s.data.size := by rw [List.length_map, Array.length_toList]
  have hz : s.data.size ≤ (Lib.bytesCells w 5 s).size := by unfold Lib.bytesCells; simp
  refine ⟨_, Lib.bytesWorld_at_new w _ s, by rw [hl]; exact hz, by rw [hl]; exact hz, ?_⟩
  rw [hl]
  unfold Lib.bytesCells
  rw [Array.toList_append, List.take_append_of_le_length (by simp)]
  rw [List.take_of_length_le (by simp)]
  simp [byteV]
end Go.Proofs.YtkmhmehofipehaaGreatDoor
/- Small letters: the program's and the reference's. -/
namespace Go.Proofs.YtkmhmehofipehaaGreatDoor
set_option linter.unusedVariables false
open Go.RowKit
def foldN (n : Nat) : Nat := if 65 ≤ n ∧ n ≤ 90 then n + 32 else n
theorem foldN_lt (n : Nat) (h : n < 256) : foldN n < 256 := by unfold foldN; split <;> omega
def foldB (b : UInt8) : UInt8 := UInt8.ofNat (foldN b.toNat)
theorem foldB_v (b : UInt8) : byteV (foldB b) = .int .u8 (foldN b.toNat : Nat) := by
  have := foldN_lt b.toNat b.toNat_lt
  unfold byteV foldB
  rw [UInt8.toNat_ofNat', Nat.mod_eq_of_lt this]
def foldS (s : ByteArray) : ByteArray := ⟨(s.data.toList.map foldB).toArray⟩
theorem small_any (b : UInt8) (w : World) : Calls Tryz.prog 108 #[byteV b] w fun e w' => e = .returned (byteV (foldB b)) ∧ w = w' := by
  rw [foldB_v]
  have hb := b.toNat_lt
  unfold byteV
  generalize b.toNat = x at *
  by_cases h1 : 65 ≤ x
  · have d1 : decide (65 ≤ (x : Int)) = true := decide_eq_true (by omega)
    by_cases h2 : x ≤ 90
    · have d2 : decide ((x : Int) ≤ 90) = true := decide_eq_true (by omega)
      have e : ((foldN x : Nat) : Int) = (x : Int) + 32 := by unfold foldN; rw [if_pos ⟨h1, h2⟩]; omega
      rw [e]
      clear e
      have z : ((x : Int) + 32) % 256 = (x : Int) + 32 := by omega
      go_enter Tryz.func108, Tryz.ntmps108
      go_wp2_with fail
      go_ret
      exact ⟨rfl, rfl⟩
    · have d2 : decide ((x : Int) ≤ 90) = false := decide_eq_false (by omega)
      have e : foldN x = x := by unfold foldN; rw [if_neg (by omega)]
      rw [e]
      clear e
      go_enter Tryz.func108, Tryz.ntmps108
      go_wp2_with fail
      go_ret
      exact ⟨rfl, rfl⟩
  · have d1 : decide (65 ≤ (x : Int)) = false := decide_eq_false (by omega)
    have e : foldN x = x := by unfold foldN; rw [if_neg (by omega)]
    rw [e]
    clear e
    go_enter Tryz.func108, Tryz.ntmps108
    go_wp2_with fail
    go_ret
    exact ⟨rfl, rfl⟩
/-- the first so many bytes are small -/
def foldTo (l : List UInt8) (k : Nat) : List UInt8 := (l.take k).map foldB ++ l.drop k
theorem foldTo_length (l : List UInt8) (k : Nat) : (foldTo l k).length = l.length := by unfold foldTo; simp; omega
theorem foldTo_at (l : List UInt8) (k : Nat) (h : k < l.length) : (foldTo l k)[k]? = some l[k] := by
  unfold foldTo
  rw [List.getElem?_append_right (by simp; omega)]
  simp [h, Nat.min_eq_left (Nat.le_of_lt h)]
theorem foldTo_set (l : List UInt8) (k : Nat) (h : k < l.length) : (foldTo l k).set k (foldB l[k]) = foldTo l (k + 1) := by
  unfold foldTo
  rw [List.set_append_right _ _ (by simp; omega)]
  have e : k - (List.map foldB (List.take k l)).length = 0 := by simp; omega
  rw [e, List.drop_eq_getElem_cons h, List.set_cons_zero, List.take_succ_eq_append_getElem h, List.map_append, List.append_assoc]
  rfl
theorem foldTo_all (l : List UInt8) : foldTo l l.length = l.map foldB := by unfold foldTo; simp
set_option maxRecDepth 20000 in
set_option maxHeartbeats 1000000 in
theorem fold_any (s : ByteArray) (w : World) (hs : s.size ≤ 140737488355328) :
    Calls Tryz.prog 103 #[.string s] w fun e w' => e = .returned (.string (foldS s)) ∧ Below w.heap.size w w' := by
  obtain ⟨c, fr, w1, hcv, hb, hrow, hlen⟩ := conv_row s w
  unfold foldS
  generalize s.data.toList = l at *
  have hsl : l.length ≤ 140737488355328 := by omega
  go_enter Tryz.func103, Tryz.ntmps103
  go_wp2_with fail
  rw [← hlen] at *
  go_loopw [10] (fun i wr => ∃ k : Nat, k ≤ l.length ∧ i = .int .i64 (k : Int) ∧ RowF wr w.heap.size fr ((foldTo l k).map byteV) ∧ Below w.heap.size w wr) (fun i _ => l.length - (intOf i).toNat)
  case atStart => exact ⟨0, by omega, rfl, by simpa [foldTo] using hrow, hb⟩
  case round =>
    obtain ⟨k, hk, rfl, hr, hbr⟩ := hrel
    by_cases hlt : k < l.length
    · have dk : decide ((k : Int) < (l.length : Int)) = true := decide_eq_true (by omega)
      have hm : k < ((foldTo l k).map byteV).length := by rw [List.length_map, foldTo_length]; exact hlt
      have hc := hr.cellAt k hm
      rw [List.getElem?_map, foldTo_at l k hlt, Option.map_some] at hc
      have hf := hr.frozenAt k hm
      have hst := hr.stored k (byteV (foldB l[k]))
      rw [← List.map_set, foldTo_set l k hlt] at hst
      clear hr hm
      have hcall := small_any l[k] wr
      generalize byteV l[k] = bv at *
      obtain ⟨y, hy⟩ : ∃ y : Int, byteV (foldB l[k]) = .int .u8 y := ⟨_, rfl⟩
      rw [hy] at hst hcall
      clear hy
      go_wp2_with fail
      refine hcall.mono ?_
      rintro e w2 ⟨rfl, rfl⟩
      clear hcall
      go_wp2_with fail
      exact ⟨⟨k + 1, by omega, by go_num, hst, hbr.setCell (Nat.le_refl _) _⟩, by simp [intOf]; omega⟩
    · obtain rfl : k = l.length := by omega
      have dk : decide ((l.length : Int) < (l.length : Int)) = false := decide_eq_false (by omega)
      rw [foldTo_all] at hr
      have hcv2 := conv_bs (some ⟨w.heap.size, 0, none⟩) c (l.map foldB) wr hr.sees
      rw [List.length_map] at hcv2
      clear hcv
      go_wp2_with fail
      go_ret
      exact ⟨rfl, hbr⟩
end Go.Proofs.YtkmhmehofipehaaGreatDoor
/- Small letters: the reference's. -/
namespace Go.Proofs.YtkmhmehofipehaaGreatDoor
set_option linter.unusedVariables false
open Go.RowKit
def fillTo (l : List UInt8) (k : Nat) : List Value := (l.take k).map (fun b => byteV (foldB b)) ++ List.replicate (l.length - k) (.int .u8 0)
theorem fillTo_length (l : List UInt8) (k : Nat) (h : k ≤ l.length) : (fillTo l k).length = l.length := by unfold fillTo; simp; omega
theorem fillTo_set (l : List UInt8) (k : Nat) (h : k < l.length) : (fillTo l k).set k (byteV (foldB l[k])) = fillTo l (k + 1) := by
  unfold fillTo
  rw [List.set_append_right _ _ (by simp; omega)]
  have e : k - (List.map (fun b => byteV (foldB b)) (List.take k l)).length = 0 := by simp; omega
  obtain ⟨m, hm⟩ : ∃ m, l.length - k = m + 1 := ⟨l.length - k - 1, by omega⟩
  rw [e, hm, show l.length - (k + 1) = m by omega, List.replicate_succ, List.set_cons_zero, List.take_succ_eq_append_getElem h, List.map_append, List.append_assoc]
  rfl
theorem fillTo_all (l : List UInt8) : fillTo l l.length = (l.map foldB).map byteV := by unfold fillTo; simp
set_option maxRecDepth 20000 in
set_option maxHeartbeats 1000000 in
theorem rfold_any (s : ByteArray) (w : World) (hs : s.size ≤ 140737488355328) :
    Calls Tryz.prog 96 #[.string s] w fun e w' => e = .returned (.string (foldS s)) ∧ Below w.heap.size w w' := by
  have hmk := mk_bytes s.size (by omega) w
  have hown := mk_own s.size (by omega) w
  have hb0 : Below w.heap.size w (w.alloc (.cells (madeCells #[.int .u8 0] s.size) 5)) := (Below.refl _ _).alloc (Nat.le_refl _) _
  have hidx : ∀ (k : Nat) (h : k < s.size), ∃ h2 : k < s.data.toList.length, s[k]'h = s.data.toList[k] := fun k h => ⟨by simpa using h, by simp [ByteArray.getElem_eq_getElem_data]⟩
  have hlen : s.data.toList.length = s.size := by rw [Array.length_toList]; rfl
  unfold foldS
  generalize s.data.toList = l at *
  go_enter Tryz.func96, Tryz.ntmps96
  go_wp2_with fail
  generalize hw0 : w.alloc (.cells (madeCells #[.int .u8 0] s.size) 5) = w0 at *
  clear hw0
  go_loopw [4] (fun i wr => ∃ k : Nat, k ≤ s.size ∧ i = .int .i64 (k : Int) ∧ wr.ownsRow w.heap.size 5 1 (.slice (some ⟨w.heap.size, 0, none⟩) s.size s.size) s.size (fillTo l k) ∧ Below w.heap.size w wr) (fun i _ => s.size - (intOf i).toNat)
  case atStart => exact ⟨0, by omega, rfl, by simpa [fillTo, hlen] using hown, hb0⟩
  case round =>
    obtain ⟨k, hk, rfl, ho, hb⟩ := hrel
    by_cases hlt : k < s.size
    · have dk : decide ((k : Int) < (s.size : Int)) = true := decide_eq_true (by omega)
      have hlt' : k < s.size := by omega
      obtain ⟨h2, hix⟩ := hidx k hlt'
      have hxb := (l[k]'h2).toNat_lt
      have hset := fillTo_set l k h2
      rw [foldB_v] at hset
      have hFN := hid (show foldN (l[k]'h2).toNat = if 65 ≤ (l[k]'h2).toNat ∧ (l[k]'h2).toNat ≤ 90 then (l[k]'h2).toNat + 32 else (l[k]'h2).toNat from rfl)
      have hxn : (s[k]'hlt').toNat = (l[k]'h2).toNat := by rw [hix]
      clear hix
      generalize (l[k]'h2).toNat = x at *
      have hgc : ∀ u : Value, ∃ v, (fillTo l k)[k]? = some v := fun u => ⟨_, List.getElem?_eq_getElem (by rw [fillTo_length l k (by omega)]; omega)⟩
      obtain ⟨u0, hu0⟩ := hgc undef
      have hc := (ho.cellAt k (by omega)).trans hu0
      have hf := ho.frozenAt k
      have hst := (ho.stored k (.int .u8 (x : Int))).1
      have hb1 : Below w.heap.size w (wr.setCell ⟨w.heap.size, k, none⟩ (.int .u8 (x : Int))) := hb.setCell (Nat.le_refl _) _
      by_cases h65 : 65 ≤ x
      · have d65 : decide (65 ≤ (x : Int)) = true := decide_eq_true (by omega)
        by_cases h90 : x ≤ 90
        · have d90 : decide ((x : Int) ≤ 90) = true := decide_eq_true (by omega)
          have z : ((x : Int) + 32) % 256 = (x : Int) + 32 := by omega
          have hc2 := hst.cellAt k (by omega)
          rw [List.getElem?_set_self (by rw [fillTo_length l k (by omega)]; omega)] at hc2
          have hf2 := hst.frozenAt k
          have hst2 := (hst.stored k (.int .u8 ((x : Int) + 32))).1
          have hb2 : Below w.heap.size w ((wr.setCell ⟨w.heap.size, k, none⟩ (.int .u8 (x : Int))).setCell ⟨w.heap.size, k, none⟩ (.int .u8 ((x : Int) + 32))) := hb1.setCell (Nat.le_refl _) _
          rw [List.set_set, show (x : Int) + 32 = ((foldN x : Nat) : Int) by rw [hFN.out, if_pos ⟨h65, h90⟩]; omega, hset] at hst2
          rw [show ((foldN x : Nat) : Int) = (x : Int) + 32 by rw [hFN.out, if_pos ⟨h65, h90⟩]; omega] at hst2
          clear hst hset ho
          go_wp2_with fail
          exact ⟨⟨k + 1, by omega, by go_num, hst2, hb2⟩, by simp [intOf]; omega⟩
        · have d90 : decide ((x : Int) ≤ 90) = false := decide_eq_false (by omega)
          rw [show foldN x = x by rw [hFN.out, if_neg (by omega)]] at hset
          rw [hset] at hst
          clear hset ho
          go_wp2_with fail
          exact ⟨⟨k + 1, by omega, by go_num, hst, hb1⟩, by simp [intOf]; omega⟩
      · have d65 : decide (65 ≤ (x : Int)) = false := decide_eq_false (by omega)
        rw [show foldN x = x by rw [hFN.out, if_neg (by omega)]] at hset
        rw [hset] at hst
        clear hset ho
        go_wp2_with fail
        exact ⟨⟨k + 1, by omega, by go_num, hst, hb1⟩, by simp [intOf]; omega⟩
    · obtain rfl : k = s.size := by omega
      have dk : decide ((s.size : Int) < (s.size : Int)) = false := decide_eq_false (by omega)
      rw [show fillTo l s.size = (l.map foldB).map byteV by rw [← hlen, fillTo_all]] at ho
      have hsee : SeesB wr (some ⟨w.heap.size, 0, none⟩) (l.map foldB) := own_sees ho
      have hcv2 := conv_bs (some ⟨w.heap.size, 0, none⟩) s.size (l.map foldB) wr hsee
      rw [List.length_map, hlen] at hcv2
      clear ho hsee
      go_wp2_with fail
      go_ret
      exact ⟨rfl, hb⟩
end Go.Proofs.YtkmhmehofipehaaGreatDoor
/- Tags in memory: two cells each; who is alike; what is found by a function. -/
namespace Go.Proofs.YtkmhmehofipehaaGreatDoor
set_option linter.unusedVariables false
open Go.RowKit
structure TagV where
  k : ByteArray
  v : ByteArray
/-- a slice that begins at A reads as these tags -/
def SeesT (w : World) (A : Option Addr) (l : List TagV) : Prop := ∀ (i : Nat) (h : i < l.length), ∃ a, A = some a ∧ w.cell? (a.add (i * 2)) = some (.string l[i].k) ∧ w.cell? ((a.add (i * 2)).add 1) = some (.string l[i].v)
theorem SeesT.below {w w' : World} {A : Option Addr} {l : List TagV} (h : SeesT w A l) (hb : Below w.heap.size w w') : SeesT w' A l := by
  intro i hi
  obtain ⟨a, ha, h0, h1⟩ := h i hi
  exact ⟨a, ha, (hb.cell (block_lt_of_cell h0)).trans h0, (hb.cell (block_lt_of_cell h1)).trans h1⟩
theorem SeesT.at {w : World} {A : Option Addr} {l : List TagV} (h : SeesT w A l) {i : Nat} (hi : i < l.length) : ∃ a, A = some a ∧ w.cell? (a.add (i * 2)) = some (.string l[i].k) ∧ w.cell? { block := (a.add (i * 2)).block, off := (a.add (i * 2)).off + 1 } = some (.string l[i].v) := by
  obtain ⟨a, ha, h0, h1⟩ := h i hi
  rw [addr_one _ 1 (by omega)] at h1
  exact ⟨a, ha, h0, h1⟩
theorem SeesT.take {w : World} {A : Option Addr} {l : List TagV} (h : SeesT w A l) (n : Nat) : SeesT w A (l.take n) := by
  intro i hi
  have hl : i < l.length := by rw [List.length_take] at hi; omega
  rw [List.getElem_take]
  exact h i hl
/-- l[:i] -/
def preA (A : Option Addr) (c : Nat) : Option Addr := if c = 0 then A else A.map (·.add 0)
theorem preA_is (A : Option Addr) (c : Nat) : preA A c = A := by
  unfold preA
  split
  · rfl
  · cases A <;> rfl
theorem pre_slice (A : Option Addr) (n c i : Nat) (h2 : i ≤ c) (w : World) : (Instr.sliceAt 28 (.slice A n c) none (some (.int .i64 (i : Int))) none).run Tryz.prog w = .ok (.slice A i c) w := by
  have d2 : (i : Int) ≤ (c : Int) := by omega
  have d0 : (0 : Int) ≤ (i : Int) := by omega
  have e := preA_is A c
  unfold preA at e
  go_simp
  all_goals first | rfl | (simp_all; done)
theorem run_sliceop_h {P : Program} {o : Oper} {a : Act} {w : World} (t : TypeId) (x hi : Operand) (ho : o.op = .slice t x none (some hi) none) (xv hv v : Value) (hx : a.eval x = xv) (hh : a.eval hi = hv)
    (hr : (Instr.sliceAt t xv none (some hv) none).run P w = .ok v w) : (execOp a.eval o).run P w = .ok (.value v) w := by
  unfold execOp
  simp only [ho, hx, hh, Option.map, Sem.run_bind, Sem.run_pure, Result.andThen_ok, hr]
/-- texts compared by their bytes -/
theorem list_eql (F K : ByteArray) : (F.toList == K.toList) = decide (F = K) := by
  by_cases h : F = K
  · subst h
    rw [decide_eq_true rfl]
    exact beq_self_eq_true _
  · rw [decide_eq_false h]
    apply beq_eq_false_iff_ne.2
    intro he
    rw [ByteArray.toList_eq, ByteArray.toList_eq] at he
    exact h (ByteArray.ext (Array.toList_inj.1 he))
/-- is a tag's key alike to this one? -/
def alike (K : ByteArray) (t : TagV) : Bool := decide (foldS t.k = K)
set_option maxHeartbeats 1000000 in
theorem like_any (key : ByteArray) (w : World) (hs : key.size ≤ 140737488355328) :
    Calls Tryz.prog 89 #[.string key] w fun e w' => e = .returned (.func (.func 104) #[] #[.pointer (some ⟨w.heap.size, 0, none⟩)]) ∧ w'.cell? ⟨w.heap.size, 0, none⟩ = some (.string (foldS key)) ∧ Below w.heap.size w w' := by
  have hb0 : Below w.heap.size w (w.alloc (.cells #[.string key] 9)) := (Below.refl _ _).alloc (Nat.le_refl _) _
  have hrow := heap_alloc_new w (.cells #[.string key] 9)
  have c0 : (w.alloc (.cells #[.string key] 9)).cell? ⟨w.heap.size, 0, none⟩ = some (.string key) := by rw [cell_of_row _ _ _ _ _ _ hrow]; rfl
  have hF := hid (fun W => fold_any key W hs)
  generalize foldS key = K at *
  go_enter Tryz.func89, Tryz.ntmps89
  go_wp2_with fail
  generalize w.alloc (.cells #[.string key] 9) = w0 at *
  refine (hF.out w0).mono ?_
  rintro e w1 ⟨rfl, hb1⟩
  have hlt := (Array.getElem?_eq_some_iff.1 hrow).1
  have hrow1 := (hb1.block _ hlt).trans hrow
  have c1 := keep1 hb1 c0
  have f1 := frozen_of_row _ _ 0 _ _ hrow1
  have hbW := (hb0.trans (hb1.mono hb0.size)).setCell (p := ⟨w.heap.size, 0, none⟩) (Nat.le_refl _) (.string K)
  have hr2 := heap_setCell_same w1 w.heap.size 0 _ _ (.string K) hrow1
  have hc2 : (w1.setCell ⟨w.heap.size, 0, none⟩ (.string K)).cell? ⟨w.heap.size, 0, none⟩ = some (.string K) := by rw [cell_of_row _ _ _ _ _ _ hr2]; rfl
  clear hF c0 hrow hrow1 hr2
  go_wp2_with fail
  go_ret
  exact ⟨rfl, hc2, hbW⟩
theorem like_enter (args : Array Value) (W : World) : (callFunc 104 args).run Tryz.prog W = .ok (.enter 104 args) W := by go_simp
set_option maxRecDepth 20000 in
set_option maxHeartbeats 1000000 in
theorem like1_any (g : Nat) (K : ByteArray) (t : TagV) (w : World) (hg : w.cell? ⟨g, 0, none⟩ = some (.string K)) (hs : t.k.size ≤ 140737488355328) :
    Calls Tryz.prog 104 #[.agg #[.string t.k, .string t.v], .pointer (some ⟨g, 0, none⟩)] w fun e w' => e = .returned (.bool (alike K t)) ∧ Below w.heap.size w w' := by
  obtain ⟨R, hR⟩ : ∃ R, R = alike K t := ⟨_, rfl⟩
  rw [← hR]
  unfold alike at hR
  obtain ⟨k, v⟩ := t
  simp only at hR hs ⊢
  have hb0 : Below w.heap.size w (w.alloc (.cells #[.string k, .string v] 100)) := (Below.refl _ _).alloc (Nat.le_refl _) _
  have hrow := heap_alloc_new w (.cells #[.string k, .string v] 100)
  have c0 : (w.alloc (.cells #[.string k, .string v] 100)).cell? ⟨w.heap.size, 0, none⟩ = some (.string k) := by rw [cell_of_row _ _ _ _ _ _ hrow]; rfl
  have c1 := keep1 hb0 hg
  have hF := hid (fun W => fold_any k W hs)
  generalize foldS k = F at *
  clear hrow hg
  go_enter Tryz.func104, Tryz.ntmps104
  go_wp2_with fail
  generalize w.alloc (.cells #[.string k, .string v] 100) = w0 at *
  · skip
    refine wp_region_held_drew (S := fun W => W.cell? ⟨w.heap.size, 0, none⟩ = some (.string k) ∧ W.cell? ⟨g, 0, none⟩ = some (.string K)) (by kernel_rfl) ⟨c0, c1⟩ (fun hHeld => ?_)
    replace c0 : w0.drew.cell? ⟨w.heap.size, 0, none⟩ = some (.string k) := c0
    replace c1 : w0.drew.cell? ⟨g, 0, none⟩ = some (.string K) := c1
    replace hb0 : Below w.heap.size w w0.drew := hb0.drew
    generalize w0.drew = wd at *
    refine wpAnyH_takeD (i := 0) (d := some 4) (v := ?v100) rfl rfl (by kernel_rfl) (by kernel_rfl) (by kernel_rfl) (fun _ _ _ h => h) (Or.inl ⟨by rfl, ?hy100⟩) hHeld ?rest100
    case hy100 =>
      intro wS hS
      go_simp
      all_goals with_reducible rfl
    (try simp only [Act.put, List.setIfInBounds_toArray, List.set_cons_zero, List.set_cons_succ])
    refine wpAnyH_takeD (i := 3) (d := some 7) (v := ?v101) rfl rfl (by kernel_rfl) (by kernel_rfl) (by kernel_rfl) (fun _ _ _ h => h) (Or.inl ⟨by rfl, ?hy101⟩) hHeld ?rest101
    case hy101 =>
      intro wS hS
      obtain ⟨e1, e2⟩ := hS
      go_simp
      all_goals with_reducible rfl
    (try simp only [Act.put, List.setIfInBounds_toArray, List.set_cons_zero, List.set_cons_succ])
    refine wpAnyH_takeD (i := 1) (d := some 5) (v := ?v102) rfl rfl (by kernel_rfl) (by kernel_rfl) (by kernel_rfl) (fun _ _ _ h => h) (Or.inl ⟨by rfl, ?hy102⟩) hHeld ?rest102
    case hy102 =>
      intro wS hS
      obtain ⟨e1, e2⟩ := hS
      go_simp
      all_goals with_reducible rfl
    (try simp only [Act.put, List.setIfInBounds_toArray, List.set_cons_zero, List.set_cons_succ])
    refine wpAnyH_ready (rs := [2]) (by kernel_rfl) (by simp) (AllReadyH.cons rfl (fun K hK => ?_) AllReadyH.nil)
    rw [if_pos (by rfl)]
    go_simp
    refine (hF.out wd).mono ?_
    rintro e w1 ⟨rfl, hb1⟩
    replace c0 := keep1 hb1 c0
    replace c1 := keep1 hb1 c1
    replace hb0 := hb0.trans (hb1.mono hb0.size)
    clear hb1
    go_wp2_with fail
    refine hK.out _ _ ⟨c0, c1⟩ (fun hHeld => ?_)
    clear hK K
    (try simp only [Act.put, List.setIfInBounds_toArray, List.set_cons_zero, List.set_cons_succ])
    have hq : (F.toList == K.toList) = R := by rw [hR, list_eql]
    clear hR
    refine wpAnyH_takeD (i := 4) (d := some 8) (v := ?v103) rfl rfl (by kernel_rfl) (by kernel_rfl) (by kernel_rfl) (fun _ _ _ h => h) (Or.inl ⟨by rfl, ?hy103⟩) hHeld ?rest103
    case hy103 =>
      intro wS hS
      go_simp
      all_goals with_reducible rfl
    (try simp only [Act.put, List.setIfInBounds_toArray, List.set_cons_zero, List.set_cons_succ])
    refine wpAnyH_takeD (i := 5) (d := some 3) (v := ?v104) rfl rfl (by kernel_rfl) (by kernel_rfl) (by kernel_rfl) (fun _ _ _ h => h) (Or.inl ⟨by rfl, ?hy104⟩) hHeld ?rest104
    case hy104 =>
      intro wS hS
      go_simp
      all_goals with_reducible rfl
    (try simp only [Act.put, List.setIfInBounds_toArray, List.set_cons_zero, List.set_cons_succ])
    refine wpAnyH_done (by kernel_rfl) ?_ _
    go_wp2_with fail
    go_ret
    exact ⟨rfl, hb0⟩
/-- where the first is that meets a test; -1: nowhere -/
def idxFrom (p : TagV → Bool) : List TagV → Int → Int
  | [], _ => -1
  | x :: l, i => if p x = true then i else idxFrom p l (i + 1)
theorem idxFrom_any (p : TagV → Bool) : ∀ (l : List TagV) (i : Int), 0 ≤ i → decide (0 ≤ idxFrom p l i) = l.any p
  | [], i, _ => rfl
  | x :: l, i, h => by
    unfold idxFrom
    cases hp : p x with
    | true => rw [if_pos rfl, List.any_cons, hp, decide_eq_true h]; rfl
    | false => rw [if_neg (by simp), List.any_cons, hp, idxFrom_any p l (i + 1) (by omega)]; rfl
set_option maxHeartbeats 1000000 in
theorem findT_any (f : FuncId) (P : Value) (p : TagV → Bool) (A : Option Addr) (c : Nat) (l : List TagV) (w : World) (hl : SeesT w A l) (hlen : l.length ≤ 9223372036854775807)
    (hf : ∀ (args : Array Value) (W : World), (callFunc f args).run Tryz.prog W = .ok (.enter f args) W)
    (hcl : ∀ (W : World) (x : TagV), x ∈ l → Below w.heap.size w W → Calls Tryz.prog f #[.agg #[.string x.k, .string x.v], P] W fun e w' => e = .returned (.bool (p x)) ∧ Below W.heap.size W w') :
    Calls Tryz.prog 102 #[.slice A l.length c, .func (.func f) #[] #[P]] w fun e w' => e = .returned (.int .i64 (idxFrom p l 0)) ∧ Below w.heap.size w w' := by
  obtain ⟨R, hR⟩ : ∃ R, R = idxFrom p l 0 := ⟨_, rfl⟩
  rw [← hR]
  have HR := hid hR
  clear hR
  go_enter Tryz.func102, Tryz.ntmps102
  go_wp2
  go_loopw [8] (fun i wr => ∃ k : Nat, k ≤ l.length ∧ i = .int .i64 (k : Int) ∧ Below w.heap.size w wr ∧ Hid (R = idxFrom p (l.drop k) (k : Int))) (fun i _ => l.length - (intOf i).toNat)
  case atStart => exact ⟨0, by omega, rfl, Below.refl _ _, hid HR.out⟩
  case round =>
    obtain ⟨k, hk, rfl, hb, hE⟩ := hrel
    by_cases hlt : k < l.length
    · have dk : decide ((k : Int) < (l.length : Int)) = true := decide_eq_true (by omega)
      have ck : (k : Int) < (l.length : Int) := by omega
      obtain ⟨a, rfl, hc, hc2⟩ := (hl.below hb).at hlt
      have HS := hid (show idxFrom p (l.drop k) (k : Int) = if p l[k] = true then (k : Int) else idxFrom p (l.drop (k + 1)) ((k + 1 : Nat) : Int) by rw [List.drop_eq_getElem_cons hlt]; rfl)
      have hcall := hcl wr l[k] (List.getElem_mem hlt) hb
      generalize l[k] = x at *
      cases hp : p x with
      | true =>
        rw [hp] at hcall
        obtain rfl : R = (k : Int) := by rw [hE.out, HS.out, if_pos hp]
        clear HR
        go_wp2_with fail
        refine hcall.mono ?_
        rintro e w1 ⟨rfl, hb1⟩
        clear hcall
        go_wp2_with fail
        go_ret
        exact ⟨rfl, hb.trans (hb1.mono hb.size)⟩
      | false =>
        rw [hp] at hcall
        go_wp2_with fail
        refine hcall.mono ?_
        rintro e w1 ⟨rfl, hb1⟩
        clear hcall
        go_wp2_with fail
        go_roundw
        case rel => exact ⟨k + 1, by omega, by go_num, hb.trans (hb1.mono hb.size), hid (by rw [hE.out, HS.out, hp]; rfl)⟩
        case measure => simp [intOf]; omega
    · obtain rfl : k = l.length := by omega
      have dk : decide ((l.length : Int) < (l.length : Int)) = false := decide_eq_false (by omega)
      obtain rfl : R = -1 := by rw [hE.out, List.drop_length]; rfl
      clear HR
      go_wp2_with fail
      go_ret
      exact ⟨rfl, hb⟩
set_option maxHeartbeats 1000000 in
theorem hasT_any (f : FuncId) (P : Value) (p : TagV → Bool) (A : Option Addr) (c : Nat) (l : List TagV) (w : World) (hl : SeesT w A l) (hlen : l.length ≤ 9223372036854775807)
    (hf : ∀ (args : Array Value) (W : World), (callFunc f args).run Tryz.prog W = .ok (.enter f args) W)
    (hcl : ∀ (W : World) (x : TagV), x ∈ l → Below w.heap.size w W → Calls Tryz.prog f #[.agg #[.string x.k, .string x.v], P] W fun e w' => e = .returned (.bool (p x)) ∧ Below W.heap.size W w') :
    Calls Tryz.prog 88 #[.slice A l.length c, .func (.func f) #[] #[P]] w fun e w' => e = .returned (.bool (l.any p)) ∧ Below w.heap.size w w' := by
  have h := findT_any f P p A c l w hl hlen hf hcl
  have hr := idxFrom_any p l 0 (by omega)
  generalize idxFrom p l 0 = r at *
  generalize l.any p = b at *
  clear hcl
  go_enter Tryz.func88, Tryz.ntmps88
  go_wp2_with fail
  refine h.mono ?_
  rintro e w1 ⟨rfl, hb⟩
  clear h
  go_wp2_with fail
  go_ret
  exact ⟨rfl, hb⟩
theorem hasLike_any (g : Nat) (K : ByteArray) (A : Option Addr) (c : Nat) (l : List TagV) (w : World) (hg : w.cell? ⟨g, 0, none⟩ = some (.string K)) (hl : SeesT w A l) (hlen : l.length ≤ 9223372036854775807) (hs : ∀ x ∈ l, x.k.size ≤ 140737488355328) :
    Calls Tryz.prog 88 #[.slice A l.length c, .func (.func 104) #[] #[.pointer (some ⟨g, 0, none⟩)]] w fun e w' => e = .returned (.bool (l.any (alike K))) ∧ Below w.heap.size w w' :=
  hasT_any _ _ (alike K) A c l w hl hlen like_enter (fun W x hx hW => like1_any g K x W (keep1 hW hg) (hs x hx))
set_option maxHeartbeats 1000000 in
theorem rat_any (A : Option Addr) (c : Nat) (l : List TagV) (key : ByteArray) (w : World) (hl : SeesT w A l) (hlen : l.length ≤ 9223372036854775807) (hs : ∀ x ∈ l, x.k.size ≤ 140737488355328) (hk : key.size ≤ 140737488355328) :
    Calls Tryz.prog 70 #[.slice A l.length c, .string key] w fun e w' => e = .returned (.int .i64 (idxFrom (alike (foldS key)) l 0)) ∧ Below w.heap.size w w' := by
  obtain ⟨R, hR⟩ : ∃ R, R = idxFrom (alike (foldS key)) l 0 := ⟨_, rfl⟩
  rw [← hR]
  have HF := hid (fun W => rfold_any key W hk)
  have HG := hid (fun W x (hx : x ∈ l) => rfold_any x.k W (hs x hx))
  generalize foldS key = K at *
  have HR := hid hR
  clear hR hs
  go_enter Tryz.func70, Tryz.ntmps70
  go_wp2_with fail
  go_loopw [5] (fun i wr => ∃ k : Nat, k ≤ l.length ∧ i = .int .i64 (k : Int) ∧ Below w.heap.size w wr ∧ Hid (R = idxFrom (alike K) (l.drop k) (k : Int))) (fun i _ => l.length - (intOf i).toNat)
  case atStart => exact ⟨0, by omega, rfl, Below.refl _ _, hid HR.out⟩
  case round =>
    obtain ⟨k, hk', rfl, hb, hE⟩ := hrel
    by_cases hlt : k < l.length
    · have dk : decide ((k : Int) < (l.length : Int)) = true := decide_eq_true (by omega)
      have ck : (k : Int) < (l.length : Int) := by omega
      obtain ⟨a, rfl, hc, hc2⟩ := (hl.below hb).at hlt
      have HS := hid (show idxFrom (alike K) (l.drop k) (k : Int) = if alike K l[k] = true then (k : Int) else idxFrom (alike K) (l.drop (k + 1)) ((k + 1 : Nat) : Int) by rw [List.drop_eq_getElem_cons hlt]; rfl)
      have hcall := HG.out wr l[k] (List.getElem_mem hlt)
      have hal : alike K l[k] = decide (foldS l[k].k = K) := rfl
      rw [hal] at HS
      generalize foldS l[k].k = F at *
      generalize l[k] = x at *
      clear hal
      go_wp2_with fail
      refine hcall.mono ?_
      rintro e w1 ⟨rfl, hb1⟩
      clear hcall
      go_wp2_with fail
      refine (HF.out w1).mono ?_
      rintro e w2 ⟨rfl, hb2⟩
      have hb12 := hb1.trans (hb2.mono hb1.size)
      have dl := list_eql F K
      cases hq : (F.toList == K.toList) with
      | true =>
        rw [hq] at dl
        obtain rfl : R = (k : Int) := by rw [hE.out, HS.out, if_pos dl.symm]
        clear HR HS dl
        go_wp2_with fail
        go_ret
        exact ⟨rfl, hb.trans (hb12.mono hb.size)⟩
      | false =>
        rw [hq] at dl
        have HN := hid (show R = idxFrom (alike K) (l.drop (k + 1)) ((k + 1 : Nat) : Int) by rw [hE.out, HS.out, ← dl]; rfl)
        clear HS dl
        go_wp2_with fail
        exact ⟨⟨k + 1, by omega, by go_num, hb.trans (hb12.mono hb.size), HN⟩, by simp [intOf]; omega⟩
    · obtain rfl : k = l.length := by omega
      have dk : decide ((l.length : Int) < (l.length : Int)) = false := decide_eq_false (by omega)
      obtain rfl : R = -1 := by rw [hE.out, List.drop_length]; rfl
      clear HR
      go_wp2_with fail
      go_ret
      exact ⟨rfl, hb⟩
end Go.Proofs.YtkmhmehofipehaaGreatDoor
/- Letters of a text: their widths. -/
namespace Go.Proofs.YtkmhmehofipehaaGreatDoor
set_option linter.unusedVariables false
open Go.RowKit
def widL (s : ByteArray) (p : Nat) : Nat := (Utf8.decode s p).2
theorem widL_pos (s : ByteArray) (p : Nat) (h : p < s.size) : 1 ≤ widL s p := by
  unfold widL
  by_cases ha : (s[p]'h).toNat < 128
  · rw [decode_ascii s p h ha]; exact Nat.le_refl _
  · exact (decode_high s p h (by omega)).2
/-- a byte of a text; behind its end some number -/
def byL (s : ByteArray) (p : Nat) : Nat := (s.get! p).toNat
theorem byL_at (s : ByteArray) (p : Nat) (h : p < s.size) : byL s p = (s[p]'h).toNat := by
  unfold byL; rw [← get_at s p h]; rfl
def conL (s : ByteArray) (p : Nat) : Bool := decide (p < s.size) && (byL s p / 64 == 2)
def okR (r : Nat) : Bool := decide (r < 55296) || (decide (57344 ≤ r) && decide (r ≤ 1114111))
theorem valid_is (r : Nat) : Utf8.valid (r : Int) = okR r := by
  unfold Utf8.valid okR
  rw [Bool.eq_iff_iff]
  simp
  omega
def r2 (s : ByteArray) (p : Nat) : Nat := (byL s p % 32) * 64 + byL s (p + 1) % 64
def r3 (s : ByteArray) (p : Nat) : Nat := (byL s p % 16) * 4096 + (byL s (p + 1) % 64) * 64 + byL s (p + 2) % 64
def r4 (s : ByteArray) (p : Nat) : Nat := (byL s p % 8) * 262144 + (byL s (p + 1) % 64) * 4096 + (byL s (p + 2) % 64) * 64 + byL s (p + 3) % 64
theorem decode_is (s : ByteArray) (p : Nat) : Utf8.decode s p =
    if byL s p < 128 then (byL s p, 1) else if (byL s p / 32 == 6 && conL s (p + 1)) = true then (if 128 ≤ r2 s p then (r2 s p, 2) else (65533, 1))
    else if (byL s p / 16 == 14 && conL s (p + 1) && conL s (p + 2)) = true then (if (decide (2048 ≤ r3 s p) && okR (r3 s p)) = true then (r3 s p, 3) else (65533, 1))
    else if (byL s p / 8 == 30 && conL s (p + 1) && conL s (p + 2) && conL s (p + 3)) = true then (if (decide (65536 ≤ r4 s p) && okR (r4 s p)) = true then (r4 s p, 4) else (65533, 1)) else (65533, 1) := by
  unfold Utf8.decode r2 r3 r4 conL byL
  simp only [valid_is, Nat.add_zero, ge_iff_le, Utf8.runeError]
/-- how many bytes the letter at a place has by the document, and which it is; none: 0 -/
def letL (s : ByteArray) (p : Nat) : Nat × Nat :=
  if byL s p < 128 then (1, byL s p) else if (decide (194 ≤ byL s p) && decide (byL s p < 224) && conL s (p + 1)) = true then (2, r2 s p)
  else if (decide (224 ≤ byL s p) && decide (byL s p < 240) && conL s (p + 1) && conL s (p + 2) && (decide (2048 ≤ r3 s p) && okR (r3 s p))) = true then (3, r3 s p)
  else if (decide (240 ≤ byL s p) && decide (byL s p < 245) && conL s (p + 1) && conL s (p + 2) && conL s (p + 3) && (decide (65536 ≤ r4 s p) && okR (r4 s p))) = true then (4, r4 s p) else (0, 0)
theorem byL_lt (s : ByteArray) (p : Nat) : byL s p < 256 := (s.get! p).toNat_lt
end Go.Proofs.YtkmhmehofipehaaGreatDoor
/- Letters of a text that was cut behind a letter. -/
namespace Go.Proofs.YtkmhmehofipehaaGreatDoor
set_option linter.unusedVariables false
open Go.RowKit
end Go.Proofs.YtkmhmehofipehaaGreatDoor
/- A text's letters, one by one: plain. -/
namespace Go.Proofs.YtkmhmehofipehaaGreatDoor
set_option linter.unusedVariables false
open Go.RowKit
theorem below_iter (w : World) (s : ByteArray) (p : Nat) : Below w.heap.size w (w.iter s p) := (Below.refl _ _).alloc (Nat.le_refl _) _
end Go.Proofs.YtkmhmehofipehaaGreatDoor
/- utf8.ValidString, laid at this program; what its two tables hold. -/
namespace Go.Proofs.YtkmhmehofipehaaGreatDoor
set_option linter.unusedVariables false
open Go.RowKit Go.Shelf Go.Lib Go.Proofs
def validRen : Ren where
  f := fun x => match x with
    | 196 => 105
    | 259 => 109
    | n => n
  t := fun x => match x with
    | 9 => 9
    | 4 => 4
    | 3 => 3
    | 5 => 5
    | 12 => 12
    | 119 => 161
    | 0 => 0
    | 46 => 91
    | 139 => 164
    | 138 => 163
    | 53 => 165
    | n => n
  g := fun x => match x with
    | 3 => 0
    | 4 => 1
    | n => n
theorem laysValid : Lays.n196 Tryz.prog validRen where
  mixed := by kernel_rfl
  f196 := by kernel_rfl
  f259 := by kernel_rfl
  t0 := by kernel_rfl
  a0 := fun _ => by kernel_rfl
  z0 := fun _ => by kernel_rfl
  v0 := fun _ => by kernel_rfl
  t3 := by kernel_rfl
  a3 := fun _ => by kernel_rfl
  z3 := fun _ => by kernel_rfl
  v3 := fun _ => by kernel_rfl
  t4 := by kernel_rfl
  a4 := fun _ => by kernel_rfl
  z4 := fun _ => by kernel_rfl
  v4 := fun _ => by kernel_rfl
  t5 := by kernel_rfl
  a5 := fun _ => by kernel_rfl
  z5 := fun _ => by kernel_rfl
  v5 := fun _ => by kernel_rfl
  t9 := by kernel_rfl
  a9 := fun _ => by kernel_rfl
  z9 := fun _ => by kernel_rfl
  v9 := fun _ => by kernel_rfl
  t12 := by kernel_rfl
  a12 := fun _ => by kernel_rfl
  z12 := fun _ => by kernel_rfl
  v12 := fun _ => by kernel_rfl
  t46 := by kernel_rfl
  a46 := fun _ => by kernel_rfl
  z46 := fun _ => by kernel_rfl
  v46 := fun _ => by kernel_rfl
  t53 := by kernel_rfl
  a53 := fun _ => by kernel_rfl
  z53 := fun _ => by kernel_rfl
  v53 := fun _ => by kernel_rfl
  t119 := by kernel_rfl
  a119 := fun _ => by kernel_rfl
  z119 := fun _ => by kernel_rfl
  t138 := by kernel_rfl
  a138 := fun _ => by kernel_rfl
  z138 := fun _ => by kernel_rfl
  v138 := fun _ => by kernel_rfl
  t139 := by kernel_rfl
  a139 := fun _ => by kernel_rfl
  z139 := fun _ => by kernel_rfl
  v139 := fun _ => by kernel_rfl
  g3 := by kernel_rfl
  g4 := by kernel_rfl
/-- the two tables as their initialisers lay them -/
def Tabs (w : World) : Prop := Lib.Utf8Tabs (validRen.g 3) (validRen.g 4) w
theorem Tabs.below {w w' : World} (h : Tabs w) (hb : Below w.heap.size w w') : Tabs w' := Utf8Tabs_below h hb
theorem valid_any (s : ByteArray) (w : World) (hs : s.size ≤ 9223372036854775807) (hT : Tabs w) :
    Calls Tryz.prog 105 #[.string s] w fun e w' => e = .returned (.bool (Lib.validD s.data.toList)) ∧ Below w.heap.size w w' :=
  Any.utf8_ValidString laysValid s w hs hT
theorem extra : U8Extra Tryz.prog validRen := ⟨by kernel_rfl, by kernel_rfl, by kernel_rfl, by kernel_rfl, by kernel_rfl, by kernel_rfl, by kernel_rfl⟩
end Go.Proofs.YtkmhmehofipehaaGreatDoor
/- What a letter is: the decoder's step and the document's; keys and values, plain. -/
namespace Go.Proofs.YtkmhmehofipehaaGreatDoor
set_option linter.unusedVariables false
open Go.RowKit
/-- the decoder's step is the document's letter; where there is none: (U+FFFD, 1) -/
theorem dec_let (s : ByteArray) (p : Nat) : Utf8.decode s p = if (letL s p).1 = 0 then (65533, 1) else ((letL s p).2, (letL s p).1) := by
  have h0 := byL_lt s p
  have h1 := byL_lt s (p + 1)
  have h2 := byL_lt s (p + 2)
  have h3 := byL_lt s (p + 3)
  have fin : ∀ (a : Nat × Nat) (b : Nat × Nat), letL s p = a → Utf8.decode s p = b → (b = if a.1 = 0 then (65533, 1) else (a.2, a.1)) → Utf8.decode s p = if (letL s p).1 = 0 then (65533, 1) else ((letL s p).2, (letL s p).1) := fun a b e1 e2 e3 => by
    rw [e1, e2, e3]
  by_cases a : byL s p < 128
  · exact fin (1, byL s p) (byL s p, 1) (by unfold letL; rw [if_pos a]) (by rw [decode_is, if_pos a]) rfl
  by_cases b : (byL s p / 32 == 6 && conL s (p + 1)) = true
  · have b' := b
    simp only [Bool.and_eq_true, beq_iff_eq] at b'
    obtain ⟨b1, b2⟩ := b'
    have b3 := b2
    unfold conL at b3
    simp only [Bool.and_eq_true, decide_eq_true_eq, beq_iff_eq] at b3
    by_cases c : 194 ≤ byL s p
    · exact fin (2, r2 s p) (r2 s p, 2) (by unfold letL; rw [if_neg a, if_pos (by simp only [b2, Bool.and_eq_true, decide_eq_true_eq, eq_self, and_true]; omega)]) (by rw [decode_is, if_neg a, if_pos b, if_pos (by unfold r2; omega)]) rfl
    · exact fin (0, 0) (65533, 1) (by
        unfold letL
        rw [if_neg a, if_neg (by simp only [Bool.and_eq_true, decide_eq_true_eq]; omega), if_neg (by simp only [Bool.and_eq_true, decide_eq_true_eq]; omega), if_neg (by simp only [Bool.and_eq_true, decide_eq_true_eq]; omega)])
        (by rw [decode_is, if_neg a, if_pos b, if_neg (by unfold r2; omega)]) rfl
  have hb : ¬ ((decide (194 ≤ byL s p) && decide (byL s p < 224) && conL s (p + 1)) = true) := by
    intro h
    simp only [Bool.and_eq_true, decide_eq_true_eq] at h
    exact b (by simp only [Bool.and_eq_true, beq_iff_eq]; exact ⟨by omega, h.2⟩)
  by_cases c : (byL s p / 16 == 14 && conL s (p + 1) && conL s (p + 2)) = true
  · have c' := c
    simp only [Bool.and_eq_true, beq_iff_eq] at c'
    obtain ⟨⟨c1, c2⟩, c3⟩ := c'
    by_cases d : (decide (2048 ≤ r3 s p) && okR (r3 s p)) = true
    · exact fin (3, r3 s p) (r3 s p, 3) (by
        unfold letL
        rw [if_neg a, if_neg hb, if_pos (by rw [d, c2, c3]; simp only [Bool.and_eq_true, decide_eq_true_eq, eq_self, and_true]; omega)])
        (by rw [decode_is, if_neg a, if_neg b, if_pos c, if_pos d]) rfl
    · exact fin (0, 0) (65533, 1) (by
        unfold letL
        rw [if_neg a, if_neg hb, if_neg (fun h => d (by rw [Bool.and_eq_true] at h; exact h.2)), if_neg (by simp only [Bool.and_eq_true, decide_eq_true_eq]; omega)])
        (by rw [decode_is, if_neg a, if_neg b, if_pos c, if_neg d]) rfl
  have hc : ¬ ((decide (224 ≤ byL s p) && decide (byL s p < 240) && conL s (p + 1) && conL s (p + 2) && (decide (2048 ≤ r3 s p) && okR (r3 s p))) = true) := by
    intro h
    simp only [Bool.and_eq_true, decide_eq_true_eq] at h
    exact c (by simp only [Bool.and_eq_true, beq_iff_eq]; exact ⟨⟨by omega, h.1.1.2⟩, h.1.2⟩)
  by_cases d : (byL s p / 8 == 30 && conL s (p + 1) && conL s (p + 2) && conL s (p + 3)) = true
  · have d' := d
    simp only [Bool.and_eq_true, beq_iff_eq] at d'
    obtain ⟨⟨⟨d1, d2⟩, d3⟩, d4⟩ := d'
    by_cases e : (decide (65536 ≤ r4 s p) && okR (r4 s p)) = true
    · have e' := e
      unfold okR r4 at e'
      simp only [Bool.and_eq_true, Bool.or_eq_true, decide_eq_true_eq] at e'
      exact fin (4, r4 s p) (r4 s p, 4) (by
        unfold letL
        rw [if_neg a, if_neg hb, if_neg hc, if_pos (by rw [e, d2, d3, d4]; simp only [Bool.and_eq_true, decide_eq_true_eq, eq_self, and_true]; omega)])
        (by rw [decode_is, if_neg a, if_neg b, if_neg c, if_pos d, if_pos e]) rfl
    · exact fin (0, 0) (65533, 1) (by
        unfold letL
        rw [if_neg a, if_neg hb, if_neg hc, if_neg (fun h => e (by rw [Bool.and_eq_true] at h; exact h.2))])
        (by rw [decode_is, if_neg a, if_neg b, if_neg c, if_pos d, if_neg e]) rfl
  · exact fin (0, 0) (65533, 1) (by
      unfold letL
      rw [if_neg a, if_neg hb, if_neg hc, if_neg (fun h => d (by
        simp only [Bool.and_eq_true, decide_eq_true_eq] at h
        simp only [Bool.and_eq_true, beq_iff_eq]
        exact ⟨⟨⟨by omega, h.1.1.1.2⟩, h.1.1.2⟩, h.1.2⟩))])
      (by rw [decode_is, if_neg a, if_neg b, if_neg c, if_neg d]) rfl
/-- the letter at a place, as a number -/
def runL (s : ByteArray) (p : Nat) : Nat := (Utf8.decode s p).1
theorem runL_low (s : ByteArray) (p : Nat) (h : byL s p < 128) : runL s p = byL s p ∧ widL s p = 1 := by
  unfold runL widL
  rw [decode_is, if_pos h]
  exact ⟨rfl, rfl⟩
theorem runL_high (s : ByteArray) (p : Nat) (h : ¬ byL s p < 128) : 128 ≤ runL s p := by
  unfold runL
  rw [decode_is, if_neg h]
  split
  · split
    · assumption
    · decide
  · split
    · split
      · rename_i h3
        simp only [Bool.and_eq_true, decide_eq_true_eq] at h3
        have := h3.1
        show 128 ≤ r3 s p
        omega
      · decide
    · split
      · split
        · rename_i h4
          simp only [Bool.and_eq_true, decide_eq_true_eq] at h4
          have := h4.1
          show 128 ≤ r4 s p
          omega
        · decide
      · decide
/-- is a byte one of a key? -/
def keyN (b : Nat) : Bool := !(decide (b < 32) || decide (125 < b) || decide (b = 61))
/-- from a place on, are all bytes those of a key? -/
def keyFrom (s : ByteArray) : Nat → Nat → Bool
  | 0, _ => true
  | k + 1, p => if p < s.size then keyN (byL s p) && keyFrom s k (p + 1) else true
def keyB (s : ByteArray) : Bool := keyFrom s s.size 0 && (decide (1 ≤ s.size) && decide (s.size ≤ 32))
theorem keyFrom_step (s : ByteArray) (k p : Nat) (h : p < s.size) : keyFrom s (k + 1) p = (keyN (byL s p) && keyFrom s k (p + 1)) := by
  show (if p < s.size then _ else _) = _
  rw [if_pos h]
theorem keyFrom_end (s : ByteArray) (k p : Nat) (h : ¬ p < s.size) : keyFrom s k p = true := by
  cases k with
  | zero => rfl
  | succ k => show (if p < s.size then _ else _) = _; rw [if_neg h]
/-- from a place on, are all letters those of a value? by the document -/
def valFrom (s : ByteArray) : Nat → Nat → Bool
  | 0, _ => true
  | k + 1, p => if p < s.size then (if (letL s p).1 = 0 ∨ (letL s p).2 < 32 then false else valFrom s k (p + (letL s p).1)) else true
def valB (s : ByteArray) : Bool := decide (s.size ≤ 1024) && valFrom s s.size 0
/-- .. by the decoder: no letter below 32 -/
def runFrom (s : ByteArray) : Nat → Nat → Bool
  | 0, _ => true
  | k + 1, p => if p < s.size then (if runL s p < 32 then false else runFrom s k (p + widL s p)) else true
theorem valFrom_end (s : ByteArray) (k p : Nat) (h : ¬ p < s.size) : valFrom s k p = true := by
  cases k with
  | zero => rfl
  | succ k => show (if p < s.size then _ else _) = _; rw [if_neg h]
theorem runFrom_end (s : ByteArray) (k p : Nat) (h : ¬ p < s.size) : runFrom s k p = true := by
  cases k with
  | zero => rfl
  | succ k => show (if p < s.size then _ else _) = _; rw [if_neg h]
theorem valFrom_step (s : ByteArray) (k p : Nat) (h : p < s.size) : valFrom s (k + 1) p = if (letL s p).1 = 0 ∨ (letL s p).2 < 32 then false else valFrom s k (p + (letL s p).1) := by
  show (if p < s.size then _ else _) = _
  rw [if_pos h]
theorem runFrom_step (s : ByteArray) (k p : Nat) (h : p < s.size) : runFrom s (k + 1) p = if runL s p < 32 then false else runFrom s k (p + widL s p) := by
  show (if p < s.size then _ else _) = _
  rw [if_pos h]
theorem runFrom_more (s : ByteArray) : ∀ (k m p : Nat), s.size ≤ p + k → k ≤ m → runFrom s m p = runFrom s k p
  | 0, m, p, h, _ => by rw [runFrom_end s m p (by omega), runFrom_end s 0 p (by omega)]
  | k + 1, m, p, h, hm => by
    obtain ⟨m, rfl⟩ : ∃ j, m = j + 1 := ⟨m - 1, by omega⟩
    by_cases hp : p < s.size
    · rw [runFrom_step s m p hp, runFrom_step s k p hp]
      have := widL_pos s p hp
      rw [runFrom_more s k m _ (by omega) (by omega)]
    · rw [runFrom_end s _ p hp, runFrom_end s _ p hp]
theorem letL_one (s : ByteArray) (p : Nat) (h : (letL s p).1 = 1) : (letL s p).2 < 128 := by
  unfold letL at h ⊢
  split
  · assumption
  · rename_i h0
    rw [if_neg h0] at h
    split at h
    · simp at h
    · split at h
      · simp at h
      · split at h
        · simp at h
        · simp at h
/-- both readings of a value are one -/
theorem val_eq (s : ByteArray) : ∀ (k p : Nat), s.size ≤ p + k → valFrom s k p = (Lib.validD (s.data.toList.drop p) && runFrom s k p)
  | 0, p, h => by
    rw [valFrom_end s 0 p (by omega), runFrom_end s 0 p (by omega)]
    have hn : s.data.toList.drop p = [] := List.drop_eq_nil_of_le (by rw [Array.length_toList]; exact h)
    rw [hn]
    rfl
  | k + 1, p, h => by
    by_cases hp : p < s.size
    · have hne : s.data.toList.drop p ≠ [] := by
        intro hn
        have := List.drop_eq_nil_iff.1 hn
        rw [Array.length_toList] at this
        have : s.size ≤ p := this
        omega
      rw [valFrom_step s k p hp, runFrom_step s k p hp, Lib.validD_step _ hne, Lib.decodeL_drop]
      unfold runL widL
      rw [dec_let]
      by_cases h0 : (letL s p).1 = 0
      · rw [if_pos (.inl h0), if_pos h0]
        simp
      · rw [if_neg h0]
        have hw : 1 ≤ (letL s p).1 := by omega
        have hno : ¬ ((letL s p).2 = 65533 ∧ (letL s p).1 = 1) := by
          rintro ⟨e1, e2⟩
          have hd := dec_let s p
          rw [if_neg h0, e1, e2] at hd
          have hl := letL_one s p e2
          rw [e1] at hl
          omega
        dsimp only
        rw [if_neg hno]
        by_cases hs : (letL s p).2 < 32
        · rw [if_pos (.inr hs), if_pos hs]; simp
        · rw [if_neg (by omega), if_neg hs, List.drop_drop]
          exact val_eq s k _ (by omega)
    · have hn : s.data.toList.drop p = [] := List.drop_eq_nil_of_le (by rw [Array.length_toList]; exact Nat.le_of_not_lt hp)
      rw [valFrom_end s _ p hp, runFrom_end s _ p hp, hn]
      rfl
end Go.Proofs.YtkmhmehofipehaaGreatDoor
