/- Info read: the program's Get. -/
import Derived.Test.YtkmhmehofipehaaGreatDoorPz11
import Derived.Test.YtkmhmehofipehaaGreatDoorPz2
import Derived.Test.YtkmhmehofipehaaGreatDoorPz6
namespace Go.Proofs.YtkmhmehofipehaaGreatDoor
set_option linter.unusedVariables false
open Go.RowKit
/-- a field of the bytes of info -/
def fld (l : List UInt8) (p n : Nat) : Nat := valLE ((l.drop p).take n)
theorem fld_lt (l : List UInt8) (p n : Nat) : fld l p n < 256 ^ n := by
  have h1 := valLE_lt ((l.drop p).take n)
  have h2 : ((l.drop p).take n).length ≤ n := by simp; omega
  exact Nat.lt_of_lt_of_le h1 (Nat.pow_le_pow_right (by omega) h2)
theorem takeU_in (p n : Nat) (T : List UInt8) (h : p + n ≤ T.length) (hn : 1 ≤ n ∧ n ≤ 8) : takeU (0, p) T (n : Int) = ((0, p + n), (T.drop p).take n) := by
  unfold takeU tnext
  rw [if_neg (by simp), if_neg (by omega), Int.toNat_natCast, if_neg (by omega)]
def GetPost (w : World) (r : Int × Int × Int × Int × Int × Int × Int) (e : Ending) (w' : World) : Prop :=
  e = .returned (.tuple #[.agg #[.int .i64 r.2.1, .int .i64 r.2.2.1, .int .i64 r.2.2.2.1, .int .i64 r.2.2.2.2.1, .int .i64 r.2.2.2.2.2.1, .int .i64 r.2.2.2.2.2.2], .int .i64 r.1]) ∧ Below w.heap.size w w'
/-- the info that bytes of enough length say: kind, channels, bits, rate, block, shape -/
def saidI (l : List UInt8) : Int × Int × Int × Int × Int × Int := (fld l 4 1, fld l 5 1, fld l 6 1, fld l 8 3, fld l 11 4, fld l 7 1)
def getI (l : List UInt8) : Int × Int × Int × Int × Int × Int × Int :=
  if startsI l = false then (31, 0, 0, 0, 0, 0, 0) else if l.length < 19 then (10, 0, 0, 0, 0, 0, 0) else if sumI (l.take 15) ≠ (fld l 15 4 : Int) then (33, 0, 0, 0, 0, 0, 0)
  else if rightI (fld l 4 1) (fld l 5 1) (fld l 6 1) (fld l 8 3) (fld l 11 4) (fld l 7 1) = false then (32, 0, 0, 0, 0, 0, 0) else (0, saidI l)
set_option maxHeartbeats 2000000 in
theorem iget_kind (t : Nat) (A : Option Addr) (c : Nat) (l : List UInt8) (w : World) (hl : SeesB w A l) (hc : l.length ≤ c) (hs : startsI l = false) :
    Calls Tryz.prog 28 #[.pointer (some ⟨t, 0, none⟩), .slice A l.length c] w (GetPost w (31, 0, 0, 0, 0, 0, 0)) := by
  have hb : Below w.heap.size w (w.alloc (.cells #[.int .i64 0, .int .i64 0, .int .i64 0, .int .i64 0, .int .i64 0, .int .i64 0] 27)) := (Below.refl _ w).alloc (Nat.le_refl _) _
  have hrow := heap_alloc_new w (.cells #[.int .i64 0, .int .i64 0, .int .i64 0, .int .i64 0, .int .i64 0, .int .i64 0] 27)
  go_enter Tryz.func28, Tryz.ntmps28
  go_wp2_with fail
  generalize w.alloc (.cells #[.int .i64 0, .int .i64 0, .int .i64 0, .int .i64 0, .int .i64 0, .int .i64 0] 27) = w0 at *
  have hlt0 : w.heap.size < w0.heap.size := (Array.getElem?_eq_some_iff.1 hrow).1
  refine (starts_any A c l w0 (hl.below hb) hc).mono ?_
  rintro e w1 ⟨rfl, hb1⟩
  have hbw1 := hb.trans (hb1.mono hb.size)
  have hrow1 := (hb1.block w.heap.size hlt0).trans hrow
  have hlt1 := Nat.lt_of_lt_of_le hlt0 hb1.size
  rw [hs]
  have c0 : w1.cell? ⟨w.heap.size, 0, none⟩ = some (.int .i64 0) := by rw [cell_of_row _ _ _ _ _ _ hrow1]; rfl
  have f0 : w1.frozen? ⟨w.heap.size, 0, none⟩ = false := frozen_of_row _ _ _ _ _ hrow1
  have c1 : w1.cell? ⟨w.heap.size, 1, none⟩ = some (.int .i64 0) := by rw [cell_of_row _ _ _ _ _ _ hrow1]; rfl
  have f1 : w1.frozen? ⟨w.heap.size, 1, none⟩ = false := frozen_of_row _ _ _ _ _ hrow1
  have c2 : w1.cell? ⟨w.heap.size, 2, none⟩ = some (.int .i64 0) := by rw [cell_of_row _ _ _ _ _ _ hrow1]; rfl
  have f2 : w1.frozen? ⟨w.heap.size, 2, none⟩ = false := frozen_of_row _ _ _ _ _ hrow1
  have c3 : w1.cell? ⟨w.heap.size, 3, none⟩ = some (.int .i64 0) := by rw [cell_of_row _ _ _ _ _ _ hrow1]; rfl
  have f3 : w1.frozen? ⟨w.heap.size, 3, none⟩ = false := frozen_of_row _ _ _ _ _ hrow1
  have c4 : w1.cell? ⟨w.heap.size, 4, none⟩ = some (.int .i64 0) := by rw [cell_of_row _ _ _ _ _ _ hrow1]; rfl
  have f4 : w1.frozen? ⟨w.heap.size, 4, none⟩ = false := frozen_of_row _ _ _ _ _ hrow1
  have c5 : w1.cell? ⟨w.heap.size, 5, none⟩ = some (.int .i64 0) := by rw [cell_of_row _ _ _ _ _ _ hrow1]; rfl
  have f5 : w1.frozen? ⟨w.heap.size, 5, none⟩ = false := frozen_of_row _ _ _ _ _ hrow1
  clear hb hb1 hrow
  go_wp2_with fail
  have r0 := fun v => heap_setCell_same _ w.heap.size 0 _ _ v hrow1
  have b0 := fun v => Below.setCell hbw1 (p := ⟨w.heap.size, 0, none⟩) (Nat.le_refl _) v
  have r1 := fun v => heap_setCell_same _ w.heap.size 1 _ _ v (r0 (.int .i64 0))
  have b1 := fun v => Below.setCell (b0 (.int .i64 0)) (p := ⟨w.heap.size, 1, none⟩) (Nat.le_refl _) v
  have r2 := fun v => heap_setCell_same _ w.heap.size 2 _ _ v (r1 (.int .i64 0))
  have b2 := fun v => Below.setCell (b1 (.int .i64 0)) (p := ⟨w.heap.size, 2, none⟩) (Nat.le_refl _) v
  have r3 := fun v => heap_setCell_same _ w.heap.size 3 _ _ v (r2 (.int .i64 0))
  have b3 := fun v => Below.setCell (b2 (.int .i64 0)) (p := ⟨w.heap.size, 3, none⟩) (Nat.le_refl _) v
  have r4 := fun v => heap_setCell_same _ w.heap.size 4 _ _ v (r3 (.int .i64 0))
  have b4 := fun v => Below.setCell (b3 (.int .i64 0)) (p := ⟨w.heap.size, 4, none⟩) (Nat.le_refl _) v
  have r5 := fun v => heap_setCell_same _ w.heap.size 5 _ _ v (r4 (.int .i64 0))
  have b5 := fun v => Below.setCell (b4 (.int .i64 0)) (p := ⟨w.heap.size, 5, none⟩) (Nat.le_refl _) v
  exact bodyPost_ret (results_row_tmp rfl _ _ w.heap.size _ _ _ _ rfl (r5 (.int .i64 0)) Tryz.underlying27 rfl (by kernel_rfl)) rfl ⟨rfl, (b5 (.int .i64 0))⟩
set_option maxHeartbeats 2000000 in
theorem iget_end (t : Nat) (A : Option Addr) (c : Nat) (l : List UInt8) (w : World) (hl : SeesB w A l) (hc : l.length ≤ c) (hs : startsI l = true) (hn : l.length < 19) :
    Calls Tryz.prog 28 #[.pointer (some ⟨t, 0, none⟩), .slice A l.length c] w (GetPost w (10, 0, 0, 0, 0, 0, 0)) := by
  have d1 : decide ((l.length : Int) < 19) = true := by simp; omega
  have hb : Below w.heap.size w (w.alloc (.cells #[.int .i64 0, .int .i64 0, .int .i64 0, .int .i64 0, .int .i64 0, .int .i64 0] 27)) := (Below.refl _ w).alloc (Nat.le_refl _) _
  have hrow := heap_alloc_new w (.cells #[.int .i64 0, .int .i64 0, .int .i64 0, .int .i64 0, .int .i64 0, .int .i64 0] 27)
  go_enter Tryz.func28, Tryz.ntmps28
  go_wp2_with fail
  generalize w.alloc (.cells #[.int .i64 0, .int .i64 0, .int .i64 0, .int .i64 0, .int .i64 0, .int .i64 0] 27) = w0 at *
  have hlt0 : w.heap.size < w0.heap.size := (Array.getElem?_eq_some_iff.1 hrow).1
  refine (starts_any A c l w0 (hl.below hb) hc).mono ?_
  rintro e w1 ⟨rfl, hb1⟩
  have hbw1 := hb.trans (hb1.mono hb.size)
  have hrow1 := (hb1.block w.heap.size hlt0).trans hrow
  have hlt1 := Nat.lt_of_lt_of_le hlt0 hb1.size
  rw [hs]
  have c0 : w1.cell? ⟨w.heap.size, 0, none⟩ = some (.int .i64 0) := by rw [cell_of_row _ _ _ _ _ _ hrow1]; rfl
  have f0 : w1.frozen? ⟨w.heap.size, 0, none⟩ = false := frozen_of_row _ _ _ _ _ hrow1
  have c1 : w1.cell? ⟨w.heap.size, 1, none⟩ = some (.int .i64 0) := by rw [cell_of_row _ _ _ _ _ _ hrow1]; rfl
  have f1 : w1.frozen? ⟨w.heap.size, 1, none⟩ = false := frozen_of_row _ _ _ _ _ hrow1
  have c2 : w1.cell? ⟨w.heap.size, 2, none⟩ = some (.int .i64 0) := by rw [cell_of_row _ _ _ _ _ _ hrow1]; rfl
  have f2 : w1.frozen? ⟨w.heap.size, 2, none⟩ = false := frozen_of_row _ _ _ _ _ hrow1
  have c3 : w1.cell? ⟨w.heap.size, 3, none⟩ = some (.int .i64 0) := by rw [cell_of_row _ _ _ _ _ _ hrow1]; rfl
  have f3 : w1.frozen? ⟨w.heap.size, 3, none⟩ = false := frozen_of_row _ _ _ _ _ hrow1
  have c4 : w1.cell? ⟨w.heap.size, 4, none⟩ = some (.int .i64 0) := by rw [cell_of_row _ _ _ _ _ _ hrow1]; rfl
  have f4 : w1.frozen? ⟨w.heap.size, 4, none⟩ = false := frozen_of_row _ _ _ _ _ hrow1
  have c5 : w1.cell? ⟨w.heap.size, 5, none⟩ = some (.int .i64 0) := by rw [cell_of_row _ _ _ _ _ _ hrow1]; rfl
  have f5 : w1.frozen? ⟨w.heap.size, 5, none⟩ = false := frozen_of_row _ _ _ _ _ hrow1
  clear hb hb1 hrow
  go_wp2_with fail
  have r0 := fun v => heap_setCell_same _ w.heap.size 0 _ _ v hrow1
  have b0 := fun v => Below.setCell hbw1 (p := ⟨w.heap.size, 0, none⟩) (Nat.le_refl _) v
  have r1 := fun v => heap_setCell_same _ w.heap.size 1 _ _ v (r0 (.int .i64 0))
  have b1 := fun v => Below.setCell (b0 (.int .i64 0)) (p := ⟨w.heap.size, 1, none⟩) (Nat.le_refl _) v
  have r2 := fun v => heap_setCell_same _ w.heap.size 2 _ _ v (r1 (.int .i64 0))
  have b2 := fun v => Below.setCell (b1 (.int .i64 0)) (p := ⟨w.heap.size, 2, none⟩) (Nat.le_refl _) v
  have r3 := fun v => heap_setCell_same _ w.heap.size 3 _ _ v (r2 (.int .i64 0))
  have b3 := fun v => Below.setCell (b2 (.int .i64 0)) (p := ⟨w.heap.size, 3, none⟩) (Nat.le_refl _) v
  have r4 := fun v => heap_setCell_same _ w.heap.size 4 _ _ v (r3 (.int .i64 0))
  have b4 := fun v => Below.setCell (b3 (.int .i64 0)) (p := ⟨w.heap.size, 4, none⟩) (Nat.le_refl _) v
  have r5 := fun v => heap_setCell_same _ w.heap.size 5 _ _ v (r4 (.int .i64 0))
  have b5 := fun v => Below.setCell (b4 (.int .i64 0)) (p := ⟨w.heap.size, 5, none⟩) (Nat.le_refl _) v
  exact bodyPost_ret (results_row_tmp rfl _ _ w.heap.size _ _ _ _ rfl (r5 (.int .i64 0)) Tryz.underlying27 rfl (by kernel_rfl)) rfl ⟨rfl, (b5 (.int .i64 0))⟩
theorem keepBut {g : Nat} {w w' : World} {r i : Nat} {v : Value} (hb : But (Only g) w w') (hne : r ≠ g) (h : w.cell? ⟨r, i, none⟩ = some v) : w'.cell? ⟨r, i, none⟩ = some v :=
  (World.cell?_of_block (w := w) (hb.block _ (block_lt_of_cell h) hne)).trans h
theorem undrewB {R : Nat → Prop} {w w' : World} (h : But R w.drew w') : But R w w' := ⟨h.os, h.tape, h.output, h.size, h.block⟩
theorem Tab.but {w w' : World} {t g : Nat} (h : Tab w t) (hb : But (Only g) w w') (hne : t ≠ g) : Tab w' t := by
  obtain ⟨cs, hcs, hx⟩ := h
  exact ⟨cs, (hb.block t (Array.getElem?_eq_some_iff.1 hcs).1 hne).trans hcs, hx⟩
theorem fldI_t (l : List UInt8) (p n : Nat) (h : p + n ≤ 15) : fld ((l.drop 4).take 15) p n = fld l (4 + p) n := by
  unfold fld
  rw [List.drop_take, List.take_take, List.drop_drop, Nat.min_eq_left (by omega)]
theorem Tk.setOther {w : World} {g r : Nat} {err : Int} {p : Nat} {l : List UInt8} {cs : Array Value} {t : TypeId} {fr : Nat × Nat} (h : Tk w g err p l) (hl : l ≠ []) (hr : w.heap[r]? = some (.cells cs t fr)) (hcs : ∀ (j : Nat) (v : Value), cs[j]? = some v → ∃ z, v = .int .i64 z) (hne : r ≠ g) (j : Nat) (v : Value) : Tk (w.setCell ⟨r, j, none⟩ v) g err p l := by
  obtain ⟨A, c, hg, hs, h1, h2, h3, h4⟩ := h
  refine ⟨A, c, (heap_setCell_other w ⟨r, j, none⟩ g v (fun h => hne h.symm)).trans hg, ?_, h1, h2, h3, h4⟩
  intro i u hu
  obtain ⟨a, ha, hc⟩ := hs i u hu
  refine ⟨a, ha, (World.cell?_of_block (w := w) ?_).trans hc⟩
  refine heap_setCell_other w ⟨r, j, none⟩ _ v ?_
  rw [addr_block]
  intro hb
  have hb' : a.block = r := hb
  have hcc := hc
  unfold World.cell? at hcc
  rw [addr_block, hb', hr] at hcc
  have hcc2 : cs[(a.add i).off]? = some u := by
    dsimp only at hcc
    split at hcc
    · cases hcc
    · exact hcc
  obtain ⟨z, hz⟩ := hcs _ _ hcc2
  rw [hz, List.getElem?_map] at hu
  cases h5 : l[i]? with
  | none => rw [h5] at hu; cases hu
  | some b => rw [h5] at hu; simp [byteV] at hu
def rowK (T : List UInt8) : Nat → Array Value
  | 0 => #[.int .i64 0, .int .i64 0, .int .i64 0, .int .i64 0]
  | 1 => #[.int .i64 (fld T 0 1 : Nat), .int .i64 0, .int .i64 0, .int .i64 0]
  | 2 => #[.int .i64 (fld T 0 1 : Nat), .int .i64 (fld T 1 1 : Nat), .int .i64 0, .int .i64 0]
  | 3 => #[.int .i64 (fld T 0 1 : Nat), .int .i64 (fld T 1 1 : Nat), .int .i64 (fld T 2 1 : Nat), .int .i64 0]
  | _ => #[.int .i64 (fld T 0 1 : Nat), .int .i64 (fld T 1 1 : Nat), .int .i64 (fld T 2 1 : Nat), .int .i64 (fld T 3 1 : Nat)]
theorem rowK_int (T : List UInt8) (n : Nat) : ∀ (j : Nat) (v : Value), (rowK T n)[j]? = some v → ∃ z, v = .int .i64 z := by
  intro j v h
  have h2 := Array.mem_of_getElem? h
  have key : ∀ (x y z u : Int), v ∈ (#[.int .i64 x, .int .i64 y, .int .i64 z, .int .i64 u] : Array Value) → ∃ t, v = .int .i64 t := by
    intro x y z u hm
    simp at hm
    rcases hm with h | h | h | h <;> exact ⟨_, h⟩
  match n, h2 with
  | 0, h2 => exact key _ _ _ _ h2
  | 1, h2 => exact key _ _ _ _ h2
  | 2, h2 => exact key _ _ _ _ h2
  | 3, h2 => exact key _ _ _ _ h2
  | n + 4, h2 => exact key _ _ _ _ h2
set_option maxHeartbeats 4000000 in
theorem iget_long (t : Nat) (A : Option Addr) (c : Nat) (l : List UInt8) (w : World) (ht : Tab w t) (hl : SeesB w A l) (hc : l.length ≤ c) (hcm : c ≤ maxLen) (hs : startsI l = true) (hn : 19 ≤ l.length) :
    Calls Tryz.prog 28 #[.pointer (some ⟨t, 0, none⟩), .slice A l.length c] w (GetPost w (getI l)) := by
  have d1 : decide ((l.length : Int) < 19) = false := by simp; omega
  have htl := ht.lt
  obtain ⟨R, hR⟩ : ∃ R, R = getI l := ⟨_, rfl⟩
  rw [← hR]
  have HR := hid hR
  clear hR
  obtain ⟨a, rfl, _⟩ := hl.at (show 0 < l.length by omega)
  have g1 : (4 : Int) ≤ 19 := by omega
  have g2 : (19 : Int) ≤ c := by omega
  have g3 : (15 : Int) ≤ c := by omega
  obtain ⟨T, hT⟩ : ∃ T, T = (l.drop 4).take 15 := ⟨_, rfl⟩
  have hTl : T.length = 15 := by rw [hT]; simp; omega
  have hb : Below w.heap.size w (w.alloc (.cells #[.int .i64 0, .int .i64 0, .int .i64 0, .int .i64 0, .int .i64 0, .int .i64 0] 27)) := (Below.refl _ w).alloc (Nat.le_refl _) _
  have hrow := heap_alloc_new w (.cells #[.int .i64 0, .int .i64 0, .int .i64 0, .int .i64 0, .int .i64 0, .int .i64 0] 27)
  go_enter Tryz.func28, Tryz.ntmps28
  go_wp2_with fail
  generalize w.alloc (.cells #[.int .i64 0, .int .i64 0, .int .i64 0, .int .i64 0, .int .i64 0, .int .i64 0] 27) = w0 at *
  have hlt0 : w.heap.size < w0.heap.size := (Array.getElem?_eq_some_iff.1 hrow).1
  refine (starts_any (some a) c l w0 (hl.below hb) hc).mono ?_
  rintro e w1 ⟨rfl, hb1⟩
  have hbw1 := hb.trans (hb1.mono hb.size)
  have hrow1 := (hb1.block w.heap.size hlt0).trans hrow
  have hlt1 := Nat.lt_of_lt_of_le hlt0 hb1.size
  rw [hs]
  have hl1 := hl.below hbw1
  have hsT : SeesB w1 (some (a.add 4)) T := by rw [hT]; exact hl1.cutTo 4 15
  clear hb hb1 hrow
  have htake := take_any (some { block := a.block, off := a.off + 4 }) (c - 4) T w1 hsT (by omega)
  rw [hTl] at htake
  have HTK := hid htake
  clear htake
  go_wp2_with fail
  refine HTK.out.mono ?_
  rintro e w2 ⟨g, rfl, hg, hTk, hb2⟩
  have hbw2 := hbw1.trans (hb2.mono hbw1.size)
  have hrow2 := (hb2.block w.heap.size hlt1).trans hrow1
  have hlt2 := Nat.lt_of_lt_of_le hlt1 hb2.size
  have hglt : g < w2.heap.size := by obtain ⟨_, _, hg0, _⟩ := hTk; exact (Array.getElem?_eq_some_iff.1 hg0).1
  have hb3 : Below w2.heap.size w2 (w2.alloc (.cells #[.int .i64 0, .int .i64 0, .int .i64 0, .int .i64 0] 123)) := (Below.refl _ _).alloc (Nat.le_refl _) _
  have har := heap_alloc_new w2 (.cells #[.int .i64 0, .int .i64 0, .int .i64 0, .int .i64 0] 123)
  have hrow3 := (hb3.block w.heap.size hlt2).trans hrow2
  have hTk3 := hTk.below hb3
  have hbw3 := hbw2.trans (hb3.mono hbw2.size)
  have hwg : w.heap.size < g := Nat.lt_of_lt_of_le hlt1 hg
  go_wp2_with fail
  clear hb2 hrow1 hb3 hTk hrow2 HTK hsT hbw2
  generalize w2.alloc (.cells #[.int .i64 0, .int .i64 0, .int .i64 0, .int .i64 0] 123) = w3 at *
  go_loopw [8, 29] (fun x i wr => ∃ n : Nat, n ≤ 4 ∧ i = .int .i64 n ∧ Tk wr g 0 n T ∧ wr.heap[w2.heap.size]? = some (.cells (rowK T n) 123 (0, 0)) ∧ wr.heap[w.heap.size]? = some (.cells #[.int .i64 0, .int .i64 0, .int .i64 0, .int .i64 0, .int .i64 0, .int .i64 0] 27 (0, 0)) ∧ Below w.heap.size w wr) (fun _ i _ => 4 - (intOf i).toNat)
  case atStart => exact ⟨0, by omega, rfl, hTk3, har, hrow3, hbw3⟩
  case round =>
    clear hTk3 har hrow3 hbw3
    obtain ⟨n, hn, rfl, hT, har, hrow, hbw⟩ := hrel
    by_cases hlt : n < 4
    · have hcase : n = 0 ∨ n = 1 ∨ n = 2 ∨ n = 3 := by omega
      rcases hcase with hh | hh | hh | hh
      · subst hh
        have hu := takerU_any g 0 0 1 T wr hT (by omega)
        rw [show takeU (0, 0) T 1 = ((0, 1), (T.drop 0).take 1) from takeU_in 0 1 T (by omega) (by omega)] at hu
        unfold UPost at hu
        have HU := hid hu
        clear hu
        have hv := fld_lt T 0 1
        rw [show valLE ((T.drop 0).take 1) = fld T 0 1 from rfl] at HU
        obtain ⟨y, hy⟩ : ∃ y, y = fld T 0 1 := ⟨_, rfl⟩
        rw [← hy] at hv HU
        have HY := hid hy
        clear hy
        go_wp2_with fail
        refine HU.out.mono ?_
        rintro e w4 ⟨rfl, hT4, hB4⟩
        have har4 := (hB4.block w2.heap.size (Array.getElem?_eq_some_iff.1 har).1 (fun h => by have h2 : w2.heap.size = g := h; omega)).trans har
        have hrow4 := (hB4.block w.heap.size (Array.getElem?_eq_some_iff.1 hrow).1 (fun h => by have h2 : w.heap.size = g := h; omega)).trans hrow
        have hbw4 := But.below hbw hB4 (fun b h => by have h2 : b = g := h; omega) hbw.size
        have k0 : w4.cell? ⟨w2.heap.size, 0, none⟩ = some (.int .i64 0) := by rw [cell_of_row _ _ _ _ _ _ har4]; rfl
        have k1 : w4.frozen? ⟨w2.heap.size, 0, none⟩ = false := frozen_of_row _ _ _ _ _ har4
        have hy8 : (y : Int) < 9223372036854775808 := by omega
        go_wp2_with fail
        refine ⟨⟨1, by omega, by go_num, ?_, ?_, ?_, ?_⟩, by simp [intOf]⟩
        · exact hT4.setOther (by intro h; rw [h] at hTl; cases hTl) har4 (rowK_int T 0) (by omega) _ _
        · refine (heap_setCell_same _ _ _ _ _ _ har4).trans ?_
          rw [HY.out]; rfl
        · exact (heap_setCell_other w4 ⟨w2.heap.size, 0, none⟩ w.heap.size _ (by show w.heap.size ≠ w2.heap.size; omega)).trans hrow4
        · exact hbw4.setCell (by show w.heap.size ≤ w2.heap.size; omega) _
      · subst hh
        have hu := takerU_any g 0 1 1 T wr hT (by omega)
        rw [show takeU (0, 1) T 1 = ((0, 2), (T.drop 1).take 1) from takeU_in 1 1 T (by omega) (by omega)] at hu
        unfold UPost at hu
        have HU := hid hu
        clear hu
        have hv := fld_lt T 1 1
        rw [show valLE ((T.drop 1).take 1) = fld T 1 1 from rfl] at HU
        obtain ⟨y, hy⟩ : ∃ y, y = fld T 1 1 := ⟨_, rfl⟩
        rw [← hy] at hv HU
        have HY := hid hy
        clear hy
        go_wp2_with fail
        refine HU.out.mono ?_
        rintro e w4 ⟨rfl, hT4, hB4⟩
        have har4 := (hB4.block w2.heap.size (Array.getElem?_eq_some_iff.1 har).1 (fun h => by have h2 : w2.heap.size = g := h; omega)).trans har
        have hrow4 := (hB4.block w.heap.size (Array.getElem?_eq_some_iff.1 hrow).1 (fun h => by have h2 : w.heap.size = g := h; omega)).trans hrow
        have hbw4 := But.below hbw hB4 (fun b h => by have h2 : b = g := h; omega) hbw.size
        have k0 : w4.cell? ⟨w2.heap.size, 1, none⟩ = some (.int .i64 0) := by rw [cell_of_row _ _ _ _ _ _ har4]; rfl
        have k1 : w4.frozen? ⟨w2.heap.size, 1, none⟩ = false := frozen_of_row _ _ _ _ _ har4
        have hy8 : (y : Int) < 9223372036854775808 := by omega
        go_wp2_with fail
        refine ⟨⟨2, by omega, by go_num, ?_, ?_, ?_, ?_⟩, by simp [intOf]⟩
        · exact hT4.setOther (by intro h; rw [h] at hTl; cases hTl) har4 (rowK_int T 1) (by omega) _ _
        · refine (heap_setCell_same _ _ _ _ _ _ har4).trans ?_
          rw [HY.out]; rfl
        · exact (heap_setCell_other w4 ⟨w2.heap.size, 1, none⟩ w.heap.size _ (by show w.heap.size ≠ w2.heap.size; omega)).trans hrow4
        · exact hbw4.setCell (by show w.heap.size ≤ w2.heap.size; omega) _
      · subst hh
        have hu := takerU_any g 0 2 1 T wr hT (by omega)
        rw [show takeU (0, 2) T 1 = ((0, 3), (T.drop 2).take 1) from takeU_in 2 1 T (by omega) (by omega)] at hu
        unfold UPost at hu
        have HU := hid hu
        clear hu
        have hv := fld_lt T 2 1
        rw [show valLE ((T.drop 2).take 1) = fld T 2 1 from rfl] at HU
        obtain ⟨y, hy⟩ : ∃ y, y = fld T 2 1 := ⟨_, rfl⟩
        rw [← hy] at hv HU
        have HY := hid hy
        clear hy
        go_wp2_with fail
        refine HU.out.mono ?_
        rintro e w4 ⟨rfl, hT4, hB4⟩
        have har4 := (hB4.block w2.heap.size (Array.getElem?_eq_some_iff.1 har).1 (fun h => by have h2 : w2.heap.size = g := h; omega)).trans har
        have hrow4 := (hB4.block w.heap.size (Array.getElem?_eq_some_iff.1 hrow).1 (fun h => by have h2 : w.heap.size = g := h; omega)).trans hrow
        have hbw4 := But.below hbw hB4 (fun b h => by have h2 : b = g := h; omega) hbw.size
        have k0 : w4.cell? ⟨w2.heap.size, 2, none⟩ = some (.int .i64 0) := by rw [cell_of_row _ _ _ _ _ _ har4]; rfl
        have k1 : w4.frozen? ⟨w2.heap.size, 2, none⟩ = false := frozen_of_row _ _ _ _ _ har4
        have hy8 : (y : Int) < 9223372036854775808 := by omega
        go_wp2_with fail
        refine ⟨⟨3, by omega, by go_num, ?_, ?_, ?_, ?_⟩, by simp [intOf]⟩
        · exact hT4.setOther (by intro h; rw [h] at hTl; cases hTl) har4 (rowK_int T 2) (by omega) _ _
        · refine (heap_setCell_same _ _ _ _ _ _ har4).trans ?_
          rw [HY.out]; rfl
        · exact (heap_setCell_other w4 ⟨w2.heap.size, 2, none⟩ w.heap.size _ (by show w.heap.size ≠ w2.heap.size; omega)).trans hrow4
        · exact hbw4.setCell (by show w.heap.size ≤ w2.heap.size; omega) _
      · subst hh
        have hu := takerU_any g 0 3 1 T wr hT (by omega)
        rw [show takeU (0, 3) T 1 = ((0, 4), (T.drop 3).take 1) from takeU_in 3 1 T (by omega) (by omega)] at hu
        unfold UPost at hu
        have HU := hid hu
        clear hu
        have hv := fld_lt T 3 1
        rw [show valLE ((T.drop 3).take 1) = fld T 3 1 from rfl] at HU
        obtain ⟨y, hy⟩ : ∃ y, y = fld T 3 1 := ⟨_, rfl⟩
        rw [← hy] at hv HU
        have HY := hid hy
        clear hy
        go_wp2_with fail
        refine HU.out.mono ?_
        rintro e w4 ⟨rfl, hT4, hB4⟩
        have har4 := (hB4.block w2.heap.size (Array.getElem?_eq_some_iff.1 har).1 (fun h => by have h2 : w2.heap.size = g := h; omega)).trans har
        have hrow4 := (hB4.block w.heap.size (Array.getElem?_eq_some_iff.1 hrow).1 (fun h => by have h2 : w.heap.size = g := h; omega)).trans hrow
        have hbw4 := But.below hbw hB4 (fun b h => by have h2 : b = g := h; omega) hbw.size
        have k0 : w4.cell? ⟨w2.heap.size, 3, none⟩ = some (.int .i64 0) := by rw [cell_of_row _ _ _ _ _ _ har4]; rfl
        have k1 : w4.frozen? ⟨w2.heap.size, 3, none⟩ = false := frozen_of_row _ _ _ _ _ har4
        have hy8 : (y : Int) < 9223372036854775808 := by omega
        go_wp2_with fail
        refine ⟨⟨4, by omega, by go_num, ?_, ?_, ?_, ?_⟩, by simp [intOf]⟩
        · exact hT4.setOther (by intro h; rw [h] at hTl; cases hTl) har4 (rowK_int T 3) (by omega) _ _
        · refine (heap_setCell_same _ _ _ _ _ _ har4).trans ?_
          rw [HY.out]; rfl
        · exact (heap_setCell_other w4 ⟨w2.heap.size, 3, none⟩ w.heap.size _ (by show w.heap.size ≠ w2.heap.size; omega)).trans hrow4
        · exact hbw4.setCell (by show w.heap.size ≤ w2.heap.size; omega) _
    · have hn4 : n = 4 := by omega
      have hd4 : decide ((n : Int) < 4) = false := by simp; omega
      rw [hn4] at hT har
      have HN4 := hid hn4
      clear hn4 hn hlt
      rw [show rowK T 4 = #[.int .i64 (fld T 0 1 : Nat), .int .i64 (fld T 1 1 : Nat), .int .i64 (fld T 2 1 : Nat), .int .i64 (fld T 3 1 : Nat)] from rfl] at har
      have hu3 := takerU_any g 0 4 3 T wr hT (by omega)
      rw [show takeU (0, 4) T 3 = ((0, 7), (T.drop 4).take 3) from takeU_in 4 3 T (by omega) (by omega)] at hu3
      unfold UPost at hu3
      rw [show valLE ((T.drop 4).take 3) = fld T 4 3 from rfl] at hu3
      have HU3 := hid hu3
      clear hu3
      have v3 := fld_lt T 4 3
      have v4 := fld_lt T 7 4
      obtain ⟨ra, hra⟩ : ∃ y, y = fld T 4 3 := ⟨_, rfl⟩
      obtain ⟨bl, hbl⟩ : ∃ y, y = fld T 7 4 := ⟨_, rfl⟩
      rw [← hra] at v3 HU3
      rw [← hbl] at v4
      have HRA := hid hra
      have HBL := hid hbl
      clear hra hbl
      go_wp2_with fail
      refine HU3.out.mono ?_
      rintro e w4 ⟨rfl, hT4, hB4⟩
      have har4 := (hB4.block w2.heap.size (Array.getElem?_eq_some_iff.1 har).1 (fun h => by have h2 : w2.heap.size = g := h; omega)).trans har
      have hrow4 := (hB4.block w.heap.size (Array.getElem?_eq_some_iff.1 hrow).1 (fun h => by have h2 : w.heap.size = g := h; omega)).trans hrow
      have hbw4 := But.below hbw hB4 (fun b h => by have h2 : b = g := h; omega) hbw.size
      have hu4 := takerU_any g 0 7 4 T w4 hT4 (by omega)
      rw [show takeU (0, 7) T 4 = ((0, 11), (T.drop 7).take 4) from takeU_in 7 4 T (by omega) (by omega)] at hu4
      unfold UPost at hu4
      rw [show valLE ((T.drop 7).take 4) = fld T 7 4 from rfl, ← HBL.out] at hu4
      have HU4 := hid hu4
      clear hu4 hT hB4 har hrow hbw HU3
      go_wp2_with fail
      refine HU4.out.mono ?_
      rintro e w5 ⟨rfl, hT5, hB5⟩
      have har5 := (hB5.block w2.heap.size (Array.getElem?_eq_some_iff.1 har4).1 (fun h => by have h2 : w2.heap.size = g := h; omega)).trans har4
      have hrow5 := (hB5.block w.heap.size (Array.getElem?_eq_some_iff.1 hrow4).1 (fun h => by have h2 : w.heap.size = g := h; omega)).trans hrow4
      have hbw5 := But.below hbw4 hB5 (fun b h => by have h2 : b = g := h; omega) hbw4.size
      clear hT4 har4 hrow4 hbw4 HU4
      have k0 : w5.cell? ⟨w2.heap.size, 0, none⟩ = some (.int .i64 (fld T 0 1 : Nat)) := by rw [cell_of_row _ _ _ _ _ _ har5]; rfl
      have k1 : w5.cell? ⟨w2.heap.size, 1, none⟩ = some (.int .i64 (fld T 1 1 : Nat)) := by rw [cell_of_row _ _ _ _ _ _ har5]; rfl
      have k2 : w5.cell? ⟨w2.heap.size, 2, none⟩ = some (.int .i64 (fld T 2 1 : Nat)) := by rw [cell_of_row _ _ _ _ _ _ har5]; rfl
      have k3 : w5.cell? ⟨w2.heap.size, 3, none⟩ = some (.int .i64 (fld T 3 1 : Nat)) := by rw [cell_of_row _ _ _ _ _ _ har5]; rfl
      generalize hgkk : fld T 0 1 = kk at *
      have HGkk := hid hgkk
      clear hgkk
      generalize hgch : fld T 1 1 = ch at *
      have HGch := hid hgch
      clear hgch
      generalize hgbi : fld T 2 1 = bi at *
      have HGbi := hid hgbi
      clear hgbi
      generalize hgsh : fld T 3 1 = sh at *
      have HGsh := hid hgsh
      clear hgsh
      go_wp2_with fail
      have hgw5 : g < w5.heap.size := by obtain ⟨_, _, hg0, _⟩ := hT5; exact (Array.getElem?_eq_some_iff.1 hg0).1
      have hgn : w5.heap.size ≠ g := by omega
      have htg : t ≠ g := by omega
      have hab : a.block < w.heap.size := by
        obtain ⟨a', ha', hc'⟩ := hl.at (show 0 < l.length by omega)
        injection ha' with ha'
        subst ha'
        have := block_lt_of_cell hc'
        rwa [addr_block] at this
      have hao : Off (Only g) (some a) := fun b hb h => by
        injection hb with hb
        subst hb
        have h2 : a.block = g := h
        omega
      have hb6 : Below w5.heap.size w5 (w5.alloc (.cells #[.int .i64 (kk : Int), .int .i64 (ch : Int), .int .i64 (bi : Int), .int .i64 (ra : Int), .int .i64 (bl : Int), .int .i64 (sh : Int)] 27)) := (Below.refl _ _).alloc (Nat.le_refl _) _
      have hci := heap_alloc_new w5 (.cells #[.int .i64 (kk : Int), .int .i64 (ch : Int), .int .i64 (bi : Int), .int .i64 (ra : Int), .int .i64 (bl : Int), .int .i64 (sh : Int)] 27)
      have hT6 := hT5.below hb6
      have hrow6 := (hb6.block w.heap.size (Array.getElem?_eq_some_iff.1 hrow5).1).trans hrow5
      have hbw6 := hbw5.trans (hb6.mono hbw5.size)
      have ht6 := ht.keep hbw6 htl
      have hl6 : SeesB (w5.alloc (.cells #[.int .i64 (kk : Int), .int .i64 (ch : Int), .int .i64 (bi : Int), .int .i64 (ra : Int), .int .i64 (bl : Int), .int .i64 (sh : Int)] 27)) (some a) (l.take 15) := by unfold SeesB; rw [List.map_take]; exact Sees.take (hl.below hbw6) 15
      clear hb6 hrow5 hbw5 hT5 hB5 har5 k0 k1 k2 k3
      generalize w5.alloc (.cells #[.int .i64 (kk : Int), .int .i64 (ch : Int), .int .i64 (bi : Int), .int .i64 (ra : Int), .int .i64 (bl : Int), .int .i64 (sh : Int)] 27) = w6 at *
      have q0 : w6.cell? ⟨w5.heap.size, 0, none⟩ = some (.int .i64 (kk : Int)) := by rw [cell_of_row _ _ _ _ _ _ hci]; rfl
      have q1 : w6.cell? ⟨w5.heap.size, 1, none⟩ = some (.int .i64 (ch : Int)) := by rw [cell_of_row _ _ _ _ _ _ hci]; rfl
      have q2 : w6.cell? ⟨w5.heap.size, 2, none⟩ = some (.int .i64 (bi : Int)) := by rw [cell_of_row _ _ _ _ _ _ hci]; rfl
      have q3 : w6.cell? ⟨w5.heap.size, 3, none⟩ = some (.int .i64 (ra : Int)) := by rw [cell_of_row _ _ _ _ _ _ hci]; rfl
      have q4 : w6.cell? ⟨w5.heap.size, 4, none⟩ = some (.int .i64 (bl : Int)) := by rw [cell_of_row _ _ _ _ _ _ hci]; rfl
      have q5 : w6.cell? ⟨w5.heap.size, 5, none⟩ = some (.int .i64 (sh : Int)) := by rw [cell_of_row _ _ _ _ _ _ hci]; rfl
      have hu5 := fun W (hT : Tk W g 0 11 T) => takerU_any g 0 11 4 T W hT (by omega)
      rw [show takeU (0, 11) T 4 = ((0, 15), (T.drop 11).take 4) from takeU_in 11 4 T (by omega) (by omega)] at hu5
      unfold UPost at hu5
      rw [show valLE ((T.drop 11).take 4) = fld T 11 4 from rfl] at hu5
      have v5 := fld_lt T 11 4
      obtain ⟨su, hsu⟩ : ∃ y, y = fld T 11 4 := ⟨_, rfl⟩
      rw [← hsu] at v5 hu5
      have HSU := hid hsu
      have HU5 := hid hu5
      have h15 : (l.take 15).length = 15 := by rw [List.length_take]; omega
      have hsr := sumI_range (l.take 15)
      obtain ⟨S, hS⟩ := Int.eq_ofNat_of_zero_le hsr.1
      have hsum := fun W (ht : Tab W t) (hl : SeesB W (some a) (l.take 15)) => sum_any t (some a) c (l.take 15) W ht hl (by omega)
      rw [h15, hS] at hsum
      rw [hS] at hsr
      have hS4 : S < 4294967296 := by omega
      have HSUM := hid hsum
      have HS := hid hS
      have hT6d : Tk w6.drew g 0 11 T := hT6.below ⟨rfl, rfl, rfl, Nat.le_refl _, fun _ _ => rfl⟩
      clear hu5 hsu hsum hS hsr h15
      go_region_held3 (fun w' => w'.cell? ⟨w5.heap.size, 0, none⟩ = some (.int .i64 (kk : Int)) ∧ w'.cell? ⟨w5.heap.size, 1, none⟩ = some (.int .i64 (ch : Int)) ∧ w'.cell? ⟨w5.heap.size, 2, none⟩ = some (.int .i64 (bi : Int)) ∧ w'.cell? ⟨w5.heap.size, 3, none⟩ = some (.int .i64 (ra : Int)) ∧ w'.cell? ⟨w5.heap.size, 4, none⟩ = some (.int .i64 (bl : Int)) ∧ w'.cell? ⟨w5.heap.size, 5, none⟩ = some (.int .i64 (sh : Int))) (exact ⟨q0, q1, q2, q3, q4, q5⟩)
        (first | (go_at_call 55; refine (HU5.out _ ?_).mono ?_; exact hT6d; rintro e wa ⟨rfl, hTa, hBa⟩; have htA := Tab.but ht6 (undrewB hBa) htg; have hlA : SeesB wa (some a) (l.take 15) := Sees.but hl6 (undrewB hBa) hao; replace q0 := keepBut hBa hgn q0; replace q1 := keepBut hBa hgn q1; replace q2 := keepBut hBa hgn q2; replace q3 := keepBut hBa hgn q3; replace q4 := keepBut hBa hgn q4; replace q5 := keepBut hBa hgn q5) | (go_at_call 52; refine (HSUM.out _ ?_ ?_).mono ?_; exact htA; exact hlA; rintro e wb ⟨rfl, rfl⟩))
      have hbwA := But.below hbw6 (undrewB hBa) (fun b h => by have h2 : b = g := h; omega) hbw6.size
      have hrowA := ((undrewB hBa).block w.heap.size (Array.getElem?_eq_some_iff.1 hrow6).1 (fun h => by have h2 : w.heap.size = g := h; omega)).trans hrow6
      have HFS : Hid (fld l 15 4 = su) := hid (by rw [HSU.out, hT, fldI_t l 11 4 (by omega)])
      have HF0 : Hid (fld l 4 1 = kk ∧ fld l 5 1 = ch ∧ fld l 6 1 = bi ∧ fld l 8 3 = ra ∧ fld l 11 4 = bl ∧ fld l 7 1 = sh) := hid (by
        refine ⟨?_, ?_, ?_, ?_, ?_, ?_⟩
        · rw [← HGkk.out, hT, fldI_t l 0 1 (by omega)]
        · rw [← HGch.out, hT, fldI_t l 1 1 (by omega)]
        · rw [← HGbi.out, hT, fldI_t l 2 1 (by omega)]
        · rw [HRA.out, hT, fldI_t l 4 3 (by omega)]
        · rw [HBL.out, hT, fldI_t l 7 4 (by omega)]
        · rw [← HGsh.out, hT, fldI_t l 3 1 (by omega)])
      have HLONG : Hid (¬ l.length < 19) := hid (by omega)
      have HST := hid hs
      clear hTa hBa htA hlA hT6 hT6d hrow6 hbw6 ht6 hl6 HU5 HSUM hci hs hT
      by_cases heq : su = S
      · have dd : ((su : Int) != (S : Int)) = false := by rw [heq]; simp
        have dd2 : ((su : Int) != IntKind.u64.wrap (S : Int)) = false := by
          rw [show IntKind.u64.wrap (S : Int) = (S : Int) by rw [IntKind.wrap_u64]; omega]; exact dd
        have HEQ := hid heq
        clear heq
        go_wp2_with fail
        refine (iright_any kk ch bi ra bl sh _).mono ?_
        rintro e w8 ⟨rfl, hb8⟩
        have hbw8 := hbwA.trans (hb8.mono hbwA.size)
        have hrow8 := (hb8.block w.heap.size (Array.getElem?_eq_some_iff.1 hrowA).1).trans hrowA
        replace q0 := keep1 hb8 q0
        replace q1 := keep1 hb8 q1
        replace q2 := keep1 hb8 q2
        replace q3 := keep1 hb8 q3
        replace q4 := keep1 hb8 q4
        replace q5 := keep1 hb8 q5
        have hmid : Hid (∀ b, rightI kk ch bi ra bl sh = b → getI l = if b = false then (32, 0, 0, 0, 0, 0, 0) else (0, (kk : Int), (ch : Int), (bi : Int), (ra : Int), (bl : Int), (sh : Int))) := hid (fun b hb => by
          obtain ⟨e0, e1, e2, e3, e4, e5⟩ := HF0.out
          unfold getI saidI
          rw [if_neg (by rw [HST.out]; simp), if_neg HLONG.out, if_neg (by rw [HS.out, HFS.out, HEQ.out]; simp), e0, e1, e2, e3, e4, e5, hb])
        cases hr : rightI kk ch bi ra bl sh with
        | false =>
          obtain rfl : R = (32, 0, 0, 0, 0, 0, 0) := by rw [HR.out, hmid.out false hr, if_pos rfl]
          clear hr hmid HR
          have c0 : w8.cell? ⟨w.heap.size, 0, none⟩ = some (.int .i64 0) := by rw [cell_of_row _ _ _ _ _ _ hrow8]; rfl
          have f0 : w8.frozen? ⟨w.heap.size, 0, none⟩ = false := frozen_of_row _ _ _ _ _ hrow8
          have c1 : w8.cell? ⟨w.heap.size, 1, none⟩ = some (.int .i64 0) := by rw [cell_of_row _ _ _ _ _ _ hrow8]; rfl
          have f1 : w8.frozen? ⟨w.heap.size, 1, none⟩ = false := frozen_of_row _ _ _ _ _ hrow8
          have c2 : w8.cell? ⟨w.heap.size, 2, none⟩ = some (.int .i64 0) := by rw [cell_of_row _ _ _ _ _ _ hrow8]; rfl
          have f2 : w8.frozen? ⟨w.heap.size, 2, none⟩ = false := frozen_of_row _ _ _ _ _ hrow8
          have c3 : w8.cell? ⟨w.heap.size, 3, none⟩ = some (.int .i64 0) := by rw [cell_of_row _ _ _ _ _ _ hrow8]; rfl
          have f3 : w8.frozen? ⟨w.heap.size, 3, none⟩ = false := frozen_of_row _ _ _ _ _ hrow8
          have c4 : w8.cell? ⟨w.heap.size, 4, none⟩ = some (.int .i64 0) := by rw [cell_of_row _ _ _ _ _ _ hrow8]; rfl
          have f4 : w8.frozen? ⟨w.heap.size, 4, none⟩ = false := frozen_of_row _ _ _ _ _ hrow8
          have c5 : w8.cell? ⟨w.heap.size, 5, none⟩ = some (.int .i64 0) := by rw [cell_of_row _ _ _ _ _ _ hrow8]; rfl
          have f5 : w8.frozen? ⟨w.heap.size, 5, none⟩ = false := frozen_of_row _ _ _ _ _ hrow8
          go_wp2_with fail
          have r0 := fun v => heap_setCell_same _ w.heap.size 0 _ _ v hrow8
          have b0 := fun v => Below.setCell hbw8 (p := ⟨w.heap.size, 0, none⟩) (Nat.le_refl _) v
          have r1 := fun v => heap_setCell_same _ w.heap.size 1 _ _ v (r0 (.int .i64 0))
          have b1 := fun v => Below.setCell (b0 (.int .i64 0)) (p := ⟨w.heap.size, 1, none⟩) (Nat.le_refl _) v
          have r2 := fun v => heap_setCell_same _ w.heap.size 2 _ _ v (r1 (.int .i64 0))
          have b2 := fun v => Below.setCell (b1 (.int .i64 0)) (p := ⟨w.heap.size, 2, none⟩) (Nat.le_refl _) v
          have r3 := fun v => heap_setCell_same _ w.heap.size 3 _ _ v (r2 (.int .i64 0))
          have b3 := fun v => Below.setCell (b2 (.int .i64 0)) (p := ⟨w.heap.size, 3, none⟩) (Nat.le_refl _) v
          have r4 := fun v => heap_setCell_same _ w.heap.size 4 _ _ v (r3 (.int .i64 0))
          have b4 := fun v => Below.setCell (b3 (.int .i64 0)) (p := ⟨w.heap.size, 4, none⟩) (Nat.le_refl _) v
          have r5 := fun v => heap_setCell_same _ w.heap.size 5 _ _ v (r4 (.int .i64 0))
          have b5 := fun v => Below.setCell (b4 (.int .i64 0)) (p := ⟨w.heap.size, 5, none⟩) (Nat.le_refl _) v
          exact bodyPost_ret (results_row_tmp rfl _ _ w.heap.size _ _ _ _ rfl (r5 (.int .i64 0)) Tryz.underlying27 rfl (by kernel_rfl)) rfl ⟨rfl, (b5 (.int .i64 0))⟩
        | true =>
          obtain rfl : R = (0, (kk : Int), (ch : Int), (bi : Int), (ra : Int), (bl : Int), (sh : Int)) := by rw [HR.out, hmid.out true hr, if_neg (by simp)]
          clear hr hmid HR
          have c0 : w8.cell? ⟨w.heap.size, 0, none⟩ = some (.int .i64 0) := by rw [cell_of_row _ _ _ _ _ _ hrow8]; rfl
          have f0 : w8.frozen? ⟨w.heap.size, 0, none⟩ = false := frozen_of_row _ _ _ _ _ hrow8
          have c1 : w8.cell? ⟨w.heap.size, 1, none⟩ = some (.int .i64 0) := by rw [cell_of_row _ _ _ _ _ _ hrow8]; rfl
          have f1 : w8.frozen? ⟨w.heap.size, 1, none⟩ = false := frozen_of_row _ _ _ _ _ hrow8
          have c2 : w8.cell? ⟨w.heap.size, 2, none⟩ = some (.int .i64 0) := by rw [cell_of_row _ _ _ _ _ _ hrow8]; rfl
          have f2 : w8.frozen? ⟨w.heap.size, 2, none⟩ = false := frozen_of_row _ _ _ _ _ hrow8
          have c3 : w8.cell? ⟨w.heap.size, 3, none⟩ = some (.int .i64 0) := by rw [cell_of_row _ _ _ _ _ _ hrow8]; rfl
          have f3 : w8.frozen? ⟨w.heap.size, 3, none⟩ = false := frozen_of_row _ _ _ _ _ hrow8
          have c4 : w8.cell? ⟨w.heap.size, 4, none⟩ = some (.int .i64 0) := by rw [cell_of_row _ _ _ _ _ _ hrow8]; rfl
          have f4 : w8.frozen? ⟨w.heap.size, 4, none⟩ = false := frozen_of_row _ _ _ _ _ hrow8
          have c5 : w8.cell? ⟨w.heap.size, 5, none⟩ = some (.int .i64 0) := by rw [cell_of_row _ _ _ _ _ _ hrow8]; rfl
          have f5 : w8.frozen? ⟨w.heap.size, 5, none⟩ = false := frozen_of_row _ _ _ _ _ hrow8
          go_wp2_with fail
          have r0 := fun v => heap_setCell_same _ w.heap.size 0 _ _ v hrow8
          have b0 := fun v => Below.setCell hbw8 (p := ⟨w.heap.size, 0, none⟩) (Nat.le_refl _) v
          have r1 := fun v => heap_setCell_same _ w.heap.size 1 _ _ v (r0 (.int .i64 (kk : Int)))
          have b1 := fun v => Below.setCell (b0 (.int .i64 (kk : Int))) (p := ⟨w.heap.size, 1, none⟩) (Nat.le_refl _) v
          have r2 := fun v => heap_setCell_same _ w.heap.size 2 _ _ v (r1 (.int .i64 (ch : Int)))
          have b2 := fun v => Below.setCell (b1 (.int .i64 (ch : Int))) (p := ⟨w.heap.size, 2, none⟩) (Nat.le_refl _) v
          have r3 := fun v => heap_setCell_same _ w.heap.size 3 _ _ v (r2 (.int .i64 (bi : Int)))
          have b3 := fun v => Below.setCell (b2 (.int .i64 (bi : Int))) (p := ⟨w.heap.size, 3, none⟩) (Nat.le_refl _) v
          have r4 := fun v => heap_setCell_same _ w.heap.size 4 _ _ v (r3 (.int .i64 (ra : Int)))
          have b4 := fun v => Below.setCell (b3 (.int .i64 (ra : Int))) (p := ⟨w.heap.size, 4, none⟩) (Nat.le_refl _) v
          have r5 := fun v => heap_setCell_same _ w.heap.size 5 _ _ v (r4 (.int .i64 (bl : Int)))
          have b5 := fun v => Below.setCell (b4 (.int .i64 (bl : Int))) (p := ⟨w.heap.size, 5, none⟩) (Nat.le_refl _) v
          exact bodyPost_ret (results_row_tmp rfl _ _ w.heap.size _ _ _ _ rfl (r5 (.int .i64 (sh : Int))) Tryz.underlying27 rfl (by kernel_rfl)) rfl ⟨rfl, (b5 (.int .i64 (sh : Int)))⟩
      · have dd : ((su : Int) != (S : Int)) = true := by simp; omega
        have dd2 : ((su : Int) != IntKind.u64.wrap (S : Int)) = true := by
          rw [show IntKind.u64.wrap (S : Int) = (S : Int) by rw [IntKind.wrap_u64]; omega]; exact dd
        obtain rfl : R = (33, 0, 0, 0, 0, 0, 0) := by
          rw [HR.out]
          unfold getI
          rw [if_neg (by rw [HST.out]; simp), if_neg HLONG.out, if_pos (by rw [HS.out, HFS.out]; omega)]
        clear HR heq
        have c0 : wa.cell? ⟨w.heap.size, 0, none⟩ = some (.int .i64 0) := by rw [cell_of_row _ _ _ _ _ _ hrowA]; rfl
        have f0 : wa.frozen? ⟨w.heap.size, 0, none⟩ = false := frozen_of_row _ _ _ _ _ hrowA
        have c1 : wa.cell? ⟨w.heap.size, 1, none⟩ = some (.int .i64 0) := by rw [cell_of_row _ _ _ _ _ _ hrowA]; rfl
        have f1 : wa.frozen? ⟨w.heap.size, 1, none⟩ = false := frozen_of_row _ _ _ _ _ hrowA
        have c2 : wa.cell? ⟨w.heap.size, 2, none⟩ = some (.int .i64 0) := by rw [cell_of_row _ _ _ _ _ _ hrowA]; rfl
        have f2 : wa.frozen? ⟨w.heap.size, 2, none⟩ = false := frozen_of_row _ _ _ _ _ hrowA
        have c3 : wa.cell? ⟨w.heap.size, 3, none⟩ = some (.int .i64 0) := by rw [cell_of_row _ _ _ _ _ _ hrowA]; rfl
        have f3 : wa.frozen? ⟨w.heap.size, 3, none⟩ = false := frozen_of_row _ _ _ _ _ hrowA
        have c4 : wa.cell? ⟨w.heap.size, 4, none⟩ = some (.int .i64 0) := by rw [cell_of_row _ _ _ _ _ _ hrowA]; rfl
        have f4 : wa.frozen? ⟨w.heap.size, 4, none⟩ = false := frozen_of_row _ _ _ _ _ hrowA
        have c5 : wa.cell? ⟨w.heap.size, 5, none⟩ = some (.int .i64 0) := by rw [cell_of_row _ _ _ _ _ _ hrowA]; rfl
        have f5 : wa.frozen? ⟨w.heap.size, 5, none⟩ = false := frozen_of_row _ _ _ _ _ hrowA
        go_wp2_with fail
        have r0 := fun v => heap_setCell_same _ w.heap.size 0 _ _ v hrowA
        have b0 := fun v => Below.setCell hbwA (p := ⟨w.heap.size, 0, none⟩) (Nat.le_refl _) v
        have r1 := fun v => heap_setCell_same _ w.heap.size 1 _ _ v (r0 (.int .i64 0))
        have b1 := fun v => Below.setCell (b0 (.int .i64 0)) (p := ⟨w.heap.size, 1, none⟩) (Nat.le_refl _) v
        have r2 := fun v => heap_setCell_same _ w.heap.size 2 _ _ v (r1 (.int .i64 0))
        have b2 := fun v => Below.setCell (b1 (.int .i64 0)) (p := ⟨w.heap.size, 2, none⟩) (Nat.le_refl _) v
        have r3 := fun v => heap_setCell_same _ w.heap.size 3 _ _ v (r2 (.int .i64 0))
        have b3 := fun v => Below.setCell (b2 (.int .i64 0)) (p := ⟨w.heap.size, 3, none⟩) (Nat.le_refl _) v
        have r4 := fun v => heap_setCell_same _ w.heap.size 4 _ _ v (r3 (.int .i64 0))
        have b4 := fun v => Below.setCell (b3 (.int .i64 0)) (p := ⟨w.heap.size, 4, none⟩) (Nat.le_refl _) v
        have r5 := fun v => heap_setCell_same _ w.heap.size 5 _ _ v (r4 (.int .i64 0))
        have b5 := fun v => Below.setCell (b4 (.int .i64 0)) (p := ⟨w.heap.size, 5, none⟩) (Nat.le_refl _) v
        exact bodyPost_ret (results_row_tmp rfl _ _ w.heap.size _ _ _ _ rfl (r5 (.int .i64 0)) Tryz.underlying27 rfl (by kernel_rfl)) rfl ⟨rfl, (b5 (.int .i64 0))⟩
end Go.Proofs.YtkmhmehofipehaaGreatDoor
