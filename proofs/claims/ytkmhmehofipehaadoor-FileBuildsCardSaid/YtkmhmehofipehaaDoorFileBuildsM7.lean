/- A block's head, taken field by field. -/
import Derived.Test.YtkmhmehofipehaaDoorFileBuildsM4
import Derived.Test.YtkmhmehofipehaaDoorFileBuildsM5
import Derived.Test.YtkmhmehofipehaaDoorFileBuildsM6
import Derived.WalkKit
import Derived.Test.YtkmhmehofipehaaDoorProg
import Derived.Test.YtkmhmehofipehaaDoorFileBuildsM1
import Derived.WalkSpells
import Derived.WalkLawsBesides
namespace Go.Proofs.YtkmhmehofipehaaDoor
set_option linter.unusedVariables false
open Go.RowKit
def okH (l : List UInt8) : Bool := decide (fldH l 3 1 ≤ 1) && rightH (fldH l 2 1 : Nat) (fldH l 4 4 : Nat) (fldH l 8 4 : Nat) (fldH l 12 4 : Nat) (fldH l 16 4 : Nat) (fldH l 3 1 == 1) (fldH l 20 4 : Nat) (fldH l 24 4 : Nat)
def TakeHPost (w : World) (l : List UInt8) (e : Ending) (w' : World) : Prop :=
  e = .returned (.tuple #[.agg #[.int .i64 (fldH l 2 1 : Nat), .int .i64 (fldH l 4 4 : Nat), .int .i64 (fldH l 8 4 : Nat), .int .i64 (fldH l 12 4 : Nat), .int .i64 (fldH l 16 4 : Nat), .bool (fldH l 3 1 == 1), .int .u32 (fldH l 20 4 : Nat), .int .i64 (fldH l 24 4 : Nat)], .bool (okH l)]) ∧ Below w.heap.size w w'
/-- a taker is not touched by a store into a block of other values -/
theorem Tk.setFar {w : World} {g r : Nat} {err : Int} {p : Nat} {l : List UInt8} {cs : Array Value} {t : TypeId} {fr : Nat × Nat} (h : Tk w g err p l) (hr : w.heap[r]? = some (.cells cs t fr)) (hcs : ∀ (j : Nat) (v : Value), cs[j]? = some v → ∃ z, v = .int .i64 z) (hne : r ≠ g) (j : Nat) (v : Value) : Tk (w.setCell ⟨r, j, none⟩ v) g err p l := by
  obtain ⟨A, c, hg, hs, h1, h2, h3, h4⟩ := h
  refine ⟨A, c, (heap_setCell_other w ⟨r, j, none⟩ g v (fun h => hne h.symm)).trans hg, ?_, h1, h2, h3, h4⟩
  intro i u hu
  obtain ⟨a, ha, hc⟩ := hs i u hu
  refine ⟨a, ha, (World.cell?_of_block (w := w) ?_).trans hc⟩
  refine heap_setCell_other w ⟨r, j, none⟩ _ v ?_
  rw [addr_block]
  intro hb
  have hb' : a.block = r := hb
  have hcc := hc
  unfold World.cell? at hcc
  rw [addr_block, hb', hr] at hcc
  have hcc2 : cs[(a.add i).off]? = some u := by
    dsimp only at hcc
    split at hcc
    · cases hcc
    · exact hcc
  obtain ⟨z, hz⟩ := hcs _ _ hcc2
  rw [hz, List.getElem?_map] at hu
  cases h5 : l[i]? with
  | none => rw [h5] at hu; cases hu
  | some b => rw [h5] at hu; simp [byteV] at hu
def SixTo (w : World) (g : Nat) (l : List UInt8) (n : Nat) : Prop :=
  ∃ cs : Array Value, w.heap[g]? = some (.cells cs 162 (0, 0)) ∧ cs.size = 6 ∧ (∀ (j : Nat) (v : Value), cs[j]? = some v → ∃ z, v = .int .i64 z) ∧ ∀ j : Nat, j < n → cs[j]? = some (.int .i64 (fldH l (4 + 4 * j) 4 : Nat))
theorem SixTo.next {w : World} {g n : Nat} {l : List UInt8} (h : SixTo w g l n) (hn : n < 6) (y : Nat) (hy : y = fldH l (4 + 4 * n) 4) : SixTo (w.setCell ⟨g, n, none⟩ (.int .i64 (y : Int))) g l (n + 1) := by
  obtain ⟨cs, hcs, hsz, hi, hv⟩ := h
  subst hy
  refine ⟨_, heap_setCell_same _ _ _ _ _ _ hcs, by simpa using hsz, fun j v hj => ?_, fun j hj => ?_⟩
  · by_cases hjn : n = j
    · subst hjn
      have h2 : v = .int .i64 ((fldH l (4 + 4 * n) 4 : Nat) : Int) := by simpa [hsz, hn, eq_comm] using hj
      exact ⟨_, h2⟩
    · have h2 : cs[j]? = some v := by simpa [hjn] using hj
      exact hi j v h2
  · by_cases hjn : n = j
    · subst hjn; simp [hsz, hn]
    · have := hv j (by omega)
      simpa [hjn] using this
theorem SixTo.cell {w : World} {g n : Nat} {l : List UInt8} (h : SixTo w g l n) (j : Nat) (hj : j < n) : w.cell? ⟨g, j, none⟩ = some (.int .i64 (fldH l (4 + 4 * j) 4 : Nat)) := by
  obtain ⟨cs, hcs, _, _, hv⟩ := h
  rw [cell_of_row _ _ _ _ _ _ hcs]; exact hv j hj
set_option maxRecDepth 40000 in
set_option maxHeartbeats 8000000 in
theorem htake_any (A : Option Addr) (c : Nat) (l : List UInt8) (w : World) (hl : SeesB w A l) (hn : 32 ≤ l.length) (hlen : l.length ≤ 140737488355328) :
    Calls Tryd.prog 99 #[.slice A l.length c] w (TakeHPost w l) := by
  have hb : Below w.heap.size w (w.alloc (.cells #[.int .i64 0, .int .i64 0, .int .i64 0, .int .i64 0, .int .i64 0, .bool false, .int .u32 0, .int .i64 0] 52)) := (Below.refl _ w).alloc (Nat.le_refl _) _
  have hrow := heap_alloc_new w (.cells #[.int .i64 0, .int .i64 0, .int .i64 0, .int .i64 0, .int .i64 0, .bool false, .int .u32 0, .int .i64 0] 52)
  go_enter Tryd.func99, Tryd.ntmps99
  go_wp2_with fail
  generalize w.alloc (.cells #[.int .i64 0, .int .i64 0, .int .i64 0, .int .i64 0, .int .i64 0, .bool false, .int .u32 0, .int .i64 0] 52) = w0 at *
  have hlt0 : w.heap.size < w0.heap.size := (Array.getElem?_eq_some_iff.1 hrow).1
  refine (take_any A c l w0 (hl.below hb) hlen).mono ?_
  rintro e w1 ⟨g, rfl, hg, hT1, hb1⟩
  have hbw1 := hb.trans (hb1.mono hb.size)
  have hrow1 := (hb1.block w.heap.size hlt0).trans hrow
  have hlt1 := Nat.lt_of_lt_of_le hlt0 hb1.size
  have hwg : w.heap.size < g := Nat.lt_of_lt_of_le hlt0 hg
  have HR := hid (traw_any g 0 0 2 l w1 hT1 hlen (by omega))
  rw [show takeRaw (0, 0) l 2 = ((0, 2), (l.drop 0).take 2) by unfold takeRaw tnext; rw [if_neg (by simp), if_neg (by omega), if_neg (by show ¬ l.length - 0 < 2; omega)]; rfl] at HR
  clear hb hb1 hrow
  go_wp2_with fail
  refine HR.out.mono ?_
  rintro e w2 ⟨A2, c2, rfl, _, _, _, _, hT2, hB2⟩
  have hbw2 := But.below hbw1 hB2 (fun b h => by have h2 : b = g := h; omega) hbw1.size
  have hrow2 := (hB2.block w.heap.size hlt1 (fun h => by have h2 : w.heap.size = g := h; omega)).trans hrow1
  have hlt2 := Nat.lt_of_lt_of_le hlt1 hB2.size
  have HU := hid (takerU_any g 0 2 1 l w2 hT2 hlen)
  rw [show takeU (0, 2) l 1 = ((0, 3), (l.drop 2).take 1) from takeU_at 2 1 l (by omega) (by omega)] at HU
  unfold UPost at HU
  rw [show valLE ((l.drop 2).take 1) = fldH l 2 1 from rfl] at HU
  obtain ⟨K, hK⟩ : ∃ K, K = fldH l 2 1 := ⟨_, rfl⟩
  have hK2 : K < 256 := by rw [hK]; exact fldH_lt l 2 1
  rw [← hK] at HU
  have HK := hid hK
  clear hK hbw1 hrow1 hlt1 HR hB2 hT1
  go_wp2_with fail
  refine HU.out.mono ?_
  rintro e w3 ⟨rfl, hT3, hB3⟩
  have hbw3 := But.below hbw2 hB3 (fun b h => by have h2 : b = g := h; omega) hbw2.size
  have hrow3 := (hB3.block w.heap.size hlt2 (fun h => by have h2 : w.heap.size = g := h; omega)).trans hrow2
  have hlt3 := Nat.lt_of_lt_of_le hlt2 hB3.size
  have HV := hid (takerU_any g 0 3 1 l w3 hT3 hlen)
  rw [show takeU (0, 3) l 1 = ((0, 4), (l.drop 3).take 1) from takeU_at 3 1 l (by omega) (by omega)] at HV
  unfold UPost at HV
  rw [show valLE ((l.drop 3).take 1) = fldH l 3 1 from rfl] at HV
  obtain ⟨L, hL⟩ : ∃ L, L = fldH l 3 1 := ⟨_, rfl⟩
  have hL2 : L < 256 := by rw [hL]; exact fldH_lt l 3 1
  rw [← hL] at HV
  have HL := hid hL
  clear hL hbw2 hrow2 hlt2 HU hB3 hT2
  go_wp2_with fail
  refine HV.out.mono ?_
  rintro e w4 ⟨rfl, hT4, hB4⟩
  have hbw4 := But.below hbw3 hB4 (fun b h => by have h2 : b = g := h; omega) hbw3.size
  have hrow4 := (hB4.block w.heap.size hlt3 (fun h => by have h2 : w.heap.size = g := h; omega)).trans hrow3
  have hlt4 := Nat.lt_of_lt_of_le hlt3 hB4.size
  have hgl : g < w4.heap.size := by obtain ⟨_, _, hg0, _⟩ := hT4; exact (Array.getElem?_eq_some_iff.1 hg0).1
  have hb5 : Below w4.heap.size w4 (w4.alloc (.cells #[.int .i64 0, .int .i64 0, .int .i64 0, .int .i64 0, .int .i64 0, .int .i64 0] 162)) := (Below.refl _ _).alloc (Nat.le_refl _) _
  have har := heap_alloc_new w4 (.cells #[.int .i64 0, .int .i64 0, .int .i64 0, .int .i64 0, .int .i64 0, .int .i64 0] 162)
  have hbw5 := hbw4.trans (hb5.mono hbw4.size)
  have hrow5 := (hb5.block w.heap.size hlt4).trans hrow4
  have hT5 := hT4.below hb5
  have hS5 : SixTo (w4.alloc (.cells #[.int .i64 0, .int .i64 0, .int .i64 0, .int .i64 0, .int .i64 0, .int .i64 0] 162)) w4.heap.size l 0 := ⟨_, har, rfl, fun j v h => by
    have h2 := Array.mem_of_getElem? h
    simp at h2
    exact ⟨0, h2⟩, fun j h => by omega⟩
  clear hbw3 hrow3 hlt3 HV hB4 hT3 hb5 har hbw4 hrow4 hT4
  go_wp2_with fail
  generalize w4.alloc (.cells #[.int .i64 0, .int .i64 0, .int .i64 0, .int .i64 0, .int .i64 0, .int .i64 0] 162) = w5 at *
  go_loopw [9, 21] (fun x i wr => ∃ n : Nat, n ≤ 6 ∧ i = .int .i64 n ∧ Tk wr g 0 (4 + 4 * n) l ∧ SixTo wr w4.heap.size l n ∧ wr.heap[w.heap.size]? = some (.cells #[.int .i64 0, .int .i64 0, .int .i64 0, .int .i64 0, .int .i64 0, .bool false, .int .u32 0, .int .i64 0] 52 (0, 0)) ∧ Below w.heap.size w wr) (fun _ i _ => 6 - (intOf i).toNat)
  case atStart => exact ⟨0, by omega, rfl, hT5, hS5, hrow5, hbw5⟩
  case round =>
    clear hT5 hS5 hrow5 hbw5
    obtain ⟨n, hn6, rfl, hT, hS, hrow, hbw⟩ := hrel
    by_cases hlt : n < 6
    · have d1 : decide ((n : Int) < 6) = true := by simp; omega
      have HW := hid (takerU_any g 0 (4 + 4 * n) 4 l wr hT hlen)
      rw [show takeU (0, 4 + 4 * n) l 4 = ((0, 4 + 4 * n + 4), (l.drop (4 + 4 * n)).take 4) from takeU_at (4 + 4 * n) 4 l (by omega) (by omega)] at HW
      unfold UPost at HW
      rw [show valLE ((l.drop (4 + 4 * n)).take 4) = fldH l (4 + 4 * n) 4 from rfl] at HW
      obtain ⟨y, hy⟩ : ∃ y, y = fldH l (4 + 4 * n) 4 := ⟨_, rfl⟩
      have hy2 : y < 4294967296 := by rw [hy]; exact fldH_lt l (4 + 4 * n) 4
      rw [← hy] at HW
      have HY := hid hy
      clear hy
      go_wp2_with fail
      refine HW.out.mono ?_
      rintro e w6 ⟨rfl, hT6, hB6⟩
      have hS6 : SixTo w6 w4.heap.size l n := by
        obtain ⟨cs, hcs, hx⟩ := hS
        exact ⟨cs, (hB6.block w4.heap.size (Array.getElem?_eq_some_iff.1 hcs).1 (fun h => by have h2 : w4.heap.size = g := h; omega)).trans hcs, hx⟩
      have hrow6 := (hB6.block w.heap.size (Array.getElem?_eq_some_iff.1 hrow).1 (fun h => by have h2 : w.heap.size = g := h; omega)).trans hrow
      have hbw6 := But.below hbw hB6 (fun b h => by have h2 : b = g := h; omega) hbw.size
      have HS6 := hid hS6
      obtain ⟨cs, hcs, hsz, hci, hcv⟩ := hS6
      obtain ⟨v0, k0⟩ : ∃ v0, w6.cell? ⟨w4.heap.size, n, none⟩ = some v0 := ⟨_, (cell_of_row w6 _ n cs _ _ hcs).trans (Array.getElem?_eq_getElem (by omega))⟩
      have k1 : w6.frozen? ⟨w4.heap.size, n, none⟩ = false := frozen_of_row w6 _ n cs _ hcs
      have hT7 := fun v => hT6.setFar hcs hci (by omega) n v
      have hS7 := HS6.out.next hlt y HY.out
      have hrow7 := fun v => (heap_setCell_other w6 ⟨w4.heap.size, n, none⟩ w.heap.size v (by show w.heap.size ≠ w4.heap.size; omega)).trans hrow6
      have hbw7 := fun v => hbw6.setCell (p := ⟨w4.heap.size, n, none⟩) (by show w.heap.size ≤ w4.heap.size; omega) v
      have hyw : IntKind.i64.wrap (y : Int) = (y : Int) := by rw [IntKind.wrap_i64]; omega
      clear hcs hsz hci hcv HS6 hrow6 hbw6 hT6 hB6 hT hS hrow hbw HW HY
      have hy8 : (y : Int) < 9223372036854775808 := by omega
      go_wp2_with fail
      go_roundw
      case rel => exact ⟨n + 1, by omega, by go_num, by rw [show 4 + 4 * (n + 1) = 4 + 4 * n + 4 by omega]; exact hT7 _, hS7, hrow7 _, hbw7 _⟩
      case measure => simp [intOf]; omega
    · obtain rfl : n = 6 := by omega
      have a0 := hS.cell 0 (by omega)
      have a1 := hS.cell 1 (by omega)
      have a2 := hS.cell 2 (by omega)
      have a3 := hS.cell 3 (by omega)
      have a4 := hS.cell 4 (by omega)
      have a5 := hS.cell 5 (by omega)
      clear hS hT
      obtain ⟨N0, hN0⟩ : ∃ N, N = fldH l (4 + 4 * 0) 4 := ⟨_, rfl⟩
      have hM0 : N0 < 4294967296 := by rw [hN0]; exact fldH_lt l _ 4
      rw [← hN0] at a0
      obtain ⟨N1, hN1⟩ : ∃ N, N = fldH l (4 + 4 * 1) 4 := ⟨_, rfl⟩
      have hM1 : N1 < 4294967296 := by rw [hN1]; exact fldH_lt l _ 4
      rw [← hN1] at a1
      obtain ⟨N2, hN2⟩ : ∃ N, N = fldH l (4 + 4 * 2) 4 := ⟨_, rfl⟩
      have hM2 : N2 < 4294967296 := by rw [hN2]; exact fldH_lt l _ 4
      rw [← hN2] at a2
      obtain ⟨N3, hN3⟩ : ∃ N, N = fldH l (4 + 4 * 3) 4 := ⟨_, rfl⟩
      have hM3 : N3 < 4294967296 := by rw [hN3]; exact fldH_lt l _ 4
      rw [← hN3] at a3
      obtain ⟨N4, hN4⟩ : ∃ N, N = fldH l (4 + 4 * 4) 4 := ⟨_, rfl⟩
      have hM4 : N4 < 4294967296 := by rw [hN4]; exact fldH_lt l _ 4
      rw [← hN4] at a4
      obtain ⟨N5, hN5⟩ : ∃ N, N = fldH l (4 + 4 * 5) 4 := ⟨_, rfl⟩
      have hM5 : N5 < 4294967296 := by rw [hN5]; exact fldH_lt l _ 4
      rw [← hN5] at a5
      have hfin : Hid (∀ b wz, b = (decide (L ≤ 1) && rightH (K : Int) (N0 : Int) (N1 : Int) (N2 : Int) (N3 : Int) (L == 1) (N4 : Int) (N5 : Int)) → Below w.heap.size w wz → TakeHPost w l (.returned (.tuple #[.agg #[.int .i64 K, .int .i64 N0, .int .i64 N1, .int .i64 N2, .int .i64 N3, .bool (L == 1), .int .u32 N4, .int .i64 N5], .bool b])) wz) := hid (fun b wz hb hz => by
        subst hb
        rw [HK.out, HL.out, hN0, hN1, hN2, hN3, hN4, hN5]
        exact ⟨rfl, hz⟩)
      clear hN0 hN1 hN2 hN3 hN4 hN5 HK HL
      have e4 : (N4 : Int) < 4294967296 := by omega
      obtain ⟨lst, hlst⟩ : ∃ b, b = (L == 1) := ⟨_, rfl⟩
      have el : ((L : Int) == 1) = lst := by rw [hlst, Bool.eq_iff_iff]; simp; omega
      rw [← hlst] at hfin
      have HLS := hid hlst
      clear hlst
      have hb8 : Below wr.heap.size wr (wr.alloc (.cells #[.int .i64 K, .int .i64 N0, .int .i64 N1, .int .i64 N2, .int .i64 N3, .bool lst, .int .u32 N4, .int .i64 N5] 52)) := (Below.refl _ _).alloc (Nat.le_refl _) _
      have hr8 := heap_alloc_new wr (.cells #[.int .i64 K, .int .i64 N0, .int .i64 N1, .int .i64 N2, .int .i64 N3, .bool lst, .int .u32 N4, .int .i64 N5] 52)
      have hbw8 := hbw.trans (hb8.mono hbw.size)
      have hrow8 := (hb8.block w.heap.size (Array.getElem?_eq_some_iff.1 hrow).1).trans hrow
      have hwlt : w.heap.size < wr.heap.size := (Array.getElem?_eq_some_iff.1 hrow).1
      clear hb8 hbw

      by_cases h1 : L ≤ 1
      · have d1 : decide ((L : Int) ≤ 1) = true := by simp; omega
        go_wp2_with fail
        obtain ⟨w8, hw8⟩ : ∃ W, W = wr.alloc (.cells #[.int .i64 K, .int .i64 N0, .int .i64 N1, .int .i64 N2, .int .i64 N3, .bool lst, .int .u32 N4, .int .i64 N5] 52) := ⟨_, rfl⟩
        rw [← hw8]
        rw [← hw8] at hr8 hbw8 hrow8
        clear hw8 a0 a1 a2 a3 a4 a5 hrow hM0 hM1 hM2 hM3 hM4 hM5 HLS
        refine wp_region_held2 (RowsS w.heap.size wr.heap.size w.heap.size 52 #[.int .i64 K, .int .i64 N0, .int .i64 N1, .int .i64 N2, .int .i64 N3, .bool lst, .int .u32 N4, .int .i64 N5] 52 #[.int .i64 0, .int .i64 0, .int .i64 0, .int .i64 0, .int .i64 0, .bool false, .int .u32 0, .int .i64 0] #[.int .i64 K, .int .i64 N0, .int .i64 N1, .int .i64 N2, .int .i64 N3, .bool lst, .int .u32 N4, .int .i64 N5] w) 7 (by decide) (by kernel_rfl) (by kernel_rfl) ⟨hr8, hrow8, hbw8.drew⟩ ?_
        refine held2_yes (by rfl) (by decide) (fun b w' h => held_load_row 52 _ rfl wr.heap.size (by rfl) _ _ _ h.1 _ Tryd.underlying52 rfl (by kernel_rfl) h) ?_
        (try simp only [Act.put, List.setIfInBounds_toArray, List.set_cons_zero, List.set_cons_succ])
        repeat (first
          | (refine held2_no (by rfl) (by decide) ?_; (try simp only [Act.put, List.setIfInBounds_toArray, List.set_cons_zero, List.set_cons_succ]))
          | (refine held2_yes (by rfl) (by decide) (fun b w' h => held_load_row 52 _ rfl wr.heap.size (by rfl) _ _ _ h.1 _ Tryd.underlying52 rfl (by kernel_rfl) h) ?_; (try simp only [Act.put, List.setIfInBounds_toArray, List.set_cons_zero, List.set_cons_succ]))
          | (refine held2_at (by rfl) rfl (fun w' h => held_store_row 52 _ _ rfl w.heap.size (by rfl) _ (by rfl) _ _ h.2.1 (by kernel_rfl) (by rfl) (by simp [Value.oneCell']) (h.store (by omega) (Nat.le_refl _))) ?_; (try simp only [Act.put]))
          | (apply held2_yes (by rfl) (by decide); (· intro b w' h; go_simp; first | exact rfl | exact ⟨rfl, h⟩ | exact h | exact (hright_any K N0 N1 N2 N3 lst N4 N5 _).mono (fun e w'' ⟨he, hb⟩ => ⟨he, h.below h.2.2.size hb⟩)); (try simp only [Act.put, List.setIfInBounds_toArray, List.set_cons_zero, List.set_cons_succ])))
        refine held2_nil ?_
        rintro w9 ⟨_, hq0, hbw9⟩
        have hq : w9.heap[w.heap.size]? = some (.cells #[.int .i64 K, .int .i64 N0, .int .i64 N1, .int .i64 N2, .int .i64 N3, .bool lst, .int .u32 N4, .int .i64 N5] 52 (0, 0)) := hq0
        clear hq0
        go_wp2_with fail
        have hfo := hfin.out (rightH (K : Int) (N0 : Int) (N1 : Int) (N2 : Int) (N3 : Int) lst (N4 : Int) (N5 : Int)) w9 (by rw [show decide (L ≤ 1) = true by simpa using h1]; rfl) hbw9
        exact bodyPost_ret (v := .tuple #[.agg #[.int .i64 K, .int .i64 N0, .int .i64 N1, .int .i64 N2, .int .i64 N3, .bool lst, .int .u32 N4, .int .i64 N5], .bool (rightH (K : Int) (N0 : Int) (N1 : Int) (N2 : Int) (N3 : Int) lst (N4 : Int) (N5 : Int))]) (results_row_tmp (fn := Tryd.f99) (p := 2) (u := 3) (ty := 52) rfl _ _ w.heap.size _ _ _ _ rfl hq Tryd.underlying52 rfl (by kernel_rfl)) rfl hfo
      · have d1 : decide ((L : Int) ≤ 1) = false := by simp; omega
        go_wp2_with fail
        obtain ⟨w8, hw8⟩ : ∃ W, W = wr.alloc (.cells #[.int .i64 K, .int .i64 N0, .int .i64 N1, .int .i64 N2, .int .i64 N3, .bool lst, .int .u32 N4, .int .i64 N5] 52) := ⟨_, rfl⟩
        rw [← hw8]
        rw [← hw8] at hr8 hbw8 hrow8
        clear hw8 a0 a1 a2 a3 a4 a5 hrow hM0 hM1 hM2 hM3 hM4 hM5 HLS
        refine wp_region_held2 (RowsS w.heap.size wr.heap.size w.heap.size 52 #[.int .i64 K, .int .i64 N0, .int .i64 N1, .int .i64 N2, .int .i64 N3, .bool lst, .int .u32 N4, .int .i64 N5] 52 #[.int .i64 0, .int .i64 0, .int .i64 0, .int .i64 0, .int .i64 0, .bool false, .int .u32 0, .int .i64 0] #[.int .i64 K, .int .i64 N0, .int .i64 N1, .int .i64 N2, .int .i64 N3, .bool lst, .int .u32 N4, .int .i64 N5] w) 7 (by decide) (by kernel_rfl) (by kernel_rfl) ⟨hr8, hrow8, hbw8.drew⟩ ?_
        refine held2_yes (by rfl) (by decide) (fun b w' h => held_load_row 52 _ rfl wr.heap.size (by rfl) _ _ _ h.1 _ Tryd.underlying52 rfl (by kernel_rfl) h) ?_
        (try simp only [Act.put, List.setIfInBounds_toArray, List.set_cons_zero, List.set_cons_succ])
        repeat (first
          | (refine held2_no (by rfl) (by decide) ?_; (try simp only [Act.put, List.setIfInBounds_toArray, List.set_cons_zero, List.set_cons_succ]))
          | (refine held2_yes (by rfl) (by decide) (fun b w' h => held_load_row 52 _ rfl wr.heap.size (by rfl) _ _ _ h.1 _ Tryd.underlying52 rfl (by kernel_rfl) h) ?_; (try simp only [Act.put, List.setIfInBounds_toArray, List.set_cons_zero, List.set_cons_succ]))
          | (refine held2_at (by rfl) rfl (fun w' h => held_store_row 52 _ _ rfl w.heap.size (by rfl) _ (by rfl) _ _ h.2.1 (by kernel_rfl) (by rfl) (by simp [Value.oneCell']) (h.store (by omega) (Nat.le_refl _))) ?_; (try simp only [Act.put]))
          | (apply held2_yes (by rfl) (by decide); (· intro b w' h; go_simp; first | exact rfl | exact ⟨rfl, h⟩ | exact h | exact (hright_any K N0 N1 N2 N3 lst N4 N5 _).mono (fun e w'' ⟨he, hb⟩ => ⟨he, h.below h.2.2.size hb⟩)); (try simp only [Act.put, List.setIfInBounds_toArray, List.set_cons_zero, List.set_cons_succ])))
        refine held2_nil ?_
        rintro w9 ⟨_, hq0, hbw9⟩
        have hq : w9.heap[w.heap.size]? = some (.cells #[.int .i64 K, .int .i64 N0, .int .i64 N1, .int .i64 N2, .int .i64 N3, .bool lst, .int .u32 N4, .int .i64 N5] 52 (0, 0)) := hq0
        clear hq0
        go_wp2_with fail
        have hfo := hfin.out false w9 (by rw [show decide (L ≤ 1) = false by simpa using h1]; rfl) hbw9
        exact bodyPost_ret (v := .tuple #[.agg #[.int .i64 K, .int .i64 N0, .int .i64 N1, .int .i64 N2, .int .i64 N3, .bool lst, .int .u32 N4, .int .i64 N5], .bool false]) (results_row_tmp (fn := Tryd.f99) (p := 2) (u := 3) (ty := 52) rfl _ _ w.heap.size _ _ _ _ rfl hq Tryd.underlying52 rfl (by kernel_rfl)) rfl hfo
end Go.Proofs.YtkmhmehofipehaaDoor

namespace Go.Proofs.YtkmhmehofipehaaDoor
set_option linter.unusedVariables false
/-- one step -/
def stepI (x : Int) : Int := if x % 2 = 1 then bits .xor .u32 (x / 2) 3988292384 else x / 2
def stepsI : Nat → Int → Int
  | 0, x => x
  | n + 1, x => stepI (stepsI n x)
theorem xor32 (a b : Int) (h1 : 0 ≤ a) (h2 : a < 4294967296) (h3 : 0 ≤ b) (h4 : b < 4294967296) : bits .xor .u32 a b = ((a.toNat ^^^ b.toNat : Nat) : Int) := by
  obtain ⟨A, rfl⟩ := Int.eq_ofNat_of_zero_le h1
  obtain ⟨B, rfl⟩ := Int.eq_ofNat_of_zero_le h3
  simpa using u32_xor_nat A B (by omega) (by omega)
theorem xor32_range (a b : Int) (h1 : 0 ≤ a) (h2 : a < 4294967296) (h3 : 0 ≤ b) (h4 : b < 4294967296) : 0 ≤ bits .xor .u32 a b ∧ bits .xor .u32 a b < 4294967296 := by
  rw [xor32 a b h1 h2 h3 h4]
  have := Nat.xor_lt_two_pow (x := a.toNat) (y := b.toNat) (n := 32) (by omega) (by omega)
  omega
theorem stepI_range (x : Int) (h0 : 0 ≤ x) (h1 : x < 4294967296) : 0 ≤ stepI x ∧ stepI x < 4294967296 := by
  unfold stepI
  split
  · exact xor32_range _ _ (by omega) (by omega) (by omega) (by omega)
  · omega
theorem stepsI_range (n : Nat) (x : Int) (h0 : 0 ≤ x) (h1 : x < 4294967296) : 0 ≤ stepsI n x ∧ stepsI n x < 4294967296 := by
  induction n with
  | zero => exact ⟨h0, h1⟩
  | succ n ih => exact stepI_range _ ih.1 ih.2
theorem and1_u32 (x : Int) (h0 : 0 ≤ x) (h1 : x < 4294967296) : bits .and .u32 x 1 = x % 2 := by
  obtain ⟨A, rfl⟩ := Int.eq_ofNat_of_zero_le h0
  have := u32_and_nat A 1 (by omega) (by omega)
  simpa [Nat.and_one_is_mod] using this
end Go.Proofs.YtkmhmehofipehaaDoor
/- Contracts of crc.Step, crc.Make. -/
namespace Go.Proofs.YtkmhmehofipehaaDoor
set_option linter.unusedVariables false
open Go.RowKit
set_option maxHeartbeats 400000 in
theorem step_any (x : Int) (w : World) (h0 : 0 ≤ x) (h1 : x < 4294967296) :
    Calls Tryd.prog 21 #[.int .u32 x] w fun e w' => e = .returned (.int .u32 (stepI x)) ∧ w = w' := by
  have ha := and1_u32 x h0 h1
  by_cases h : x % 2 = 1
  · have h' : (x % 2 == 1) = true := beq_iff_eq.2 h
    go_enter Tryd.func21, Tryd.ntmps21
    go_wp2
    go_ret
    exact ⟨by rw [stepI, if_pos h]; rfl, rfl⟩
  · have h' : (x % 2 == 1) = false := beq_eq_false_iff_ne.2 h
    go_enter Tryd.func21, Tryd.ntmps21
    go_wp2
    go_ret
    exact ⟨by rw [stepI, if_neg h]; rfl, rfl⟩
def zeros256 : Array Value := Array.replicate 256 (.int .u32 0)
theorem zeroTable (w : World) : (zeroValue 72).run Tryd.prog w = .ok (.agg zeros256) w := by kernel_rfl
/-- block g is the table, as far as place k -/
def TabTo (w : World) (g k : Nat) : Prop :=
  ∃ cs : Array Value, w.heap[g]? = some (.cells cs 72 (0, 0)) ∧ cs.size = 256 ∧ ∀ j : Nat, j < k → cs[j]? = some (.int .u32 (stepsI 8 j))
def Tab (w : World) (g : Nat) : Prop := TabTo w g 256
theorem TabTo.next {w : World} {g k : Nat} (h : TabTo w g k) (hk : k < 256) : TabTo (w.setCell ⟨g, k, none⟩ (.int .u32 (stepsI 8 k))) g (k + 1) := by
  obtain ⟨cs, hcs, hsz, hv⟩ := h
  refine ⟨_, heap_setCell_same _ _ _ _ _ _ hcs, by simpa using hsz, fun j hj => ?_⟩
  by_cases hjk : j = k
  · subst hjk; simp [hsz, hk]
  · rw [Array.getElem?_setIfInBounds_ne (fun h => hjk h.symm)]; exact hv j (by omega)
theorem Tab.cell {w : World} {g : Nat} (h : Tab w g) (j : Nat) (hj : j < 256) : w.cell? ⟨g, j, none⟩ = some (.int .u32 (stepsI 8 j)) := by
  obtain ⟨cs, hcs, hsz, hv⟩ := h
  rw [cell_of_row w g j cs _ _ hcs]; exact hv j hj
theorem Tab.lt {w : World} {g : Nat} (h : Tab w g) : g < w.heap.size := by
  obtain ⟨cs, hcs, _⟩ := h
  exact (Array.getElem?_eq_some_iff.1 hcs).1
theorem Tab.keep {w w' : World} {g B : Nat} (h : Tab w g) (hb : Below B w w') (hg : g < B) : Tab w' g := by
  obtain ⟨cs, hcs, hx⟩ := h
  exact ⟨cs, (hb.block g hg).trans hcs, hx⟩
set_option maxHeartbeats 400000 in
set_option maxRecDepth 20000 in
theorem make_any (w : World) :
    Calls Tryd.prog 11 #[] w fun e w' => e = .returned (.pointer (some ⟨w.heap.size, 0, none⟩)) ∧ Below w.heap.size w w' ∧ Tab w' w.heap.size := by
  have hz := zeroTable
  go_enter Tryd.func11, Tryd.ntmps11
  go_wp2
  go_loopw [6] (fun i wr => ∃ k : Nat, k ≤ 256 ∧ i = .int .i64 k ∧ Below w.heap.size w wr ∧ TabTo wr w.heap.size k)
    (fun i _ => 256 - (intOf i).toNat)
  case atStart => exact ⟨0, by omega, rfl, (Below.refl _ _).alloc (Nat.le_refl _) _, ⟨zeros256, heap_alloc_new _ _, by decide +kernel, fun j hj => absurd hj (by omega)⟩⟩
  case round =>
    obtain ⟨k, hk, rfl, hb, ht⟩ := hrel
    have HT := hid ht
    obtain ⟨cs, hcs, hsz, hv⟩ := ht
    clear hv
    by_cases hlt : k < 256
    · obtain ⟨v0, hc⟩ : ∃ v0, wr.cell? ⟨w.heap.size, k, none⟩ = some v0 := ⟨_, (cell_of_row wr _ k cs _ _ hcs).trans (Array.getElem?_eq_getElem (by omega))⟩
      have hf : wr.frozen? ⟨w.heap.size, k, none⟩ = false := frozen_of_row wr _ k cs _ hcs
      clear hcs hsz
      have hd : decide ((k : Int) < 256) = true := by simp; omega
      go_wp2
      go_loop [3, 11] (fun x j => ∃ n : Nat, n ≤ 8 ∧ j = .int .i64 n ∧ x = .int .u32 (stepsI n k)) (fun _ j => 8 - (intOf j).toNat)
      case atStart => exact ⟨0, by omega, rfl, rfl⟩
      case round =>
        obtain ⟨n, hn, rfl, rfl⟩ := hrel
        have hr := stepsI_range n k (by omega) (by omega)
        by_cases hln : n < 8
        · go_wp2_with (go_at_call 21; refine (step_any _ _ (by omega) (by omega)).mono ?_; rintro e w' ⟨rfl, rfl⟩)
          go_round
          case rel => exact ⟨n + 1, by omega, by go_num, rfl⟩
          case measure => simp [intOf]; omega
        · obtain rfl : n = 8 := by omega
          go_wp2
          go_roundw
          case rel => exact ⟨k + 1, by omega, by go_num, hb.setCell (Nat.le_refl _) _, HT.out.next hlt⟩
          case measure => simp [intOf]; omega
    · obtain rfl : k = 256 := by omega
      clear hcs hsz
      go_wp2
      go_ret
      exact ⟨rfl, hb, HT.out⟩
end Go.Proofs.YtkmhmehofipehaaDoor
