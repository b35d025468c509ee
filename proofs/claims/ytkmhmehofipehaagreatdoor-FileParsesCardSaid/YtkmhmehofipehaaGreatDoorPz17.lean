/- A tail read: the program's Get. -/
import Derived.Test.YtkmhmehofipehaaGreatDoorPz13
import Derived.Test.YtkmhmehofipehaaGreatDoorPz11
import Derived.Test.YtkmhmehofipehaaGreatDoorPz10
import Derived.Test.YtkmhmehofipehaaGreatDoorPz4
import Derived.Test.YtkmhmehofipehaaGreatDoorPz7
import Derived.Test.YtkmhmehofipehaaGreatDoorPz5
import Derived.Test.YtkmhmehofipehaaGreatDoorPz3
namespace Go.Proofs.YtkmhmehofipehaaGreatDoor
set_option linter.unusedVariables false
open Go.RowKit
theorem Sees.setRowFar {w : World} {A : Option Addr} {xs : List Value} (h : Sees w A xs) (q : Nat) (new : Array Value) (hne : ∀ a, A = some a → a.block ≠ q) : Sees (w.setRow q new) A xs := by
  intro i v hv
  obtain ⟨a, ha, hc⟩ := h i v hv
  refine ⟨a, ha, (World.cell?_of_block (w := w) ?_).trans hc⟩
  exact setRow_other w q _ new (by rw [addr_block]; exact hne a ha)
set_option maxHeartbeats 2000000 in
theorem tget_kind (t : Nat) (A : Option Addr) (c : Nat) (l : List UInt8) (w : World) (ht : Tab w t) (hl : SeesB w A l) (hc : l.length ≤ c) (hcm : c ≤ maxLen) (hlen : l.length ≤ 140737488355328) (hst : startsT l = false) :
    Calls Tryz.prog 33 #[.pointer (some ⟨t, 0, none⟩), .slice A l.length c] w (GetTPostF w (31, 0, 0, 0, [])) := by
  have hb : Below w.heap.size w (w.alloc (.cells #[.int .i64 0, .int .u32 0, .slice none 0 0] 33)) := (Below.refl _ w).alloc (Nat.le_refl _) _
  have hrow := heap_alloc_new w (.cells #[.int .i64 0, .int .u32 0, .slice none 0 0] 33)
  have hss := hid (fun W (h : SeesB W A l) => tstarts_any A c l W h)
  go_enter Tryz.func33, Tryz.ntmps33
  go_wp2_with fail
  generalize w.alloc (.cells #[.int .i64 0, .int .u32 0, .slice none 0 0] 33) = w0 at *
  have hlt0 : w.heap.size < w0.heap.size := (Array.getElem?_eq_some_iff.1 hrow).1
  refine (hss.out _ (hl.below hb)).mono ?_
  rintro e w1 ⟨rfl, rfl⟩
  rw [hst]
  go_wp2_with first | (refine wpList_store_row rfl 33 (.tmp 4) (.tmp 21) rfl rfl w.heap.size rfl #[.int .i64 0, .int .u32 0, .slice none 0 0] rfl 33 #[.int .i64 0, .int .u32 0, .slice none 0 0] hrow (by kernel_rfl) rfl (by simp [Value.oneCell']) ?_)
  exact bodyPost_ret (v := .tuple #[.agg #[.int .i64 0, .int .u32 0, .slice none 0 0], .int .i64 0, .int .i64 31]) (results_row_tmp2 (fn := Tryz.f33) (p := 4) (u := 5) (x := 6) (ty := 33) rfl _ _ w.heap.size _ _ _ _ rfl (setRow_heap _ _ _ _ _ _ hrow) Tryz.underlying33 rfl (by kernel_rfl)) rfl ⟨none, 0, rfl, Sees.nil _ _, Nat.le_refl _, Nat.zero_le _, below_setRow hb (Nat.le_refl _) _, fun a ha => by cases ha⟩
set_option maxHeartbeats 4000000 in
theorem tget_many (t : Nat) (A : Option Addr) (c : Nat) (l : List UInt8) (w : World) (ht : Tab w t) (hl : SeesB w A l) (hc : l.length ≤ c) (hcm : c ≤ maxLen) (hlen : l.length ≤ 140737488355328) (hst : startsT l = true) (e0 e1 e2 e3 : Int) (p0 p1 p2 p3 : Nat) (x1 x2 N : Nat) (hx1 : x1 < 4294967296) (hx2 : x2 < 4294967296) (hN : N < 4294967296)
    (hraw : ∀ g W, Tk W g 0 0 l → Calls Tryz.prog 58 #[.pointer (some ⟨g, 0, none⟩), .int .i64 2] W fun e w' => (∃ v, e = .returned v) ∧ Tk w' g e0 p0 l ∧ But (Only g) W w')
    (hu1 : ∀ g W, Tk W g e0 p0 l → Calls Tryz.prog 55 #[.pointer (some ⟨g, 0, none⟩), .int .i64 4] W fun e w' => e = .returned (.int .u64 (x1 : Nat)) ∧ Tk w' g e1 p1 l ∧ But (Only g) W w')
    (hu2 : ∀ g W, Tk W g e1 p1 l → Calls Tryz.prog 55 #[.pointer (some ⟨g, 0, none⟩), .int .i64 4] W fun e w' => e = .returned (.int .u64 (x2 : Nat)) ∧ Tk w' g e2 p2 l ∧ But (Only g) W w')
    (hu3 : ∀ g W, Tk W g e2 p2 l → Calls Tryz.prog 55 #[.pointer (some ⟨g, 0, none⟩), .int .i64 4] W fun e w' => e = .returned (.int .u64 (N : Nat)) ∧ Tk w' g e3 p3 l ∧ But (Only g) W w') (hbig : 16777216 < N) :
    Calls Tryz.prog 33 #[.pointer (some ⟨t, 0, none⟩), .slice A l.length c] w (GetTPostF w (60, 0, 0, 0, [])) := by
  have HRAW := hid hraw
  have HU1 := hid hu1
  have HU2 := hid hu2
  have HU3 := hid hu3
  clear hraw hu1 hu2 hu3
  have d1 : decide (16777216 < (N : Int)) = true := decide_eq_true (by omega)
  have hb : Below w.heap.size w (w.alloc (.cells #[.int .i64 0, .int .u32 0, .slice none 0 0] 33)) := (Below.refl _ w).alloc (Nat.le_refl _) _
  have hrow := heap_alloc_new w (.cells #[.int .i64 0, .int .u32 0, .slice none 0 0] 33)
  have htk := hid (fun W (h : SeesB W A l) => take_any A c l W h hlen)
  have hss := hid (fun W (h : SeesB W A l) => tstarts_any A c l W h)
  go_enter Tryz.func33, Tryz.ntmps33
  go_wp2_with fail
  generalize w.alloc (.cells #[.int .i64 0, .int .u32 0, .slice none 0 0] 33) = w0 at *
  have hlt0 : w.heap.size < w0.heap.size := (Array.getElem?_eq_some_iff.1 hrow).1
  refine (hss.out _ (hl.below hb)).mono ?_
  rintro e w1 ⟨rfl, rfl⟩
  rw [hst]
  go_wp2_with fail
  refine (htk.out _ (hl.below hb)).mono ?_
  rintro e w1 ⟨g, rfl, hg, hT1, hb1⟩
  have hbw1 := hb.trans (hb1.mono hb.size)
  have hrow1 := (hb1.block w.heap.size hlt0).trans hrow
  have hlt1 := Nat.lt_of_lt_of_le hlt0 hb1.size
  have hwg : w.heap.size < g := Nat.lt_of_lt_of_le hlt0 hg
  clear hb hb1 hrow hlt0 htk hss hg
  go_wp2_with fail
  refine (HRAW.out g _ hT1).mono ?_
  rintro e w2 ⟨⟨vr, hrv⟩, hT2, hB2⟩
  have hbw2 := But.below hbw1 hB2 (fun b h => by have h2 : b = g := h; omega) hbw1.size
  have hrow2 := (hB2.block w.heap.size hlt1 (fun h => by have h2 : w.heap.size = g := h; omega)).trans hrow1
  have hlt2 := Nat.lt_of_lt_of_le hlt1 hB2.size
  clear hbw1 hrow1 hlt1 hB2 hT1
  subst hrv
  all_goals
    go_wp2_with fail
    refine (HU1.out g _ hT2).mono ?_
    rintro e w3 ⟨rfl, hT3, hB3⟩
    have hbw3 := But.below hbw2 hB3 (fun b h => by have h2 : b = g := h; omega) hbw2.size
    have hrow3 := (hB3.block w.heap.size hlt2 (fun h => by have h2 : w.heap.size = g := h; omega)).trans hrow2
    have hlt3 := Nat.lt_of_lt_of_le hlt2 hB3.size
    clear hbw2 hrow2 hlt2 hB3 hT2
    go_wp2_with fail
    refine (HU2.out g _ hT3).mono ?_
    rintro e w4 ⟨rfl, hT4, hB4⟩
    have hbw4 := But.below hbw3 hB4 (fun b h => by have h2 : b = g := h; omega) hbw3.size
    have hrow4 := (hB4.block w.heap.size hlt3 (fun h => by have h2 : w.heap.size = g := h; omega)).trans hrow3
    have hlt4 := Nat.lt_of_lt_of_le hlt3 hB4.size
    clear hbw3 hrow3 hlt3 hB4 hT3
    have hgl : g < w4.heap.size := by obtain ⟨_, _, hg0, _⟩ := hT4; exact (Array.getElem?_eq_some_iff.1 hg0).1
    have hb5 : Below w4.heap.size w4 (w4.alloc (.cells #[.int .i64 (x1 : Nat), .int .u32 (x2 : Nat), .slice none 0 0] 33)) := (Below.refl _ _).alloc (Nat.le_refl _) _
    have hr5 := heap_alloc_new w4 (.cells #[.int .i64 (x1 : Nat), .int .u32 (x2 : Nat), .slice none 0 0] 33)
    have hbw5 := hbw4.trans (hb5.mono hbw4.size)
    have hrow5 := (hb5.block w.heap.size hlt4).trans hrow4
    have hT5 := hT4.below hb5
    have hlt5 : w4.heap.size < (w4.alloc (.cells #[.int .i64 (x1 : Nat), .int .u32 (x2 : Nat), .slice none 0 0] 33)).heap.size := (Array.getElem?_eq_some_iff.1 hr5).1
    clear hb5 hbw4 hrow4 hT4
    go_wp2_with fail
    generalize w4.alloc (.cells #[.int .i64 (x1 : Nat), .int .u32 (x2 : Nat), .slice none 0 0] 33) = w5 at *
    generalize w4.heap.size = g8 at *
    refine (HU3.out g _ hT5).mono ?_
    rintro e w6 ⟨rfl, hT6, hB6⟩
    have hbw6 := But.below hbw5 hB6 (fun b h => by have h2 : b = g := h; omega) hbw5.size
    have hrow6 := (hB6.block w.heap.size (by omega) (fun h => by have h2 : w.heap.size = g := h; omega)).trans hrow5
    have hr6 := (hB6.block g8 (by omega) (fun h => by have h2 : g8 = g := h; omega)).trans hr5
    have hlt6 := Nat.lt_of_lt_of_le hlt5 hB6.size
    clear hbw5 hrow5 hr5 hT5 hB6 hlt5
    go_wp2_with first | (refine wpList_store_row rfl 33 (.tmp 4) (.tmp 38) rfl rfl w.heap.size rfl #[.int .i64 0, .int .u32 0, .slice none 0 0] rfl 33 #[.int .i64 0, .int .u32 0, .slice none 0 0] hrow6 (by kernel_rfl) rfl (by simp [Value.oneCell']) ?_)
    exact bodyPost_ret (v := .tuple #[.agg #[.int .i64 0, .int .u32 0, .slice none 0 0], .int .i64 0, .int .i64 60]) (results_row_tmp2 (fn := Tryz.f33) (p := 4) (u := 5) (x := 6) (ty := 33) rfl _ _ w.heap.size _ _ _ _ rfl (setRow_heap _ _ _ _ _ _ hrow6) Tryz.underlying33 rfl (by kernel_rfl)) rfl ⟨none, 0, rfl, Sees.nil _ _, Nat.le_refl _, Nat.zero_le _, below_setRow hbw6 (Nat.le_refl _) _, fun a ha => by cases ha⟩
set_option maxHeartbeats 4000000 in
theorem tget_few (t : Nat) (A : Option Addr) (c : Nat) (l : List UInt8) (w : World) (ht : Tab w t) (hl : SeesB w A l) (hc : l.length ≤ c) (hcm : c ≤ maxLen) (hlen : l.length ≤ 140737488355328) (hst : startsT l = true) (e0 e1 e2 e3 : Int) (p0 p1 p2 p3 : Nat) (x1 x2 N : Nat) (hx1 : x1 < 4294967296) (hx2 : x2 < 4294967296) (hN : N < 4294967296)
    (hraw : ∀ g W, Tk W g 0 0 l → Calls Tryz.prog 58 #[.pointer (some ⟨g, 0, none⟩), .int .i64 2] W fun e w' => (∃ v, e = .returned v) ∧ Tk w' g e0 p0 l ∧ But (Only g) W w')
    (hu1 : ∀ g W, Tk W g e0 p0 l → Calls Tryz.prog 55 #[.pointer (some ⟨g, 0, none⟩), .int .i64 4] W fun e w' => e = .returned (.int .u64 (x1 : Nat)) ∧ Tk w' g e1 p1 l ∧ But (Only g) W w')
    (hu2 : ∀ g W, Tk W g e1 p1 l → Calls Tryz.prog 55 #[.pointer (some ⟨g, 0, none⟩), .int .i64 4] W fun e w' => e = .returned (.int .u64 (x2 : Nat)) ∧ Tk w' g e2 p2 l ∧ But (Only g) W w')
    (hu3 : ∀ g W, Tk W g e2 p2 l → Calls Tryz.prog 55 #[.pointer (some ⟨g, 0, none⟩), .int .i64 4] W fun e w' => e = .returned (.int .u64 (N : Nat)) ∧ Tk w' g e3 p3 l ∧ But (Only g) W w') (hbad : e3 = 10) (h0 : N = 0) :
    Calls Tryz.prog 33 #[.pointer (some ⟨t, 0, none⟩), .slice A l.length c] w (GetTPostF w (10, 0, 0, 0, [])) := by
  subst h0
  subst hbad
  have HRAW := hid hraw
  have HU1 := hid hu1
  have HU2 := hid hu2
  have HU3 := hid hu3
  clear hraw hu1 hu2 hu3
  have HUX := hid (fun g p W (h : Tk W g 10 p l) => by
    have h1 := takerU_any g 10 p 4 l W h hlen
    rw [show takeU (10, p) l 4 = ((10, p), []) from takeU_err 10 p 4 l (by decide)] at h1
    exact h1)
  have hb : Below w.heap.size w (w.alloc (.cells #[.int .i64 0, .int .u32 0, .slice none 0 0] 33)) := (Below.refl _ w).alloc (Nat.le_refl _) _
  have hrow := heap_alloc_new w (.cells #[.int .i64 0, .int .u32 0, .slice none 0 0] 33)
  have htk := hid (fun W (h : SeesB W A l) => take_any A c l W h hlen)
  have hss := hid (fun W (h : SeesB W A l) => tstarts_any A c l W h)
  go_enter Tryz.func33, Tryz.ntmps33
  go_wp2_with fail
  generalize w.alloc (.cells #[.int .i64 0, .int .u32 0, .slice none 0 0] 33) = w0 at *
  have hlt0 : w.heap.size < w0.heap.size := (Array.getElem?_eq_some_iff.1 hrow).1
  refine (hss.out _ (hl.below hb)).mono ?_
  rintro e w1 ⟨rfl, rfl⟩
  rw [hst]
  go_wp2_with fail
  refine (htk.out _ (hl.below hb)).mono ?_
  rintro e w1 ⟨g, rfl, hg, hT1, hb1⟩
  have hbw1 := hb.trans (hb1.mono hb.size)
  have hrow1 := (hb1.block w.heap.size hlt0).trans hrow
  have hlt1 := Nat.lt_of_lt_of_le hlt0 hb1.size
  have hwg : w.heap.size < g := Nat.lt_of_lt_of_le hlt0 hg
  clear hb hb1 hrow hlt0 htk hss hg
  go_wp2_with fail
  refine (HRAW.out g _ hT1).mono ?_
  rintro e w2 ⟨⟨vr, hrv⟩, hT2, hB2⟩
  have hbw2 := But.below hbw1 hB2 (fun b h => by have h2 : b = g := h; omega) hbw1.size
  have hrow2 := (hB2.block w.heap.size hlt1 (fun h => by have h2 : w.heap.size = g := h; omega)).trans hrow1
  have hlt2 := Nat.lt_of_lt_of_le hlt1 hB2.size
  clear hbw1 hrow1 hlt1 hB2 hT1
  subst hrv
  all_goals
    go_wp2_with fail
    refine (HU1.out g _ hT2).mono ?_
    rintro e w3 ⟨rfl, hT3, hB3⟩
    have hbw3 := But.below hbw2 hB3 (fun b h => by have h2 : b = g := h; omega) hbw2.size
    have hrow3 := (hB3.block w.heap.size hlt2 (fun h => by have h2 : w.heap.size = g := h; omega)).trans hrow2
    have hlt3 := Nat.lt_of_lt_of_le hlt2 hB3.size
    clear hbw2 hrow2 hlt2 hB3 hT2
    go_wp2_with fail
    refine (HU2.out g _ hT3).mono ?_
    rintro e w4 ⟨rfl, hT4, hB4⟩
    have hbw4 := But.below hbw3 hB4 (fun b h => by have h2 : b = g := h; omega) hbw3.size
    have hrow4 := (hB4.block w.heap.size hlt3 (fun h => by have h2 : w.heap.size = g := h; omega)).trans hrow3
    have hlt4 := Nat.lt_of_lt_of_le hlt3 hB4.size
    clear hbw3 hrow3 hlt3 hB4 hT3
    have hgl : g < w4.heap.size := by obtain ⟨_, _, hg0, _⟩ := hT4; exact (Array.getElem?_eq_some_iff.1 hg0).1
    have hb5 : Below w4.heap.size w4 (w4.alloc (.cells #[.int .i64 (x1 : Nat), .int .u32 (x2 : Nat), .slice none 0 0] 33)) := (Below.refl _ _).alloc (Nat.le_refl _) _
    have hr5 := heap_alloc_new w4 (.cells #[.int .i64 (x1 : Nat), .int .u32 (x2 : Nat), .slice none 0 0] 33)
    have hbw5 := hbw4.trans (hb5.mono hbw4.size)
    have hrow5 := (hb5.block w.heap.size hlt4).trans hrow4
    have hT5 := hT4.below hb5
    have hlt5 : w4.heap.size < (w4.alloc (.cells #[.int .i64 (x1 : Nat), .int .u32 (x2 : Nat), .slice none 0 0] 33)).heap.size := (Array.getElem?_eq_some_iff.1 hr5).1
    clear hb5 hbw4 hrow4 hT4
    go_wp2_with fail
    generalize w4.alloc (.cells #[.int .i64 (x1 : Nat), .int .u32 (x2 : Nat), .slice none 0 0] 33) = w5 at *
    generalize w4.heap.size = g8 at *
    refine (HU3.out g _ hT5).mono ?_
    rintro e w6 ⟨rfl, hT6, hB6⟩
    have hbw6 := But.below hbw5 hB6 (fun b h => by have h2 : b = g := h; omega) hbw5.size
    have hrow6 := (hB6.block w.heap.size (by omega) (fun h => by have h2 : w.heap.size = g := h; omega)).trans hrow5
    have hr6 := (hB6.block g8 (by omega) (fun h => by have h2 : g8 = g := h; omega)).trans hr5
    have hlt6 := Nat.lt_of_lt_of_le hlt5 hB6.size
    clear hbw5 hrow5 hr5 hT5 hB6 hlt5
    go_wp2_with fail
    go_loop [10] (fun i => i = .int .i64 0) (fun _ => 0)
    case atStart => rfl
    case round =>
      obtain rfl := hrel
      go_wp2_with fail
      refine (tat_tk g 10 _ l _ hT6).mono ?_
      rintro e wq ⟨rfl, rfl⟩
      go_wp2_with fail
      refine (HUX.out g _ _ hT6).mono ?_
      rintro e wq ⟨rfl, hTq, hBq⟩
      have hbwq := But.below hbw6 hBq (fun b h => by have h2 : b = g := h; omega) hbw6.size
      have hrowq := (hBq.block w.heap.size (by omega) (fun h => by have h2 : w.heap.size = g := h; omega)).trans hrow6
      clear hBq hT6 hbw6 hrow6
      go_wp2_with fail
      refine (terr_tk g 10 _ l _ hTq).mono ?_
      rintro e wr ⟨rfl, rfl⟩
      go_wp2_with fail
      refine (terr_tk g 10 _ l _ hTq).mono ?_
      rintro e wr ⟨rfl, rfl⟩
      go_wp2_with first | (refine wpList_store_row rfl 33 (.tmp 4) (.tmp 65) rfl rfl w.heap.size rfl #[.int .i64 0, .int .u32 0, .slice none 0 0] rfl 33 #[.int .i64 0, .int .u32 0, .slice none 0 0] hrowq (by kernel_rfl) rfl (by simp [Value.oneCell']) ?_)
      exact bodyPost_ret (v := .tuple #[.agg #[.int .i64 0, .int .u32 0, .slice none 0 0], .int .i64 0, .int .i64 10]) (results_row_tmp2 (fn := Tryz.f33) (p := 4) (u := 5) (x := 6) (ty := 33) rfl _ _ w.heap.size _ _ _ _ rfl (setRow_heap _ _ _ _ _ _ hrowq) Tryz.underlying33 rfl (by kernel_rfl)) rfl ⟨none, 0, rfl, Sees.nil _ _, Nat.le_refl _, Nat.zero_le _, below_setRow hbwq (Nat.le_refl _) _, fun a ha => by cases ha⟩
set_option maxRecDepth 20000 in
set_option maxHeartbeats 8000000 in
theorem tget_long (t : Nat) (A : Option Addr) (c : Nat) (l : List UInt8) (w : World) (ht : Tab w t) (hl : SeesB w A l) (hc : l.length ≤ c) (hcm : c ≤ maxLen) (hlen : l.length ≤ 140737488355328) (hst : startsT l = true) (e0 e1 e2 e3 : Int) (p0 p1 p2 p3 : Nat) (x1 x2 N : Nat) (hx1 : x1 < 4294967296) (hx2 : x2 < 4294967296) (hN : N < 4294967296)
    (hraw : ∀ g W, Tk W g 0 0 l → Calls Tryz.prog 58 #[.pointer (some ⟨g, 0, none⟩), .int .i64 2] W fun e w' => (∃ v, e = .returned v) ∧ Tk w' g e0 p0 l ∧ But (Only g) W w')
    (hu1 : ∀ g W, Tk W g e0 p0 l → Calls Tryz.prog 55 #[.pointer (some ⟨g, 0, none⟩), .int .i64 4] W fun e w' => e = .returned (.int .u64 (x1 : Nat)) ∧ Tk w' g e1 p1 l ∧ But (Only g) W w')
    (hu2 : ∀ g W, Tk W g e1 p1 l → Calls Tryz.prog 55 #[.pointer (some ⟨g, 0, none⟩), .int .i64 4] W fun e w' => e = .returned (.int .u64 (x2 : Nat)) ∧ Tk w' g e2 p2 l ∧ But (Only g) W w')
    (hu3 : ∀ g W, Tk W g e2 p2 l → Calls Tryz.prog 55 #[.pointer (some ⟨g, 0, none⟩), .int .i64 4] W fun e w' => e = .returned (.int .u64 (N : Nat)) ∧ Tk w' g e3 p3 l ∧ But (Only g) W w') (h14 : 14 ≤ l.length) (he3 : e3 = 0) (hp3 : p3 = 14) (hmost : N ≤ 16777216) (hNl : N = fldT l 10 4) (hv1 : x1 = fldT l 2 4) (hv2 : x2 = fldT l 6 4) :
    Calls Tryz.prog 33 #[.pointer (some ⟨t, 0, none⟩), .slice A l.length c] w (GetTPostF w (getT l)) := by
  subst he3
  subst hp3
  have d1 : decide (16777216 < (N : Int)) = false := decide_eq_false (by omega)
  obtain ⟨R, hR⟩ : ∃ R, R = getT l := ⟨_, rfl⟩
  rw [← hR]
  have hR2 : R = (if l.length < 18 + 5 * N then (10, 0, 0, 0, []) else if sumI (l.take (14 + 5 * N)) ≠ (fldT l (14 + 5 * N) 4 : Int) then (33, 0, 0, 0, []) else if rightB (x1 : Nat) (plcT l N) = false then (60, 0, 0, 0, []) else (0, (18 + 5 * N : Nat), (x1 : Nat), (x2 : Nat), plcT l N) : Int × Int × Int × Int × List Int) := by
    rw [hR]; unfold getT; rw [if_neg (by rw [hst]; simp), if_neg (by omega), ← hNl, if_neg (by omega), ← hv1, ← hv2]
  have HR := hid hR2
  clear hR hR2 hNl hv1 hv2
  obtain ⟨a, rfl, _⟩ := hl.at (show 0 < l.length by omega)
  have HRAW := hid hraw
  have HU1 := hid hu1
  have HU2 := hid hu2
  have HU3 := hid hu3
  clear hraw hu1 hu2 hu3
  have HUX := hid (fun g p W (h : Tk W g 10 p l) => by
    have h1 := takerU_any g 10 p 4 l W h hlen
    rw [show takeU (10, p) l 4 = ((10, p), []) from takeU_err 10 p 4 l (by decide)] at h1
    exact h1)
  have hb : Below w.heap.size w (w.alloc (.cells #[.int .i64 0, .int .u32 0, .slice none 0 0] 33)) := (Below.refl _ w).alloc (Nat.le_refl _) _
  have hrow := heap_alloc_new w (.cells #[.int .i64 0, .int .u32 0, .slice none 0 0] 33)
  have htk := hid (fun W (h : SeesB W (some a) l) => take_any (some a) c l W h hlen)
  have hss := hid (fun W (h : SeesB W (some a) l) => tstarts_any (some a) c l W h)
  go_enter Tryz.func33, Tryz.ntmps33
  go_wp2_with fail
  generalize w.alloc (.cells #[.int .i64 0, .int .u32 0, .slice none 0 0] 33) = w0 at *
  have hlt0 : w.heap.size < w0.heap.size := (Array.getElem?_eq_some_iff.1 hrow).1
  refine (hss.out _ (hl.below hb)).mono ?_
  rintro e w1 ⟨rfl, rfl⟩
  rw [hst]
  go_wp2_with fail
  refine (htk.out _ (hl.below hb)).mono ?_
  rintro e w1 ⟨g, rfl, hg, hT1, hb1⟩
  have hbw1 := hb.trans (hb1.mono hb.size)
  have hrow1 := (hb1.block w.heap.size hlt0).trans hrow
  have hlt1 := Nat.lt_of_lt_of_le hlt0 hb1.size
  have hwg : w.heap.size < g := Nat.lt_of_lt_of_le hlt0 hg
  clear hb hb1 hrow hlt0 htk hss hg
  go_wp2_with fail
  refine (HRAW.out g _ hT1).mono ?_
  rintro e w2 ⟨⟨vr, hrv⟩, hT2, hB2⟩
  have hbw2 := But.below hbw1 hB2 (fun b h => by have h2 : b = g := h; omega) hbw1.size
  have hrow2 := (hB2.block w.heap.size hlt1 (fun h => by have h2 : w.heap.size = g := h; omega)).trans hrow1
  have hlt2 := Nat.lt_of_lt_of_le hlt1 hB2.size
  clear hbw1 hrow1 hlt1 hB2 hT1
  subst hrv
  all_goals
    go_wp2_with fail
    refine (HU1.out g _ hT2).mono ?_
    rintro e w3 ⟨rfl, hT3, hB3⟩
    have hbw3 := But.below hbw2 hB3 (fun b h => by have h2 : b = g := h; omega) hbw2.size
    have hrow3 := (hB3.block w.heap.size hlt2 (fun h => by have h2 : w.heap.size = g := h; omega)).trans hrow2
    have hlt3 := Nat.lt_of_lt_of_le hlt2 hB3.size
    clear hbw2 hrow2 hlt2 hB3 hT2
    go_wp2_with fail
    refine (HU2.out g _ hT3).mono ?_
    rintro e w4 ⟨rfl, hT4, hB4⟩
    have hbw4 := But.below hbw3 hB4 (fun b h => by have h2 : b = g := h; omega) hbw3.size
    have hrow4 := (hB4.block w.heap.size hlt3 (fun h => by have h2 : w.heap.size = g := h; omega)).trans hrow3
    have hlt4 := Nat.lt_of_lt_of_le hlt3 hB4.size
    clear hbw3 hrow3 hlt3 hB4 hT3
    have hgl : g < w4.heap.size := by obtain ⟨_, _, hg0, _⟩ := hT4; exact (Array.getElem?_eq_some_iff.1 hg0).1
    have hb5 : Below w4.heap.size w4 (w4.alloc (.cells #[.int .i64 (x1 : Nat), .int .u32 (x2 : Nat), .slice none 0 0] 33)) := (Below.refl _ _).alloc (Nat.le_refl _) _
    have hr5 := heap_alloc_new w4 (.cells #[.int .i64 (x1 : Nat), .int .u32 (x2 : Nat), .slice none 0 0] 33)
    have hbw5 := hbw4.trans (hb5.mono hbw4.size)
    have hrow5 := (hb5.block w.heap.size hlt4).trans hrow4
    have hT5 := hT4.below hb5
    have hlt5 : w4.heap.size < (w4.alloc (.cells #[.int .i64 (x1 : Nat), .int .u32 (x2 : Nat), .slice none 0 0] 33)).heap.size := (Array.getElem?_eq_some_iff.1 hr5).1
    clear hb5 hbw4 hrow4 hT4
    go_wp2_with fail
    generalize w4.alloc (.cells #[.int .i64 (x1 : Nat), .int .u32 (x2 : Nat), .slice none 0 0] 33) = w5 at *
    generalize w4.heap.size = g8 at *
    refine (HU3.out g _ hT5).mono ?_
    rintro e w6 ⟨rfl, hT6, hB6⟩
    have hbw6 := But.below hbw5 hB6 (fun b h => by have h2 : b = g := h; omega) hbw5.size
    have hrow6 := (hB6.block w.heap.size (by omega) (fun h => by have h2 : w.heap.size = g := h; omega)).trans hrow5
    have hr6 := (hB6.block g8 (by omega) (fun h => by have h2 : g8 = g := h; omega)).trans hr5
    have hlt6 := Nat.lt_of_lt_of_le hlt5 hB6.size
    clear hbw5 hrow5 hr5 hT5 hB6 hlt5
    go_wp2_with fail
    have hgl6 : g < w6.heap.size := by omega
    have hTB6 := hT6.tkB (by omega)
    have hsz0 : w6.heap.size ≤ w6.heap.size := Nat.le_refl _
    have hg8 : g8 < w6.heap.size := hlt6
    clear hT6 hlt6
    go_loopw [10] (fun i wr => ∃ (n : Nat) (e : Int) (p : Nat) (A : Option Addr) (c : Nat) (vs : List Int), n ≤ N ∧ i = .int .i64 n ∧ ((e = 0 ∧ p = 14 + 5 * n ∧ 14 + 5 * n ≤ l.length ∧ vs = plcT l n) ∨ (e = 10 ∧ l.length < 18 + 5 * N)) ∧ TkB wr g e p l w6.heap.size ∧ wr.heap[g8]? = some (.cells #[.int .i64 (x1 : Nat), .int .u32 (x2 : Nat), .slice A n c] 33 (0, 0)) ∧ wr.ownsRow w6.heap.size 3 1 (.slice A n c) n (vs.map intV) ∧ wr.heap[w.heap.size]? = some (.cells #[.int .i64 0, .int .u32 0, .slice none 0 0] 33 (0, 0)) ∧ Below w.heap.size w wr ∧ w6.heap.size ≤ wr.heap.size) (fun i _ => N - (intOf i).toNat)
    case atStart => exact ⟨0, 0, 14, none, 0, [], by omega, rfl, .inl ⟨rfl, rfl, by omega, rfl⟩, hTB6, hr6, own_nil _ _ _ _, hrow6, hbw6, hsz0⟩
    case round =>
      clear hTB6 hr6 hrow6 hbw6 hsz0
      obtain ⟨n, e, p, An, cn, vs, hnN, rfl, hst2, hT, hr, hown, hrow, hbw, hsz⟩ := hrel
      by_cases he : e = 10
      · subst he
        obtain rfl : R = (10, 0, 0, 0, []) := by
          rcases hst2 with ⟨h0, _⟩ | ⟨_, hsh⟩
          · exact absurd h0 (by decide)
          · rw [HR.out, if_pos hsh]
        have hTk := hT.tk
        clear hst2 HR hT hr hown
        by_cases hlt : n < N
        · have d2 : decide ((n : Int) < (N : Int)) = true := decide_eq_true (by omega)
          have d2' : decide (n < N) = true := decide_eq_true hlt
          go_wp2_with fail
          refine (terr_tk g 10 _ l _ hTk).mono ?_
          rintro e wq ⟨rfl, rfl⟩
          go_wp2_with fail
          refine (tat_tk g 10 _ l _ hTk).mono ?_
          rintro e wq ⟨rfl, rfl⟩
          go_wp2_with fail
          refine (HUX.out g _ _ hTk).mono ?_
          rintro e wq ⟨rfl, hTq, hBq⟩
          have hbwq := But.below hbw hBq (fun b h => by have h2 : b = g := h; omega) hbw.size
          have hrowq := (hBq.block w.heap.size (by omega) (fun h => by have h2 : w.heap.size = g := h; omega)).trans hrow
          clear hBq hTk hbw hrow
          go_wp2_with fail
          refine (terr_tk g 10 _ l _ hTq).mono ?_
          rintro e wr ⟨rfl, rfl⟩
          go_wp2_with fail
          refine (terr_tk g 10 _ l _ hTq).mono ?_
          rintro e wr ⟨rfl, rfl⟩
          go_wp2_with first | (refine wpList_store_row rfl 33 (.tmp 4) (.tmp 65) rfl rfl w.heap.size rfl #[.int .i64 0, .int .u32 0, .slice none 0 0] rfl 33 #[.int .i64 0, .int .u32 0, .slice none 0 0] hrowq (by kernel_rfl) rfl (by simp [Value.oneCell']) ?_)
          exact bodyPost_ret (v := .tuple #[.agg #[.int .i64 0, .int .u32 0, .slice none 0 0], .int .i64 0, .int .i64 10]) (results_row_tmp2 (fn := Tryz.f33) (p := 4) (u := 5) (x := 6) (ty := 33) rfl _ _ w.heap.size _ _ _ _ rfl (setRow_heap _ _ _ _ _ _ hrowq) Tryz.underlying33 rfl (by kernel_rfl)) rfl ⟨none, 0, rfl, Sees.nil _ _, Nat.le_refl _, Nat.zero_le _, below_setRow hbwq (Nat.le_refl _) _, fun a ha => by cases ha⟩
        · have d2 : decide ((n : Int) < (N : Int)) = false := decide_eq_false (by omega)
          have d2' : decide (n < N) = false := decide_eq_false hlt
          go_wp2_with fail
          refine (tat_tk g 10 _ l _ hTk).mono ?_
          rintro e wq ⟨rfl, rfl⟩
          go_wp2_with fail
          refine (HUX.out g _ _ hTk).mono ?_
          rintro e wq ⟨rfl, hTq, hBq⟩
          have hbwq := But.below hbw hBq (fun b h => by have h2 : b = g := h; omega) hbw.size
          have hrowq := (hBq.block w.heap.size (by omega) (fun h => by have h2 : w.heap.size = g := h; omega)).trans hrow
          clear hBq hTk hbw hrow
          go_wp2_with fail
          refine (terr_tk g 10 _ l _ hTq).mono ?_
          rintro e wr ⟨rfl, rfl⟩
          go_wp2_with fail
          refine (terr_tk g 10 _ l _ hTq).mono ?_
          rintro e wr ⟨rfl, rfl⟩
          go_wp2_with first | (refine wpList_store_row rfl 33 (.tmp 4) (.tmp 65) rfl rfl w.heap.size rfl #[.int .i64 0, .int .u32 0, .slice none 0 0] rfl 33 #[.int .i64 0, .int .u32 0, .slice none 0 0] hrowq (by kernel_rfl) rfl (by simp [Value.oneCell']) ?_)
          exact bodyPost_ret (v := .tuple #[.agg #[.int .i64 0, .int .u32 0, .slice none 0 0], .int .i64 0, .int .i64 10]) (results_row_tmp2 (fn := Tryz.f33) (p := 4) (u := 5) (x := 6) (ty := 33) rfl _ _ w.heap.size _ _ _ _ rfl (setRow_heap _ _ _ _ _ _ hrowq) Tryz.underlying33 rfl (by kernel_rfl)) rfl ⟨none, 0, rfl, Sees.nil _ _, Nat.le_refl _, Nat.zero_le _, below_setRow hbwq (Nat.le_refl _) _, fun a ha => by cases ha⟩
      obtain ⟨rfl, rfl, hfit, rfl⟩ : e = 0 ∧ p = 14 + 5 * n ∧ 14 + 5 * n ≤ l.length ∧ vs = plcT l n := by
        rcases hst2 with h | ⟨h0, _⟩
        · exact h
        · exact absurd h0 he
      clear hst2 he
      by_cases hlt : n < N
      · have d2 : decide ((n : Int) < (N : Int)) = true := decide_eq_true (by omega)
        have d2' : decide (n < N) = true := decide_eq_true hlt
        obtain ⟨e', p', y, hy, hu5, hnew⟩ : ∃ (e' : Int) (p' y : Nat), y < 1099511627776 ∧ (∀ g W, TkB W g 0 (14 + 5 * n) l w6.heap.size → Calls Tryz.prog 55 #[.pointer (some ⟨g, 0, none⟩), .int .i64 5] W fun e w' => e = .returned (.int .u64 (y : Nat)) ∧ TkB w' g e' p' l w6.heap.size ∧ But (Only g) W w') ∧
            ((e' = 0 ∧ p' = 14 + 5 * (n + 1) ∧ 14 + 5 * (n + 1) ≤ l.length ∧ plcT l n ++ [(y : Int)] = plcT l (n + 1)) ∨ (e' = 10 ∧ l.length < 18 + 5 * N)) := by
          by_cases hf : 14 + 5 * n + 5 ≤ l.length
          · refine ⟨0, 14 + 5 * n + 5, fldT l (14 + 5 * n) 5, fldT_lt l _ 5, fun g W h => ?_, .inl ⟨rfl, by omega, by omega, (plcT_succ l n).symm⟩⟩
            have h1 := takerUB_any g 0 (14 + 5 * n) 5 l W _ h hlen
            rw [show takeU (0, 14 + 5 * n) l 5 = ((0, 14 + 5 * n + 5), (l.drop (14 + 5 * n)).take 5) from takeUt_at (14 + 5 * n) 5 l hf (by omega)] at h1
            exact h1
          · refine ⟨10, 14 + 5 * n, 0, by omega, fun g W h => ?_, .inr ⟨rfl, by omega⟩⟩
            have h1 := takerUB_any g 0 (14 + 5 * n) 5 l W _ h hlen
            rw [show takeU (0, 14 + 5 * n) l 5 = ((10, 14 + 5 * n), []) from takeU_end (14 + 5 * n) 5 l (by omega) (by omega)] at h1
            exact h1
        have HU5 := hid hu5
        have HNEW := hid hnew
        clear hu5 hnew
        generalize plcT l n = vs at *
        have hTk := hT.tk
        have zy : IntKind.i64.wrap (y : Int) = (y : Int) := by rw [IntKind.wrap_i64]; omega
        go_wp2_with fail
        refine (terr_tk g 0 _ l _ hTk).mono ?_
        rintro e wq ⟨rfl, rfl⟩
        have hr8 : wr.drew.heap[g8]? = some (.cells #[.int .i64 (x1 : Nat), .int .u32 (x2 : Nat), .slice An n cn] 33 (0, 0)) := hr
        have hT8 : TkB wr.drew g 0 (14 + 5 * n) l w6.heap.size := hT
        have hown8 : wr.drew.ownsRow w6.heap.size 3 1 (.slice An n cn) n (vs.map intV) := hown
        have hrow8 : wr.drew.heap[w.heap.size]? = some (.cells #[.int .i64 0, .int .u32 0, .slice none 0 0] 33 (0, 0)) := hrow
        have hbw8 : Below w.heap.size w wr.drew := hbw.drew
        have hsz8 : w6.heap.size ≤ wr.drew.heap.size := hsz
        clear hr hT hown hrow hbw hTk
        go_wp2_with fail
        · skip
          refine wp_region_held_drew (S := fun _ => True) (by kernel_rfl) trivial (fun hHeld => ?_)
          refine wpAnyH_takeD (i := 0) (d := some 49) (v := ?v100) rfl rfl (by kernel_rfl) (by kernel_rfl) (by kernel_rfl) (fun _ _ _ h => h) (Or.inl ⟨by rfl, ?hy100⟩) hHeld ?rest100
          case hy100 =>
            intro wS hS
            go_simp
            all_goals with_reducible rfl
          (try simp only [Act.put, List.setIfInBounds_toArray, List.set_cons_zero, List.set_cons_succ])
          refine wpAnyH_takeD (i := 2) (d := some 51) (v := ?v202) rfl rfl (by kernel_rfl) (by kernel_rfl) (by kernel_rfl) (fun _ _ _ h => h) (Or.inl ⟨by rfl, ?hy202⟩) hHeld ?rest202
          case hy202 =>
            intro wS hS
            go_simp
            all_goals with_reducible rfl
          (try simp only [Act.put, List.setIfInBounds_toArray, List.set_cons_zero, List.set_cons_succ])
          refine wpAnyH_ready (rs := [1, 3]) (by kernel_rfl) (by simp) (AllReadyH.cons rfl (fun K hK => ?_) (AllReadyH.cons rfl (fun K hK => ?_) AllReadyH.nil))
          · rw [if_pos (by rfl)]
            have k2 : wr.drew.cell? ⟨g8, 2, none⟩ = some (.slice An n cn) := by rw [cell_of_row _ _ _ _ _ _ hr8]; rfl
            go_simp
            refine hK.out _ _ trivial (fun hHeld => ?_)
            clear hK K
            (try simp only [Act.put, List.setIfInBounds_toArray, List.set_cons_zero, List.set_cons_succ])
            clear k2
            refine wpAnyH_ready (rs := [3]) (by kernel_rfl) (by simp) (AllReadyH.cons rfl (fun K hK => ?_) AllReadyH.nil)
            rw [if_pos (by rfl)]
            go_simp
            refine (HU5.out g _ hT8).mono ?_
            rintro e w7 ⟨rfl, hT7, hB7⟩
            have hbw7 := But.below hbw8 hB7 (fun b h => by have h2 : b = g := h; omega) hbw8.size
            have hrow7 := (hB7.block w.heap.size (by omega) (fun h => by have h2 : w.heap.size = g := h; omega)).trans hrow8
            have hr7 := (hB7.block g8 (by omega) (fun h => by have h2 : g8 = g := h; omega)).trans hr8
            have hsz7 : w6.heap.size ≤ w7.heap.size := Nat.le_trans hsz8 hB7.size
            have hown7 := own_but hown8 hB7 (fun k hk hR => by have h2 : k = g := hR; have := own_base hown8 hk; omega)
            go_wp2_with fail
            refine hK.out _ _ trivial (fun hHeld => ?_)
            clear hK K
            (try simp only [Act.put, List.setIfInBounds_toArray, List.set_cons_zero, List.set_cons_succ])
            refine wpAnyH_takeD (i := 4) (d := some 53) (v := ?v304) rfl rfl (by kernel_rfl) (by kernel_rfl) (by kernel_rfl) (fun _ _ _ h => h) (Or.inl ⟨by rfl, ?hy304⟩) hHeld ?rest304
            case hy304 =>
              intro wS hS
              go_simp
              all_goals with_reducible rfl
            (try simp only [Act.put, List.setIfInBounds_toArray, List.set_cons_zero, List.set_cons_succ])
            refine wpAnyH_ready (rs := [5]) (by kernel_rfl) (by simp) (AllReadyH.cons rfl (fun K hK => ?_) AllReadyH.nil)
            rw [if_pos (by rfl)]
            go_simp
            have hb8 : Below w7.heap.size w7 (w7.alloc (.cells #[.int .i64 (y : Nat)] 3)) := (Below.refl _ _).alloc (Nat.le_refl _) _
            have hr9 := (hb8.block g8 (by omega)).trans hr7
            have hrow9 := (hb8.block w.heap.size (by omega)).trans hrow7
            have hbw9 := hbw7.trans (hb8.mono hbw7.size)
            have hT9 := hT7.below hb8
            have hsz9 : w6.heap.size ≤ (w7.alloc (.cells #[.int .i64 (y : Nat)] 3)).heap.size := Nat.le_trans hsz7 hb8.size
            have hown9 := hown7.alloc (.cells #[.int .i64 (y : Nat)] 3)
            refine hK.out _ _ trivial (fun hHeld => ?_)
            clear hK K
            (try simp only [Act.put, List.setIfInBounds_toArray, List.set_cons_zero, List.set_cons_succ])
            refine wpAnyH_ready (rs := [6]) (by kernel_rfl) (by simp) (AllReadyH.cons rfl (fun K hK => ?_) AllReadyH.nil)
            rw [if_pos (by rfl)]
            refine wp_app (.tmp 50) (.tmp 54) _ rfl elI rfl hown9 (some ⟨w7.heap.size, 0, none⟩) 1 1 rfl [intV (y : Nat)] (Sees.of_alloc _ _ _ rfl) (by simp) (by simp [intV, Value.oneCell']) (n + 1) rfl ((vs ++ [(y : Int)]).map intV) (by simp) (by unfold maxLen; omega) (by omega) hsz9 ?_
            intro Ax cx wx hownx hgrx hatx hbx
            have hrx := (hbx.block g8 (by omega)).trans hr9
            have hrowx := (hbx.block w.heap.size (by omega)).trans hrow9
            have hbwx := hbw9.trans (hbx.mono (by omega))
            have hszx : w6.heap.size ≤ wx.heap.size := Nat.le_trans hsz9 hbx.size
            have hTx := hT9.far hgl6 hbx
            clear hgrx hatx
            refine hK.out _ _ trivial (fun hHeld => ?_)
            clear hK K
            (try simp only [Act.put, List.setIfInBounds_toArray])
            refine wpAnyH_takeD (i := 7) (d := some 56) (v := ?v407) rfl rfl (by kernel_rfl) (by kernel_rfl) (by kernel_rfl) (fun _ _ _ h => h) (Or.inl ⟨by rfl, ?hy407⟩) hHeld ?rest407
            case hy407 =>
              intro wS hS
              go_simp
              all_goals with_reducible rfl
            (try simp only [Act.put])
            refine wpAnyH_ready (rs := [8]) (by kernel_rfl) (by simp) (AllReadyH.cons rfl (fun K hK => ?_) AllReadyH.nil)
            rw [if_pos (by rfl)]
            have k2 : wx.cell? ⟨g8, 2, none⟩ = some (.slice An n cn) := by rw [cell_of_row _ _ _ _ _ _ hrx]; rfl
            have f2 : wx.frozen? ⟨g8, 2, none⟩ = false := frozen_of_row _ _ _ _ _ hrx
            have hry : (wx.setCell ⟨g8, 2, none⟩ (.slice Ax (n + 1) cx)).heap[g8]? = some (.cells #[.int .i64 (x1 : Nat), .int .u32 (x2 : Nat), .slice Ax (n + 1) cx] 33 (0, 0)) := heap_setCell_same _ g8 2 _ _ (.slice Ax (n + 1) cx) hrx
            have hrowy := (heap_setCell_other wx ⟨g8, 2, none⟩ w.heap.size (.slice Ax (n + 1) cx) (by show w.heap.size ≠ g8; omega)).trans hrowx
            have hbwy := hbwx.setCell (p := ⟨g8, 2, none⟩) (by show w.heap.size ≤ g8; omega) (.slice Ax (n + 1) cx)
            have hTy := hTx.setTyped (by omega : g ≠ g8) hrx (fun j z h => by have := Array.mem_of_getElem? h; simp at this) 2 (.slice Ax (n + 1) cx)
            have howny := ownsRow_setCell_below hownx (a := ⟨g8, 2, none⟩) (by show g8 < w6.heap.size; omega) (.slice Ax (n + 1) cx)
            have hszy : w6.heap.size ≤ (wx.setCell ⟨g8, 2, none⟩ (.slice Ax (n + 1) cx)).heap.size := Nat.le_trans hszx (by simp [World.setCell])
            clear hr7 hrow7 hbw7 hT7 hown7 hsz7 hr8 hrow8 hbw8 hT8 hown8 hsz8 hr9 hrow9 hbw9 hT9 hown9 hsz9 hrx hrowx hbwx hTx hownx hszx hbx
            go_simp
            refine hK.out _ _ trivial (fun hHeld => ?_)
            clear hK K
            (try simp only [Act.put, List.setIfInBounds_toArray, List.set_cons_zero, List.set_cons_succ])
            refine wpAnyH_done (by kernel_rfl) ?_ _
            go_wp2_with fail
            go_roundw
            case rel => exact ⟨n + 1, e', p', Ax, cx, vs ++ [(y : Int)], by omega, by go_num, HNEW.out, hTy, hry, howny, hrowy, hbwy, hszy⟩
            case measure => simp [intOf]; omega
          · rw [if_pos (by rfl)]
            go_simp
            refine (HU5.out g _ hT8).mono ?_
            rintro e w7 ⟨rfl, hT7, hB7⟩
            have hbw7 := But.below hbw8 hB7 (fun b h => by have h2 : b = g := h; omega) hbw8.size
            have hrow7 := (hB7.block w.heap.size (by omega) (fun h => by have h2 : w.heap.size = g := h; omega)).trans hrow8
            have hr7 := (hB7.block g8 (by omega) (fun h => by have h2 : g8 = g := h; omega)).trans hr8
            have hsz7 : w6.heap.size ≤ w7.heap.size := Nat.le_trans hsz8 hB7.size
            have hown7 := own_but hown8 hB7 (fun k hk hR => by have h2 : k = g := hR; have := own_base hown8 hk; omega)
            go_wp2_with fail
            refine hK.out _ _ trivial (fun hHeld => ?_)
            clear hK K
            (try simp only [Act.put, List.setIfInBounds_toArray, List.set_cons_zero, List.set_cons_succ])
            refine wpAnyH_takeD (i := 4) (d := some 53) (v := ?v504) rfl rfl (by kernel_rfl) (by kernel_rfl) (by kernel_rfl) (fun _ _ _ h => h) (Or.inl ⟨by rfl, ?hy504⟩) hHeld ?rest504
            case hy504 =>
              intro wS hS
              go_simp
              all_goals with_reducible rfl
            (try simp only [Act.put, List.setIfInBounds_toArray, List.set_cons_zero, List.set_cons_succ])
            refine wpAnyH_ready (rs := [1, 5]) (by kernel_rfl) (by simp) (AllReadyH.cons rfl (fun K hK => ?_) (AllReadyH.cons rfl (fun K hK => ?_) AllReadyH.nil))
            · rw [if_pos (by rfl)]
              have k2 : w7.cell? ⟨g8, 2, none⟩ = some (.slice An n cn) := by rw [cell_of_row _ _ _ _ _ _ hr7]; rfl
              go_simp
              refine hK.out _ _ trivial (fun hHeld => ?_)
              clear hK K
              (try simp only [Act.put, List.setIfInBounds_toArray, List.set_cons_zero, List.set_cons_succ])
              clear k2
              refine wpAnyH_ready (rs := [5]) (by kernel_rfl) (by simp) (AllReadyH.cons rfl (fun K hK => ?_) AllReadyH.nil)
              rw [if_pos (by rfl)]
              go_simp
              have hb8 : Below w7.heap.size w7 (w7.alloc (.cells #[.int .i64 (y : Nat)] 3)) := (Below.refl _ _).alloc (Nat.le_refl _) _
              have hr9 := (hb8.block g8 (by omega)).trans hr7
              have hrow9 := (hb8.block w.heap.size (by omega)).trans hrow7
              have hbw9 := hbw7.trans (hb8.mono hbw7.size)
              have hT9 := hT7.below hb8
              have hsz9 : w6.heap.size ≤ (w7.alloc (.cells #[.int .i64 (y : Nat)] 3)).heap.size := Nat.le_trans hsz7 hb8.size
              have hown9 := hown7.alloc (.cells #[.int .i64 (y : Nat)] 3)
              refine hK.out _ _ trivial (fun hHeld => ?_)
              clear hK K
              (try simp only [Act.put, List.setIfInBounds_toArray, List.set_cons_zero, List.set_cons_succ])
              refine wpAnyH_ready (rs := [6]) (by kernel_rfl) (by simp) (AllReadyH.cons rfl (fun K hK => ?_) AllReadyH.nil)
              rw [if_pos (by rfl)]
              refine wp_app (.tmp 50) (.tmp 54) _ rfl elI rfl hown9 (some ⟨w7.heap.size, 0, none⟩) 1 1 rfl [intV (y : Nat)] (Sees.of_alloc _ _ _ rfl) (by simp) (by simp [intV, Value.oneCell']) (n + 1) rfl ((vs ++ [(y : Int)]).map intV) (by simp) (by unfold maxLen; omega) (by omega) hsz9 ?_
              intro Ax cx wx hownx hgrx hatx hbx
              have hrx := (hbx.block g8 (by omega)).trans hr9
              have hrowx := (hbx.block w.heap.size (by omega)).trans hrow9
              have hbwx := hbw9.trans (hbx.mono (by omega))
              have hszx : w6.heap.size ≤ wx.heap.size := Nat.le_trans hsz9 hbx.size
              have hTx := hT9.far hgl6 hbx
              clear hgrx hatx
              refine hK.out _ _ trivial (fun hHeld => ?_)
              clear hK K
              (try simp only [Act.put, List.setIfInBounds_toArray])
              refine wpAnyH_takeD (i := 7) (d := some 56) (v := ?v607) rfl rfl (by kernel_rfl) (by kernel_rfl) (by kernel_rfl) (fun _ _ _ h => h) (Or.inl ⟨by rfl, ?hy607⟩) hHeld ?rest607
              case hy607 =>
                intro wS hS
                go_simp
                all_goals with_reducible rfl
              (try simp only [Act.put])
              refine wpAnyH_ready (rs := [8]) (by kernel_rfl) (by simp) (AllReadyH.cons rfl (fun K hK => ?_) AllReadyH.nil)
              rw [if_pos (by rfl)]
              have k2 : wx.cell? ⟨g8, 2, none⟩ = some (.slice An n cn) := by rw [cell_of_row _ _ _ _ _ _ hrx]; rfl
              have f2 : wx.frozen? ⟨g8, 2, none⟩ = false := frozen_of_row _ _ _ _ _ hrx
              have hry : (wx.setCell ⟨g8, 2, none⟩ (.slice Ax (n + 1) cx)).heap[g8]? = some (.cells #[.int .i64 (x1 : Nat), .int .u32 (x2 : Nat), .slice Ax (n + 1) cx] 33 (0, 0)) := heap_setCell_same _ g8 2 _ _ (.slice Ax (n + 1) cx) hrx
              have hrowy := (heap_setCell_other wx ⟨g8, 2, none⟩ w.heap.size (.slice Ax (n + 1) cx) (by show w.heap.size ≠ g8; omega)).trans hrowx
              have hbwy := hbwx.setCell (p := ⟨g8, 2, none⟩) (by show w.heap.size ≤ g8; omega) (.slice Ax (n + 1) cx)
              have hTy := hTx.setTyped (by omega : g ≠ g8) hrx (fun j z h => by have := Array.mem_of_getElem? h; simp at this) 2 (.slice Ax (n + 1) cx)
              have howny := ownsRow_setCell_below hownx (a := ⟨g8, 2, none⟩) (by show g8 < w6.heap.size; omega) (.slice Ax (n + 1) cx)
              have hszy : w6.heap.size ≤ (wx.setCell ⟨g8, 2, none⟩ (.slice Ax (n + 1) cx)).heap.size := Nat.le_trans hszx (by simp [World.setCell])
              clear hr7 hrow7 hbw7 hT7 hown7 hsz7 hr8 hrow8 hbw8 hT8 hown8 hsz8 hr9 hrow9 hbw9 hT9 hown9 hsz9 hrx hrowx hbwx hTx hownx hszx hbx
              go_simp
              refine hK.out _ _ trivial (fun hHeld => ?_)
              clear hK K
              (try simp only [Act.put, List.setIfInBounds_toArray, List.set_cons_zero, List.set_cons_succ])
              refine wpAnyH_done (by kernel_rfl) ?_ _
              go_wp2_with fail
              go_roundw
              case rel => exact ⟨n + 1, e', p', Ax, cx, vs ++ [(y : Int)], by omega, by go_num, HNEW.out, hTy, hry, howny, hrowy, hbwy, hszy⟩
              case measure => simp [intOf]; omega
            · rw [if_pos (by rfl)]
              go_simp
              have hb8 : Below w7.heap.size w7 (w7.alloc (.cells #[.int .i64 (y : Nat)] 3)) := (Below.refl _ _).alloc (Nat.le_refl _) _
              have hr9 := (hb8.block g8 (by omega)).trans hr7
              have hrow9 := (hb8.block w.heap.size (by omega)).trans hrow7
              have hbw9 := hbw7.trans (hb8.mono hbw7.size)
              have hT9 := hT7.below hb8
              have hsz9 : w6.heap.size ≤ (w7.alloc (.cells #[.int .i64 (y : Nat)] 3)).heap.size := Nat.le_trans hsz7 hb8.size
              have hown9 := hown7.alloc (.cells #[.int .i64 (y : Nat)] 3)
              refine hK.out _ _ trivial (fun hHeld => ?_)
              clear hK K
              (try simp only [Act.put, List.setIfInBounds_toArray, List.set_cons_zero, List.set_cons_succ])
              refine wpAnyH_ready (rs := [1]) (by kernel_rfl) (by simp) (AllReadyH.cons rfl (fun K hK => ?_) AllReadyH.nil)
              rw [if_pos (by rfl)]
              have k2 : (w7.alloc (.cells #[.int .i64 (y : Nat)] 3)).cell? ⟨g8, 2, none⟩ = some (.slice An n cn) := by rw [cell_of_row _ _ _ _ _ _ hr9]; rfl
              go_simp
              refine hK.out _ _ trivial (fun hHeld => ?_)
              clear hK K
              (try simp only [Act.put, List.setIfInBounds_toArray, List.set_cons_zero, List.set_cons_succ])
              clear k2
              refine wpAnyH_ready (rs := [6]) (by kernel_rfl) (by simp) (AllReadyH.cons rfl (fun K hK => ?_) AllReadyH.nil)
              rw [if_pos (by rfl)]
              refine wp_app (.tmp 50) (.tmp 54) _ rfl elI rfl hown9 (some ⟨w7.heap.size, 0, none⟩) 1 1 rfl [intV (y : Nat)] (Sees.of_alloc _ _ _ rfl) (by simp) (by simp [intV, Value.oneCell']) (n + 1) rfl ((vs ++ [(y : Int)]).map intV) (by simp) (by unfold maxLen; omega) (by omega) hsz9 ?_
              intro Ax cx wx hownx hgrx hatx hbx
              have hrx := (hbx.block g8 (by omega)).trans hr9
              have hrowx := (hbx.block w.heap.size (by omega)).trans hrow9
              have hbwx := hbw9.trans (hbx.mono (by omega))
              have hszx : w6.heap.size ≤ wx.heap.size := Nat.le_trans hsz9 hbx.size
              have hTx := hT9.far hgl6 hbx
              clear hgrx hatx
              refine hK.out _ _ trivial (fun hHeld => ?_)
              clear hK K
              (try simp only [Act.put, List.setIfInBounds_toArray])
              refine wpAnyH_takeD (i := 7) (d := some 56) (v := ?v707) rfl rfl (by kernel_rfl) (by kernel_rfl) (by kernel_rfl) (fun _ _ _ h => h) (Or.inl ⟨by rfl, ?hy707⟩) hHeld ?rest707
              case hy707 =>
                intro wS hS
                go_simp
                all_goals with_reducible rfl
              (try simp only [Act.put])
              refine wpAnyH_ready (rs := [8]) (by kernel_rfl) (by simp) (AllReadyH.cons rfl (fun K hK => ?_) AllReadyH.nil)
              rw [if_pos (by rfl)]
              have k2 : wx.cell? ⟨g8, 2, none⟩ = some (.slice An n cn) := by rw [cell_of_row _ _ _ _ _ _ hrx]; rfl
              have f2 : wx.frozen? ⟨g8, 2, none⟩ = false := frozen_of_row _ _ _ _ _ hrx
              have hry : (wx.setCell ⟨g8, 2, none⟩ (.slice Ax (n + 1) cx)).heap[g8]? = some (.cells #[.int .i64 (x1 : Nat), .int .u32 (x2 : Nat), .slice Ax (n + 1) cx] 33 (0, 0)) := heap_setCell_same _ g8 2 _ _ (.slice Ax (n + 1) cx) hrx
              have hrowy := (heap_setCell_other wx ⟨g8, 2, none⟩ w.heap.size (.slice Ax (n + 1) cx) (by show w.heap.size ≠ g8; omega)).trans hrowx
              have hbwy := hbwx.setCell (p := ⟨g8, 2, none⟩) (by show w.heap.size ≤ g8; omega) (.slice Ax (n + 1) cx)
              have hTy := hTx.setTyped (by omega : g ≠ g8) hrx (fun j z h => by have := Array.mem_of_getElem? h; simp at this) 2 (.slice Ax (n + 1) cx)
              have howny := ownsRow_setCell_below hownx (a := ⟨g8, 2, none⟩) (by show g8 < w6.heap.size; omega) (.slice Ax (n + 1) cx)
              have hszy : w6.heap.size ≤ (wx.setCell ⟨g8, 2, none⟩ (.slice Ax (n + 1) cx)).heap.size := Nat.le_trans hszx (by simp [World.setCell])
              clear hr7 hrow7 hbw7 hT7 hown7 hsz7 hr8 hrow8 hbw8 hT8 hown8 hsz8 hr9 hrow9 hbw9 hT9 hown9 hsz9 hrx hrowx hbwx hTx hownx hszx hbx
              go_simp
              refine hK.out _ _ trivial (fun hHeld => ?_)
              clear hK K
              (try simp only [Act.put, List.setIfInBounds_toArray, List.set_cons_zero, List.set_cons_succ])
              refine wpAnyH_done (by kernel_rfl) ?_ _
              go_wp2_with fail
              go_roundw
              case rel => exact ⟨n + 1, e', p', Ax, cx, vs ++ [(y : Int)], by omega, by go_num, HNEW.out, hTy, hry, howny, hrowy, hbwy, hszy⟩
              case measure => simp [intOf]; omega
      · obtain rfl : n = N := by omega
        have d2 : decide ((n : Int) < (n : Int)) = false := decide_eq_false (by omega)
        have d2' : decide (n < n) = false := decide_eq_false hlt
        obtain ⟨q, hq⟩ : ∃ q, q = 14 + 5 * n := ⟨_, rfl⟩
        rw [← hq] at hT hfit
        have hvl := plcT_len l n
        obtain ⟨vs, hvs⟩ : ∃ vs, vs = plcT l n := ⟨_, rfl⟩
        rw [← hvs] at hown hvl
        have hRt := fun W (h : SeesI W An vs) => right_is (x1 : Nat) (x2 : Nat) An cn vs W h (by omega) (rightB (x1 : Nat) vs) rfl
        rw [hvl] at hRt
        have hS1 := HR.out
        rw [← hvs, ← hq, show 18 + 5 * n = q + 4 by omega] at hS1
        have HR := hid hS1
        have HRT := hid hRt
        have HVL := hid hvl
        have hsr := sumI_range (l.take q)
        obtain ⟨S, hS⟩ := Int.eq_ofNat_of_zero_le hsr.1
        have hst2 : (l.take q).length = q := by rw [List.length_take]; omega
        have hsum := fun W (ht : Tab W t) (hl : SeesB W (some a) (l.take q)) => sum_any t (some a) c (l.take q) W ht hl (by omega)
        rw [hst2, hS] at hsum
        rw [hS] at hsr
        have hS4 : S < 4294967296 := by omega
        have HSUM := hid hsum
        have HS := hid hS
        clear hS1 hRt hvl hvs hsum hS hst2 hsr hq
        have hTk := hT.tk
        have g1 : (q : Int) ≤ c := by omega
        have g2 : (0 : Int) ≤ q := by omega
        go_wp2_with fail
        refine (tat_tk g 0 _ l _ hTk).mono ?_
        rintro e wq ⟨rfl, rfl⟩
        by_cases hf : q + 4 ≤ l.length
        · have hu := takerU_any g 0 q 4 l wr hTk hlen
          rw [show takeU (0, q) l 4 = ((0, q + 4), (l.drop q).take 4) from takeUt_at q 4 l hf (by omega)] at hu
          unfold UPost at hu
          rw [show valLE ((l.drop q).take 4) = fldT l q 4 from rfl] at hu
          have v5 : fldT l q 4 < 4294967296 := fldT_lt l q 4
          obtain ⟨su, hsu⟩ : ∃ y, y = fldT l q 4 := ⟨_, rfl⟩
          rw [← hsu] at v5 hu
          have HSU := hid hsu
          have HU := hid hu
          clear hu hsu
          go_wp2_with fail
          refine HU.out.mono ?_
          rintro e wq ⟨rfl, hTq, hBq⟩
          have hbwq := But.below hbw hBq (fun b h => by have h2 : b = g := h; omega) hbw.size
          have hrowq := (hBq.block w.heap.size (by omega) (fun h => by have h2 : w.heap.size = g := h; omega)).trans hrow
          have hrq := (hBq.block g8 (by omega) (fun h => by have h2 : g8 = g := h; omega)).trans hr
          have hownq := own_but hown hBq (fun k hk hR => by have h2 : k = g := hR; have := own_base hown hk; omega)
          have hltq : g8 < wq.heap.size := Nat.lt_of_lt_of_le (by omega) hBq.size
          have htq := ht.keep hbwq ht.lt
          have hlq := hl.below hbwq
          have hsq : SeesB wq (some a) (l.take q) := by unfold SeesB; rw [List.map_take]; exact Sees.take hlq q
          clear hT hTk hr hown hrow hbw hsz hBq HU
          go_wp2_with fail
          refine (terr_tk g 0 _ l _ hTq).mono ?_
          rintro e wz ⟨rfl, rfl⟩
          go_wp2_with fail
          refine (HSUM.out _ htq hsq).mono ?_
          rintro e wz ⟨rfl, rfl⟩
          by_cases heq : S = su
          · have dd : ((su : Int) != (S : Int)) = false := by rw [heq]; simp
            have dd2 : ((su : Int) != IntKind.u64.wrap (S : Int)) = false := by rw [show IntKind.u64.wrap (S : Int) = (S : Int) by rw [IntKind.wrap_u64]; omega]; exact dd
            have HEQ := hid heq
            clear heq
            go_wp2_with first | (refine wpList_load_row rfl 33 (.tmp 8) rfl g8 rfl 33 #[.int .i64 (x1 : Nat), .int .u32 (x2 : Nat), .slice An n cn] (0, 0) _ hrq Tryz.underlying33 rfl (by kernel_rfl) ?_)
            refine (HRT.out _ (own_sees hownq)).mono ?_
            rintro e w9 ⟨rfl, hx⟩
            have hrow9 := (hx.block w.heap.size (by omega)).trans hrowq
            have hr9 := (hx.block g8 hltq).trans hrq
            have hbw9 := hbwq.trans (hx.mono hbwq.size)
            have hs9 : SeesI w9 An vs := SeesI.below (own_sees hownq) hx
            have hA9 : ∀ a, An = some a → w6.heap.size ≤ a.block := fun a ha => (own_addr hownq ha).1
            obtain ⟨hn1, hn2⟩ := own_cap hownq
            have hT9 := hTq.below hx
            have hlt9 := Nat.lt_of_lt_of_le hltq hx.size
            clear hx hrowq hrq hbwq hownq hTq htq hlq hsq HRT
            obtain ⟨rb, hrb⟩ : ∃ b, rightB (x1 : Nat) vs = b := ⟨_, rfl⟩
            rw [hrb]
            cases rb with
            | false =>
              obtain rfl : R = (60, 0, 0, 0, []) := by
                rw [HR.out, if_neg (by omega), if_neg (by rw [HS.out, HEQ.out, HSU.out]; simp), if_pos hrb]
              clear HR hrb
              go_wp2_with first | (refine wpList_store_row rfl 33 (.tmp 4) (.tmp 82) rfl rfl w.heap.size rfl #[.int .i64 0, .int .u32 0, .slice none 0 0] rfl 33 #[.int .i64 0, .int .u32 0, .slice none 0 0] hrow9 (by kernel_rfl) rfl (by simp [Value.oneCell']) ?_)
              exact bodyPost_ret (v := .tuple #[.agg #[.int .i64 0, .int .u32 0, .slice none 0 0], .int .i64 0, .int .i64 60]) (results_row_tmp2 (fn := Tryz.f33) (p := 4) (u := 5) (x := 6) (ty := 33) rfl _ _ w.heap.size _ _ _ _ rfl (setRow_heap _ _ _ _ _ _ hrow9) Tryz.underlying33 rfl (by kernel_rfl)) rfl ⟨none, 0, rfl, Sees.nil _ _, Nat.le_refl _, Nat.zero_le _, below_setRow hbw9 (Nat.le_refl _) _, fun a ha => by cases ha⟩
            | true =>
              obtain rfl : R = ((0 : Int), ((q + 4 : Nat) : Int), ((x1 : Nat) : Int), ((x2 : Nat) : Int), vs) := by
                rw [HR.out, if_neg (by omega), if_neg (by rw [HS.out, HEQ.out, HSU.out]; simp), if_neg (by rw [hrb]; simp)]
              clear HR hrb
              have hr10 : w9.drew.heap[g8]? = some (.cells #[.int .i64 (x1 : Nat), .int .u32 (x2 : Nat), .slice An n cn] 33 (0, 0)) := hr9
              have hrow10 : w9.drew.heap[w.heap.size]? = some (.cells #[.int .i64 0, .int .u32 0, .slice none 0 0] 33 (0, 0)) := hrow9
              have hbw10 : Below w.heap.size w w9.drew := hbw9.drew
              have hT10 : Tk w9.drew g 0 (q + 4) l := hT9
              have hrow11 := setRow_heap w9.drew w.heap.size _ #[.int .i64 (x1 : Nat), .int .u32 (x2 : Nat), .slice An n cn] _ _ hrow10
              have hr11 := (setRow_other w9.drew w.heap.size g8 #[.int .i64 (x1 : Nat), .int .u32 (x2 : Nat), .slice An n cn] (by omega)).trans hr10
              have hbw11 := below_setRow hbw10 (Nat.le_refl _) #[.int .i64 (x1 : Nat), .int .u32 (x2 : Nat), .slice An n cn]
              have hs11 : SeesI (w9.drew.setRow w.heap.size #[.int .i64 (x1 : Nat), .int .u32 (x2 : Nat), .slice An n cn]) An vs := Sees.setRowFar (show Sees w9.drew An (vs.map intV) from hs9) w.heap.size #[.int .i64 (x1 : Nat), .int .u32 (x2 : Nat), .slice An n cn] (fun a ha => by have := hA9 a ha; omega)
              go_wp2_with fail
              refine wp_region_held_drew (S := fun w' => w'.heap[g8]? = some (.cells #[.int .i64 (x1 : Nat), .int .u32 (x2 : Nat), .slice An n cn] 33 (0, 0))) (by kernel_rfl) hr10 (fun hHeld => ?_)
              refine wpAnyH_takeD (i := 0) (d := some 83) (v := (.agg #[.int .i64 (x1 : Nat), .int .u32 (x2 : Nat), .slice An n cn])) rfl rfl (by kernel_rfl) (by kernel_rfl) (by kernel_rfl) (fun _ _ _ h => h) (Or.inl ⟨by rfl, ?hy800⟩) hHeld ?rest800
              case hy800 =>
                intro wS hS
                exact run_load_rowop 33 (.tmp 8) rfl g8 (by rfl) #[.int .i64 (x1 : Nat), .int .u32 (x2 : Nat), .slice An n cn] _ _ hS _ Tryz.underlying33 rfl (by kernel_rfl)
              (try simp only [Act.put, List.setIfInBounds_toArray, List.set_cons_zero, List.set_cons_succ])
              refine wpAnyH_takeD (i := 1) (d := some 84) (v := ?v901) rfl rfl (by kernel_rfl) (by kernel_rfl) (by kernel_rfl) (fun _ _ _ h => h) (Or.inl ⟨by rfl, ?hy901⟩) hHeld ?rest901
              case hy901 =>
                intro wS hS
                go_simp
                all_goals with_reducible rfl
              (try simp only [Act.put, List.setIfInBounds_toArray, List.set_cons_zero, List.set_cons_succ])
              refine wpAnyH_ready (rs := [2]) (by kernel_rfl) (by simp) (AllReadyH.cons rfl (fun K hK => ?_) AllReadyH.nil)
              rw [if_pos (by rfl)]
              go_simp
              refine (tat_tk g 0 _ l _ hT10).mono ?_
              rintro e wz ⟨rfl, rfl⟩
              go_wp2_with fail
              refine hK.out _ _ hr10 (fun hHeld => ?_)
              clear hK K
              (try simp only [Act.put, List.setIfInBounds_toArray, List.set_cons_zero, List.set_cons_succ])
              refine wpAnyH_ready (rs := [3]) (by kernel_rfl) (by simp) (AllReadyH.cons rfl (fun K hK => ?_) AllReadyH.nil)
              rw [if_pos (by rfl)]
              refine wp_store_row 33 (.tmp 4) (.tmp 83) rfl rfl w.heap.size rfl #[.int .i64 (x1 : Nat), .int .u32 (x2 : Nat), .slice An n cn] rfl 33 #[.int .i64 0, .int .u32 0, .slice none 0 0] hrow10 (by kernel_rfl) rfl (by simp [Value.oneCell']) ?_
              refine hK.out _ _ hr11 (fun hHeld => ?_)
              clear hK K
              (try simp only [Act.put, List.setIfInBounds_toArray, List.set_cons_zero, List.set_cons_succ])
              refine wpAnyH_takeD (i := 4) (d := some 5) (v := ?v1004) rfl rfl (by kernel_rfl) (by kernel_rfl) (by kernel_rfl) (fun _ _ _ h => h) (Or.inl ⟨by rfl, ?hy1004⟩) hHeld ?rest1004
              case hy1004 =>
                intro wS hS
                go_simp
                all_goals with_reducible rfl
              (try simp only [Act.put, List.setIfInBounds_toArray, List.set_cons_zero, List.set_cons_succ])
              refine wpAnyH_takeD (i := 5) (d := some 6) (v := ?v1105) rfl rfl (by kernel_rfl) (by kernel_rfl) (by kernel_rfl) (fun _ _ _ h => h) (Or.inl ⟨by rfl, ?hy1105⟩) hHeld ?rest1105
              case hy1105 =>
                intro wS hS
                go_simp
                all_goals with_reducible rfl
              (try simp only [Act.put, List.setIfInBounds_toArray, List.set_cons_zero, List.set_cons_succ])
              refine wpAnyH_done (by kernel_rfl) ?_ _
              go_wp2_with fail
              exact bodyPost_ret (v := .tuple #[.agg #[.int .i64 (x1 : Nat), .int .u32 (x2 : Nat), .slice An n cn], .int .i64 ((q + 4 : Nat) : Int), .int .i64 0]) (results_row_tmp2 (fn := Tryz.f33) (p := 4) (u := 5) (x := 6) (ty := 33) rfl _ _ w.heap.size _ _ _ _ rfl hrow11 Tryz.underlying33 rfl (by kernel_rfl)) rfl ⟨An, cn, by rw [HVL.out], hs11, by rw [HVL.out]; exact hn1, hn2, hbw11, fun a ha => by have := hA9 a ha; omega⟩
          · have dd : ((su : Int) != (S : Int)) = true := by simp; omega
            have dd2 : ((su : Int) != IntKind.u64.wrap (S : Int)) = true := by rw [show IntKind.u64.wrap (S : Int) = (S : Int) by rw [IntKind.wrap_u64]; omega]; exact dd
            obtain rfl : R = (33, 0, 0, 0, []) := by
              rw [HR.out, if_neg (by omega), if_pos (by rw [HS.out, ← HSU.out]; omega)]
            clear HR heq
            go_wp2_with first | (refine wpList_store_row rfl 33 (.tmp 4) (.tmp 77) rfl rfl w.heap.size rfl #[.int .i64 0, .int .u32 0, .slice none 0 0] rfl 33 #[.int .i64 0, .int .u32 0, .slice none 0 0] hrowq (by kernel_rfl) rfl (by simp [Value.oneCell']) ?_)
            exact bodyPost_ret (v := .tuple #[.agg #[.int .i64 0, .int .u32 0, .slice none 0 0], .int .i64 0, .int .i64 33]) (results_row_tmp2 (fn := Tryz.f33) (p := 4) (u := 5) (x := 6) (ty := 33) rfl _ _ w.heap.size _ _ _ _ rfl (setRow_heap _ _ _ _ _ _ hrowq) Tryz.underlying33 rfl (by kernel_rfl)) rfl ⟨none, 0, rfl, Sees.nil _ _, Nat.le_refl _, Nat.zero_le _, below_setRow hbwq (Nat.le_refl _) _, fun a ha => by cases ha⟩
        · obtain rfl : R = (10, 0, 0, 0, []) := by rw [HR.out, if_pos (by omega)]
          have hu := takerU_any g 0 q 4 l wr hTk hlen
          rw [show takeU (0, q) l 4 = ((10, q), []) from takeU_end q 4 l (by omega) (by omega)] at hu
          have HU := hid hu
          clear hu
          go_wp2_with fail
          refine HU.out.mono ?_
          rintro e wq ⟨rfl, hTq, hBq⟩
          have hbwq := But.below hbw hBq (fun b h => by have h2 : b = g := h; omega) hbw.size
          have hrowq := (hBq.block w.heap.size (by omega) (fun h => by have h2 : w.heap.size = g := h; omega)).trans hrow
          clear hBq hT hTk hbw hrow hr hown
          go_wp2_with fail
          refine (terr_tk g 10 _ l _ hTq).mono ?_
          rintro e wz ⟨rfl, rfl⟩
          go_wp2_with fail
          refine (terr_tk g 10 _ l _ hTq).mono ?_
          rintro e wz ⟨rfl, rfl⟩
          go_wp2_with first | (refine wpList_store_row rfl 33 (.tmp 4) (.tmp 65) rfl rfl w.heap.size rfl #[.int .i64 0, .int .u32 0, .slice none 0 0] rfl 33 #[.int .i64 0, .int .u32 0, .slice none 0 0] hrowq (by kernel_rfl) rfl (by simp [Value.oneCell']) ?_)
          exact bodyPost_ret (v := .tuple #[.agg #[.int .i64 0, .int .u32 0, .slice none 0 0], .int .i64 0, .int .i64 10]) (results_row_tmp2 (fn := Tryz.f33) (p := 4) (u := 5) (x := 6) (ty := 33) rfl _ _ w.heap.size _ _ _ _ rfl (setRow_heap _ _ _ _ _ _ hrowq) Tryz.underlying33 rfl (by kernel_rfl)) rfl ⟨none, 0, rfl, Sees.nil _ _, Nat.le_refl _, Nat.zero_le _, below_setRow hbwq (Nat.le_refl _) _, fun a ha => by cases ha⟩
end Go.Proofs.YtkmhmehofipehaaGreatDoor
