/- Are blocks few, and short? -/
import Derived.Test.YtkmhmehofipehaaDoorFileBuildsM26
import Derived.Test.YtkmhmehofipehaaDoorFileBuildsM18
import Derived.Test.YtkmhmehofipehaaDoorFileBuildsM23
import Derived.Test.YtkmhmehofipehaaDoorFileBuildsM25
import Derived.Test.YtkmhmehofipehaaDoorFileBuildsM27
import Derived.Test.YtkmhmehofipehaaDoorFileBuildsM4
import Derived.Deep.RegionHeld3
namespace Go.Proofs.YtkmhmehofipehaaDoor
set_option linter.unusedVariables false
open Go.RowKit
/-- what Few says when it lets blocks through -/
def FewK (w : World) (l : List BlkV) (e : Ending) (w' : World) : Prop := ∃ b, e = .returned (.bool b) ∧ w = w' ∧ (b = true → l.length ≤ 12 ∧ ∀ x ∈ l, x.l.length ≤ 300)
set_option maxHeartbeats 1000000 in
theorem fewK_any (A : Option Addr) (c : Nat) (l : List BlkV) (w : World) (hl : SeesK w A l) (hc : l.length ≤ c ∧ c ≤ maxLen) :
    Calls Tryd.prog 8 #[.slice A l.length c] w (FewK w l) := by
  unfold maxLen at hc
  go_enter Tryd.func8, Tryd.ntmps8
  go_wp2_with fail
  go_loop [3] (fun i => ∃ k : Nat, k ≤ l.length ∧ k ≤ 20 ∧ i = .int .i64 k ∧ ∀ x ∈ l.take k, x.l.length ≤ 300) (fun i => l.length - (intOf i).toNat)
  case atStart => exact ⟨0, by omega, by omega, rfl, by simp⟩
  case round =>
    obtain ⟨k, hk, hk60, rfl, hall⟩ := hrel
    by_cases hlt : k < l.length
    · have d1 : decide ((k : Int) < (l.length : Int)) = true := decide_eq_true (by omega)
      have dkl : (k : Int) < (l.length : Int) := by omega
      by_cases hlt6 : k < 20
      · have d2 : decide ((k : Int) < 20) = true := decide_eq_true (by omega)
        obtain ⟨a, rfl, x1⟩ := hl.at hlt
        by_cases hs : 300 < l[k].l.length
        · have d3 : decide (300 < (l[k].l.length : Int)) = true := decide_eq_true (by omega)
          clear hall
          go_wp2_with fail
          go_ret
          exact ⟨false, rfl, rfl, fun h => by cases h⟩
        · have d3 : decide (300 < (l[k].l.length : Int)) = false := decide_eq_false (by omega)
          go_wp2_with fail
          refine ⟨⟨k + 1, hlt, hlt6, by go_num, fun x hx => ?_⟩, by simp [intOf]; omega⟩
          rw [List.take_succ_eq_append_getElem hlt, List.mem_append] at hx
          rcases hx with h | h
          · exact hall x h
          · rw [List.mem_singleton.1 h]; omega
      · have d2 : decide ((k : Int) < 20) = false := decide_eq_false (by omega)
        have d4 : decide ((l.length : Int) ≤ 12) = false := decide_eq_false (by omega)
        go_wp2_with fail
        go_ret
        exact ⟨_, rfl, rfl, fun h => by cases h⟩
    · obtain rfl : k = l.length := by omega
      have d1 : decide ((l.length : Int) < (l.length : Int)) = false := decide_eq_false (by omega)
      rw [List.take_length] at hall
      by_cases h5 : l.length ≤ 12
      · have d4 : decide ((l.length : Int) ≤ 12) = true := decide_eq_true (by omega)
        go_wp2_with fail
        go_ret
        exact ⟨_, rfl, rfl, fun h => ⟨h5, hall⟩⟩
      · have d4 : decide ((l.length : Int) ≤ 12) = false := decide_eq_false (by omega)
        go_wp2_with fail
        go_ret
        exact ⟨_, rfl, rfl, fun h => by cases h⟩
end Go.Proofs.YtkmhmehofipehaaDoor
/- Are tags few, and short? -/
namespace Go.Proofs.YtkmhmehofipehaaDoor
set_option linter.unusedVariables false
open Go.RowKit
/-- what Few says when it lets tags through -/
def FewT (w : World) (l : List TagV) (e : Ending) (w' : World) : Prop := ∃ b, e = .returned (.bool b) ∧ w = w' ∧ (b = true → l.length ≤ 70 ∧ ∀ x ∈ l, x.k.size ≤ 100 ∧ x.v.size ≤ 1500)
set_option maxHeartbeats 1000000 in
theorem fewT_any (A : Option Addr) (c : Nat) (l : List TagV) (w : World) (hl : SeesT w A l) (hc : l.length ≤ c ∧ c ≤ maxLen) :
    Calls Tryd.prog 7 #[.slice A l.length c] w (FewT w l) := by
  unfold maxLen at hc
  go_enter Tryd.func7, Tryd.ntmps7
  go_wp2_with fail
  go_loop [3] (fun i => ∃ k : Nat, k ≤ l.length ∧ k ≤ 100 ∧ i = .int .i64 k ∧ ∀ x ∈ l.take k, x.k.size ≤ 100 ∧ x.v.size ≤ 1500) (fun i => l.length - (intOf i).toNat)
  case atStart => exact ⟨0, by omega, by omega, rfl, by simp⟩
  case round =>
    obtain ⟨k, hk, hk60, rfl, hall⟩ := hrel
    by_cases hlt : k < l.length
    · have d1 : decide ((k : Int) < (l.length : Int)) = true := decide_eq_true (by omega)
      have dkl : (k : Int) < (l.length : Int) := by omega
      by_cases hlt6 : k < 100
      · have d2 : decide ((k : Int) < 100) = true := decide_eq_true (by omega)
        obtain ⟨a, rfl, x1, x2⟩ := hl.at hlt
        by_cases hs : 100 < l[k].k.size
        · have d3 : decide (100 < (l[k].k.size : Int)) = true := decide_eq_true (by omega)
          clear hall
          go_wp2_with fail
          go_ret
          exact ⟨false, rfl, rfl, fun h => by cases h⟩
        · have d3 : decide (100 < (l[k].k.size : Int)) = false := decide_eq_false (by omega)
          by_cases hv : 1500 < l[k].v.size
          · have d4 : decide (1500 < (l[k].v.size : Int)) = true := decide_eq_true (by omega)
            clear hall
            go_wp2_with fail
            go_ret
            exact ⟨false, rfl, rfl, fun h => by cases h⟩
          · have d4 : decide (1500 < (l[k].v.size : Int)) = false := decide_eq_false (by omega)
            go_wp2_with fail
            refine ⟨⟨k + 1, hlt, hlt6, by go_num, fun x hx => ?_⟩, by simp [intOf]; omega⟩
            rw [List.take_succ_eq_append_getElem hlt, List.mem_append] at hx
            rcases hx with h | h
            · exact hall x h
            · rw [List.mem_singleton.1 h]; omega
      · have d2 : decide ((k : Int) < 100) = false := decide_eq_false (by omega)
        have d4 : decide ((l.length : Int) ≤ 70) = false := decide_eq_false (by omega)
        go_wp2_with fail
        go_ret
        exact ⟨_, rfl, rfl, fun h => by cases h⟩
    · obtain rfl : k = l.length := by omega
      have d1 : decide ((l.length : Int) < (l.length : Int)) = false := decide_eq_false (by omega)
      rw [List.take_length] at hall
      by_cases h5 : l.length ≤ 70
      · have d4 : decide ((l.length : Int) ≤ 70) = true := decide_eq_true (by omega)
        go_wp2_with fail
        go_ret
        exact ⟨_, rfl, rfl, fun h => ⟨h5, hall⟩⟩
      · have d4 : decide ((l.length : Int) ≤ 70) = false := decide_eq_false (by omega)
        go_wp2_with fail
        go_ret
        exact ⟨_, rfl, rfl, fun h => by cases h⟩
end Go.Proofs.YtkmhmehofipehaaDoor
/- No tags, checked and laid. -/
namespace Go.Proofs.YtkmhmehofipehaaDoor
set_option linter.unusedVariables false
open Go.RowKit
theorem check_none (A : Option Addr) (c : Nat) (w : World) : Calls Tryd.prog 64 #[.slice A 0 c] w fun e w' => e = .returned (.tuple #[.int .i64 0, .int .i64 0]) ∧ w = w' := by
  go_enter Tryd.func64, Tryd.ntmps64
  go_wp2_with fail
  go_loop [11] (fun i => i = .int .i64 0) (fun _ => 0)
  case atStart => exact rfl
  case round =>
    obtain rfl := hrel
    go_wp2_with fail
    go_ret2
    exact ⟨rfl, rfl⟩
theorem tagput_nil0 (v : Value) (w : World) : Calls Tryd.prog 39 #[.pointer none, v] w fun e w' => e = .returned (.tuple #[.slice none 0 0, .int .i64 2]) ∧ w = w' := by
  go_enter Tryd.func39, Tryd.ntmps39
  go_wp2_with fail
  go_ret2
  exact ⟨rfl, rfl⟩
set_option maxRecDepth 20000 in
set_option maxHeartbeats 2000000 in
theorem tagput_none (g : Nat) (A : Option Addr) (c : Nat) (w : World) (ht : Tab w g) :
    Calls Tryd.prog 39 #[.pointer (some ⟨g, 0, none⟩), .slice A 0 c] w (PutPost w (sealed [84, 71, 0])) := by
  have htg := ht.lt
  go_enter Tryd.func39, Tryd.ntmps39
  go_wp2_with fail
  refine (check_none A c w).mono ?_
  rintro e w1 ⟨rfl, rfl⟩
  have hm := mk_new w
  have hb2 : Below w.heap.size w (w.alloc (.cells #[.int .i64 0, .slice none 0 0] 106)) := (Below.refl _ w).alloc (Nat.le_refl _) _
  have hsz2 : (w.alloc (.cells #[.int .i64 0, .slice none 0 0] 106)).heap.size = w.heap.size + 1 := by simp
  go_wp2_with fail
  generalize w.alloc (.cells #[.int .i64 0, .slice none 0 0] 106) = w2 at *
  have hb3 : Below w2.heap.size w2 (w2.alloc (.cells #[.int .u8 84, .int .u8 71, .int .u8 0] 5)) := (Below.refl _ w2).alloc (Nat.le_refl _) _
  have hs3 : SeesB (w2.alloc (.cells #[.int .u8 84, .int .u8 71, .int .u8 0] 5)) (some ⟨w.heap.size + 1, 0, none⟩) [84, 71, 0] := by
    rw [← hsz2]
    exact Sees.of_block (heap_alloc_new w2 _) rfl
  have hm3 := hm.below hb3
  have hbw3 := hb2.trans (hb3.mono hb2.size)
  clear hm hb3
  generalize w2.alloc (.cells #[.int .u8 84, .int .u8 71, .int .u8 0] 5) = w3 at *
  refine (raw_any w.heap.size _ 0 [] _ 3 [84, 71, 0] w3 hm3 hs3 (by decide)).mono ?_
  rintro e w4 ⟨rfl, R4, hm4, hB4, hR4⟩
  rw [show putRaw (0, []) [84, 71, 0] = (0, [84, 71, 0]) from rfl] at hm4
  have hR4' : ∀ b, R4 b → w.heap.size ≤ b := fun b h => by
    rcases hR4 b h with h | h
    · exact Nat.le_of_eq h.symm
    · have := hm3.lt; omega
  have hbw4 := But.below hbw3 hB4 (fun n h => by omega) hbw3.size
  clear hm3 hs3 hB4 hR4 hbw3 hb2 hsz2
  go_wp2_with fail
  go_loop [33] (fun i => i = .int .i64 0) (fun _ => 0)
  case atStart => exact rfl
  case round =>
    obtain rfl := hrel
    go_wp2_with fail
    refine (bytes_ok w.heap.size R4 [84, 71, 0] w4 hm4 (by decide)).mono ?_
    rintro e w8 ⟨v, rfl, hv⟩
    obtain ⟨A8, c8, rfl, hs8, hA8, ho8, hb8⟩ := hv.parts
    have hbw8 := hbw4.trans (hb8.mono hbw4.size)
    have hm8 := hm4.below hb8
    have hll : ([84, 71, 0] : List UInt8).length = 3 := rfl
    generalize ([84, 71, 0] : List UInt8) = L at *
    have HL := hid hll
    clear hll
    have hsr := sumI_range L
    obtain ⟨S, hS⟩ := Int.eq_ofNat_of_zero_le hsr.1
    go_wp2_with fail
    refine (sum_any g A8 c8 L w8 (ht.keep hbw8 htg) hs8 (by rw [HL.out]; omega)).mono ?_
    rintro e w9 ⟨rfl, rfl⟩
    have hse : sealed L = L ++ bytesLE S 4 := by unfold sealed; rw [hS]; rfl
    have HSE := hid hse
    rw [hS] at hsr ⊢
    have hS4 : S < 4294967296 := by omega
    clear hse hS
    have hp : putU (0, L) S 4 = (0, L ++ bytesLE S 4) := putU_ok _ S 4 (by omega) (by omega)
    have hst := hid (makerU_any w.heap.size R4 0 L S 4 w8 hm8 (by omega) (by rw [HL.out]; omega))
    rw [hp] at hst
    clear hp hv ho8 hs8 hA8
    go_wp2_with fail
    refine hst.out.mono ?_
    rintro e wa ⟨rfl, Ra, hma, hBa, hRa⟩
    have hbwa := But.below hbw8 hBa (fun b h => hR4' b h) hbw8.size
    go_wp2_with fail
    refine (bytes_ok w.heap.size Ra _ wa hma (by rw [List.length_append, bytesLE_length, HL.out]; omega)).mono ?_
    rintro e wb ⟨v, rfl, hv⟩
    have hf : PutPost w (sealed L) (.returned (.tuple #[v, .int .i64 0])) wb := ⟨v, rfl, by rw [HSE.out]; exact hv.lower hbwa⟩
    go_wp2_with fail
    go_ret2
    exact hf
end Go.Proofs.YtkmhmehofipehaaDoor
/- A file without tags and blocks is put together; without a table none is. -/
namespace Go.Proofs.YtkmhmehofipehaaDoor
set_option linter.unusedVariables false
open Go.RowKit
theorem undrewG {B : Nat} {w w' : World} (h : Below B w.drew w') : Below B w w' := ⟨h.os, h.tape, h.output, h.size, h.block⟩
set_option maxHeartbeats 1000000 in
theorem opened_nil (k ch bi ra bl sh : Int) (v : Value) (w : World) :
    Calls Tryd.prog 18 #[.pointer none, .agg #[.int .i64 k, .int .i64 ch, .int .i64 bi, .int .i64 ra, .int .i64 bl, .int .i64 sh], v] w fun e w' => e = .returned (.tuple #[.pointer none, .int .i64 2]) ∧ Below w.heap.size w w' := by
  have hb : Below w.heap.size w (w.alloc (.cells #[.int .i64 k, .int .i64 ch, .int .i64 bi, .int .i64 ra, .int .i64 bl, .int .i64 sh] 25)) := (Below.refl _ w).alloc (Nat.le_refl _) _
  have hrow := heap_alloc_new w (.cells #[.int .i64 k, .int .i64 ch, .int .i64 bi, .int .i64 ra, .int .i64 bl, .int .i64 sh] 25)
  go_enter Tryd.func18, Tryd.ntmps18
  go_wp2_with fail
  refine (iput_nil k ch bi ra bl sh _).mono ?_
  rintro e w1 ⟨rfl, hb1⟩
  go_wp2_with fail
  go_ret2
  exact ⟨rfl, hb.trans (hb1.mono hb.size)⟩
set_option maxHeartbeats 1000000 in
theorem build_nil (k ch bi ra bl sh : Int) (v u : Value) (s : Int) (w : World) :
    Calls Tryd.prog 10 #[.pointer none, .agg #[.int .i64 k, .int .i64 ch, .int .i64 bi, .int .i64 ra, .int .i64 bl, .int .i64 sh], v, u, .int .u32 s] w fun e w' => e = .returned (.tuple #[.slice none 0 0, .int .i64 2]) ∧ Below w.heap.size w w' := by
  have hb : Below w.heap.size w (w.alloc (.cells #[.int .i64 k, .int .i64 ch, .int .i64 bi, .int .i64 ra, .int .i64 bl, .int .i64 sh] 25)) := (Below.refl _ w).alloc (Nat.le_refl _) _
  have hrow := heap_alloc_new w (.cells #[.int .i64 k, .int .i64 ch, .int .i64 bi, .int .i64 ra, .int .i64 bl, .int .i64 sh] 25)
  go_enter Tryd.func10, Tryd.ntmps10
  go_wp2_with fail
  refine (opened_nil k ch bi ra bl sh v _).mono ?_
  rintro e w1 ⟨rfl, hb1⟩
  go_wp2_with fail
  go_ret2
  exact ⟨rfl, hb.trans (hb1.mono hb.size)⟩
/-- a file on its way, as it begins -/
def Begun (w : World) (g : Nat) (k ch bi ra bl sh : Nat) (out : List UInt8) (e : Ending) (w' : World) : Prop :=
  ∃ (m : Nat) (A : Option Addr) (c : Nat), e = .returned (.tuple #[.pointer (some ⟨m, 0, none⟩), .int .i64 0]) ∧ w'.heap[m]? = some (.cells #[.pointer (some ⟨g, 0, none⟩), .int .i64 k, .int .i64 ch, .int .i64 bi, .int .i64 ra, .int .i64 bl, .int .i64 sh, .slice A out.length c, .slice none 0 0, .int .i64 0, .bool false] 70 (0, 0)) ∧
    w'.ownsRow w.heap.size 5 1 (.slice A out.length c) out.length (out.map byteV) ∧ w.heap.size ≤ m ∧ Below w.heap.size w w'
set_option maxRecDepth 20000 in
set_option maxHeartbeats 4000000 in
theorem opened_none (g : Nat) (k ch bi ra bl sh : Nat) (A0 : Option Addr) (c0 : Nat) (w : World) (ht : Tab w g) (hr : rightI k ch bi ra bl sh = true) (hk : k < 256 ∧ ch < 256 ∧ bi < 256 ∧ sh < 256 ∧ ra < 16777216 ∧ bl < 4294967296) (out : List UInt8) (ho : out = sealed (infoHead k ch bi sh ra bl) ++ sealed [84, 71, 0]) :
    Calls Tryd.prog 18 #[.pointer (some ⟨g, 0, none⟩), .agg #[.int .i64 k, .int .i64 ch, .int .i64 bi, .int .i64 ra, .int .i64 bl, .int .i64 sh], .slice A0 0 c0] w (Begun w g k ch bi ra bl sh out) := by
  obtain ⟨X, hX⟩ : ∃ X, X = sealed (infoHead k ch bi sh ra bl) := ⟨_, rfl⟩
  obtain ⟨Y, hY⟩ : ∃ Y, Y = sealed [84, 71, 0] := ⟨_, rfl⟩
  have hXl : X.length = 19 := by rw [hX]; simp [sealed, infoHead, bytesLE_length]
  have hYl : Y.length = 7 := by rw [hY]; simp [sealed, bytesLE_length]
  have hb : Below w.heap.size w (w.alloc (.cells #[.int .i64 k, .int .i64 ch, .int .i64 bi, .int .i64 ra, .int .i64 bl, .int .i64 sh] 25)) := (Below.refl _ w).alloc (Nat.le_refl _) _
  have hrow := heap_alloc_new w (.cells #[.int .i64 k, .int .i64 ch, .int .i64 bi, .int .i64 ra, .int .i64 bl, .int .i64 sh] 25)
  have P1 := hid (fun W h => iput_ok g k ch bi ra bl sh W h hr hk)
  have P2 := hid (fun W h => tagput_none g A0 c0 W h)
  rw [← hX] at P1
  rw [← hY] at P2
  have HXL := hid hXl
  have HYL := hid hYl
  rw [← hX, ← hY] at ho
  have HO := hid ho
  clear hX hY hXl hYl ho hr hk
  have ht0 := ht.keep hb ht.lt
  go_enter Tryd.func18, Tryd.ntmps18
  go_wp2_with fail
  generalize hw0 : w.alloc (.cells #[.int .i64 k, .int .i64 ch, .int .i64 bi, .int .i64 ra, .int .i64 bl, .int .i64 sh] 25) = w0 at *
  clear hw0
  have c0 : w0.cell? ⟨w.heap.size, 0, none⟩ = some (.int .i64 (k : Int)) := by rw [cell_of_row _ _ _ _ _ _ hrow]; rfl
  have c1 : w0.cell? ⟨w.heap.size, 1, none⟩ = some (.int .i64 (ch : Int)) := by rw [cell_of_row _ _ _ _ _ _ hrow]; rfl
  have c2 : w0.cell? ⟨w.heap.size, 2, none⟩ = some (.int .i64 (bi : Int)) := by rw [cell_of_row _ _ _ _ _ _ hrow]; rfl
  have c3 : w0.cell? ⟨w.heap.size, 3, none⟩ = some (.int .i64 (ra : Int)) := by rw [cell_of_row _ _ _ _ _ _ hrow]; rfl
  have c4 : w0.cell? ⟨w.heap.size, 4, none⟩ = some (.int .i64 (bl : Int)) := by rw [cell_of_row _ _ _ _ _ _ hrow]; rfl
  have c5 : w0.cell? ⟨w.heap.size, 5, none⟩ = some (.int .i64 (sh : Int)) := by rw [cell_of_row _ _ _ _ _ _ hrow]; rfl
  clear hrow
  refine (P1.out w0 ht0).mono ?_
  rintro e w1 ⟨v, rfl, hv⟩
  obtain ⟨A1, d1, rfl, hs1, hA1, ho1, hb1⟩ := hv.parts
  have hbw1 := hb.trans (hb1.mono hb.size)
  have ht1 := ht0.keep hb1 ht0.lt
  replace c0 := keep1 hb1 c0
  replace c1 := keep1 hb1 c1
  replace c2 := keep1 hb1 c2
  replace c3 := keep1 hb1 c3
  replace c4 := keep1 hb1 c4
  replace c5 := keep1 hb1 c5
  clear hb hb1 hv hA1 ho1
  go_wp2_with fail
  refine (P2.out w1 ht1).mono ?_
  rintro e w2 ⟨v, rfl, hv⟩
  obtain ⟨A2, d2, rfl, hs2, hA2, ho2, hb2⟩ := hv.parts
  have hbw2 := hbw1.trans (hb2.mono hbw1.size)
  replace hs1 := hs1.below hb2
  replace c0 := keep1 hb2 c0
  replace c1 := keep1 hb2 c1
  replace c2 := keep1 hb2 c2
  replace c3 := keep1 hb2 c3
  replace c4 := keep1 hb2 c4
  replace c5 := keep1 hb2 c5
  clear hbw1 hb2 hv hA2 ho2 ht1 ht0
  go_wp2_with fail
  have hbA : Below w2.heap.size w2 (w2.drew.alloc (.cells #[.slice A1 X.length d1, .slice A2 Y.length d2] 32)) := ((Below.refl _ w2).drew).alloc (Nat.le_refl _) _
  have h0l : 0 < X.length + Y.length := by have := HXL.out; omega
  have hll : X.length + Y.length ≤ 70368744177664 := by have := HXL.out; have := HYL.out; omega
  go_region_held3 (fun w' => w'.cell? ⟨w.heap.size, 0, none⟩ = some (.int .i64 (k : Int)) ∧ w'.cell? ⟨w.heap.size, 1, none⟩ = some (.int .i64 (ch : Int)) ∧ w'.cell? ⟨w.heap.size, 2, none⟩ = some (.int .i64 (bi : Int)) ∧ w'.cell? ⟨w.heap.size, 3, none⟩ = some (.int .i64 (ra : Int)) ∧ w'.cell? ⟨w.heap.size, 4, none⟩ = some (.int .i64 (bl : Int)) ∧ w'.cell? ⟨w.heap.size, 5, none⟩ = some (.int .i64 (sh : Int))) (first | exact ⟨c0, c1, c2, c3, c4, c5⟩ | exact ⟨f0, f1, f2, f3, f4, f5⟩ | go_keep)
    (first | (go_at_call 40; refine (concat_two w2.heap.size A1 A2 d1 d2 X Y _ ?_ ?_ ?_ h0l hll).mono ?_; exact heap_alloc_new w2.drew _; exact hs1.below hbA; exact hs2.below hbA; rintro e w3 ⟨v, rfl, hv⟩; obtain ⟨A3, d3, rfl, hs3, hA3, ho3, hb3⟩ := hv.parts; have f0 := keep1 hb3 (keep1 hbA c0); have f1 := keep1 hb3 (keep1 hbA c1); have f2 := keep1 hb3 (keep1 hbA c2); have f3 := keep1 hb3 (keep1 hbA c3); have f4 := keep1 hb3 (keep1 hbA c4); have f5 := keep1 hb3 (keep1 hbA c5)))
  have hbw3 := (hbw2.trans (hbA.mono hbw2.size)).trans (hb3.mono (Nat.le_trans hbw2.size hbA.size))
  have hfin : Begun w g k ch bi ra bl sh (X ++ Y) (.returned (.tuple #[.pointer (some ⟨w3.heap.size, 0, none⟩), .int .i64 0])) (w3.alloc (.cells #[.pointer (some ⟨g, 0, none⟩), .int .i64 k, .int .i64 ch, .int .i64 bi, .int .i64 ra, .int .i64 bl, .int .i64 sh, .slice A3 (X.length + Y.length) d3, .slice none 0 0, .int .i64 0, .bool false] 70)) := by
    rw [← List.length_append]
    exact ⟨w3.heap.size, A3, d3, rfl, heap_alloc_new _ _, (Joins.ownsRow_le ho3 (Nat.le_trans hbw2.size hbA.size)).alloc _, hbw3.size, hbw3.alloc hbw3.size _⟩
  obtain rfl : out = X ++ Y := HO.out
  clear hb3 ho3 hs3 hv hA3 c0 c1 c2 c3 c4 c5 f0 f1 f2 f3 f4 f5 hs1 hs2
  go_wp2_with fail
  go_ret2
  exact hfin
theorem own_keep {w w' : World} {base : Nat} {e : TypeId} {size : Nat} {v : Value} {n : Nat} {xs : List Value} (h : w.ownsRow base e size v n xs) (hb : Below w.heap.size w w') : w'.ownsRow base e size v n xs := by
  refine ⟨h.1, ?_⟩
  rcases h.2 with h' | ⟨g, cap, cur, hv, hbg, hg, rest⟩
  · exact .inl h'
  · exact .inr ⟨g, cap, cur, hv, hbg, (hb.block g (Array.getElem?_eq_some_iff.1 hg).1).trans hg, rest⟩
set_option maxRecDepth 20000 in
set_option maxHeartbeats 4000000 in
theorem build_none (g : Nat) (k ch bi ra bl sh s : Nat) (A0 B0 : Option Addr) (c0 d0 : Nat) (w : World) (ht : Tab w g) (hr : rightI k ch bi ra bl sh = true) (hk : k < 256 ∧ ch < 256 ∧ bi < 256 ∧ sh < 256 ∧ ra < 16777216 ∧ bl < 4294967296) (hs : s < 4294967296) (out : List UInt8) (ho : out = sealed (infoHead k ch bi sh ra bl) ++ sealed [84, 71, 0]) :
    Calls Tryd.prog 10 #[.pointer (some ⟨g, 0, none⟩), .agg #[.int .i64 k, .int .i64 ch, .int .i64 bi, .int .i64 ra, .int .i64 bl, .int .i64 sh], .slice A0 0 c0, .slice B0 0 d0, .int .u32 (s : Int)] w (PutPost w (out ++ sealed (tailHead 0 s []))) := by
  have hOl : out.length = 26 := by rw [ho]; simp [sealed, infoHead, bytesLE_length]
  have hEl : (sealed (tailHead 0 s [])).length = 18 := by simp [sealed, tailHead_len, bytesLE_length]
  have PO := hid (fun W h => opened_none g k ch bi ra bl sh A0 c0 W h hr hk out ho)
  have PT := hid (show ∀ W, Tab W g → Calls Tryd.prog 20 #[.pointer (some ⟨g, 0, none⟩), .agg #[.int .i64 0, .int .u32 (s : Int), .slice none 0 0]] W (PutPost W (sealed (tailHead 0 s []))) from fun W h => tput_ok g 0 s none 0 [] W h (Sees.nil _ _) (by decide) (by decide) (by decide) hs (fun i h => by simp at h))
  have HOL := hid hOl
  generalize sealed (tailHead 0 s []) = E at *
  have HEL := hid hEl
  have hmm : (out ++ E).map byteV = out.map byteV ++ E.map byteV := List.map_append
  have hll : out.length + E.length = (out ++ E).length := (List.length_append).symm
  have HM := hid hmm
  have HL := hid hll
  have HOE := hid (show ∀ u ∈ E.map byteV, u.oneCell' = true by simp [byteV, Value.oneCell'])
  have HEM := hid (show (E.map byteV).length = E.length by simp)
  generalize hOE : out ++ E = OE at *
  clear hOE hOl hEl ho hr hk hmm hll
  have hb : Below w.heap.size w (w.alloc (.cells #[.int .i64 k, .int .i64 ch, .int .i64 bi, .int .i64 ra, .int .i64 bl, .int .i64 sh] 25)) := (Below.refl _ w).alloc (Nat.le_refl _) _
  have hrow := heap_alloc_new w (.cells #[.int .i64 k, .int .i64 ch, .int .i64 bi, .int .i64 ra, .int .i64 bl, .int .i64 sh] 25)
  have ht0 := ht.keep hb ht.lt
  go_enter Tryd.func10, Tryd.ntmps10
  go_wp2_with fail
  generalize hw0 : w.alloc (.cells #[.int .i64 k, .int .i64 ch, .int .i64 bi, .int .i64 ra, .int .i64 bl, .int .i64 sh] 25) = w0 at *
  clear hw0 hrow
  refine (PO.out w0 ht0).mono ?_
  rintro e w1 ⟨m, A, c, rfl, hrow, hown, hm, hb1⟩
  have hbw1 := hb.trans (hb1.mono hb.size)
  have ht1 := ht0.keep hb1 ht0.lt
  have hown1 := Joins.ownsRow_le hown hb.size
  have hmw : w.heap.size ≤ m := Nat.le_trans hb.size hm
  have e7 : w1.cell? ⟨m, 7, none⟩ = some (.slice A out.length c) := by rw [cell_of_row _ _ _ _ _ _ hrow]; rfl
  have e8 : w1.cell? ⟨m, 8, none⟩ = some (.slice none 0 0) := by rw [cell_of_row _ _ _ _ _ _ hrow]; rfl
  have e9 : w1.cell? ⟨m, 9, none⟩ = some (.int .i64 0) := by rw [cell_of_row _ _ _ _ _ _ hrow]; rfl
  clear hb hb1 hown hm hrow ht0
  go_wp2_with fail
  go_loop [30] (fun i => i = .int .i64 0) (fun _ => 0)
  case atStart => exact rfl
  case round =>
    obtain rfl := hrel
    go_wp2_with fail
    go_region_held3 (fun w' => w'.cell? ⟨m, 7, none⟩ = some (.slice A out.length c) ∧ w'.cell? ⟨m, 8, none⟩ = some (.slice none 0 0) ∧ w'.cell? ⟨m, 9, none⟩ = some (.int .i64 0)) (first | exact ⟨e7, e8, e9⟩ | exact ⟨f7, f8, f9⟩ | go_keep)
      (first | (go_at_call 20; refine (PT.out _ ?_).mono ?_; exact ht1; rintro e w2 ⟨v, rfl, hv⟩; obtain ⟨A2, c2, rfl, hs2, hA2, ho2, hb2⟩ := hv.parts; have f7 := keep1 hb2 e7; have f8 := keep1 hb2 e8; have f9 := keep1 hb2 e9))
    have hb2' : Below w1.heap.size w1 w2 := undrewG hb2
    have hbw2 := hbw1.trans (hb2'.mono hbw1.size)
    have hown2 := own_keep hown1 hb2'
    clear hb2 hb2' hown1 hv ho2 hA2 e7 e8 e9 f8 f9 hbw1 ht1
    go_wp2_with (at_builtin; refine wpList_app rfl (.tmp 62) (.tmp 63) _ rfl elB rfl hown2 A2 E.length c2 rfl (E.map byteV) hs2 (by rw [HEM.out]; omega) HOE.out OE.length HL.out (OE.map byteV) HM.out.symm (by have := HL.out; have := HOL.out; have := HEL.out; unfold maxLen; omega) (by have := HL.out; have := HOL.out; have := HEL.out; omega) hbw2.size ?_; intro A3 c3 w3 hown3 hgr hat hbel)
    go_ret2
    exact ⟨_, rfl, A3, c3, rfl, hown3, hbw2.trans hbel⟩
end Go.Proofs.YtkmhmehofipehaaDoor
/- The fixed calls of the statements of layer 29. -/
namespace Go.Proofs.YtkmhmehofipehaaDoor
set_option linter.unusedVariables false
open Go.RowKit
set_option maxRecDepth 20000 in
set_option maxHeartbeats 1000000 in
theorem known_any (w : World) :
    Calls Tryd.prog 9 #[] w fun e w' => e = .returned (.bool true) ∧ Below w.heap.size w w' := by
  obtain ⟨R, hR⟩ : ∃ R, R = sealed (infoHead 1 1 8 0 1 256) ++ sealed [84, 71, 0] ++ sealed (tailHead 0 0 []) := ⟨_, rfl⟩
  have hR44 : R.length = 44 := by rw [hR]; simp [sealed, infoHead, tailHead_len, bytesLE_length]
  have HB := hid (show ∀ g W, Tab W g → Calls Tryd.prog 10 #[.pointer (some ⟨g, 0, none⟩), .agg #[.int .i64 1, .int .i64 1, .int .i64 8, .int .i64 1, .int .i64 256, .int .i64 0], .slice none 0 0, .slice none 0 0, .int .u32 0] W (PutPost W R) from fun g W h => by
    rw [hR]
    exact build_none g 1 1 8 1 256 0 0 none none 0 0 W h (by decide) (by decide) (by decide) _ rfl)
  have HR := hid hR44
  clear hR hR44
  go_enter Tryd.func9, Tryd.ntmps9
  go_wp2_with fail
  refine (make_any _).mono ?_
  rintro e w1 ⟨rfl, hb1, ht1⟩
  go_wp2_with fail
  refine (HB.out _ _ ht1).mono ?_
  rintro e w2 ⟨v, rfl, hv⟩
  obtain ⟨A, c, rfl, hs, hA, ho, hb2⟩ := hv.parts
  have hbw := hb1.trans (hb2.mono hb1.size)
  clear hv hs hA ho hb1 hb2
  rw [HR.out]
  go_wp2_with fail
  go_ret
  exact ⟨rfl, hbw⟩
end Go.Proofs.YtkmhmehofipehaaDoor
