/- No tags, checked and laid. -/
import Derived.Test.YtkmhmehofipehaaDoorPutU
namespace Go.Proofs.YtkmhmehofipehaaDoor
set_option linter.unusedVariables false
open Go.RowKit
theorem check_none (A : Option Addr) (c : Nat) (w : World) : Calls Tryd.prog 64 #[.slice A 0 c] w fun e w' => e = .returned (.tuple #[.int .i64 0, .int .i64 0]) ∧ w = w' := by
  go_enter Tryd.func64, Tryd.ntmps64
  go_wp2_with fail
  go_loop [11] (fun i => i = .int .i64 0) (fun _ => 0)
  case atStart => exact rfl
  case round =>
    obtain rfl := hrel
    go_wp2_with fail
    go_ret2
    exact ⟨rfl, rfl⟩
theorem tagput_nil (v : Value) (w : World) : Calls Tryd.prog 39 #[.pointer none, v] w fun e w' => e = .returned (.tuple #[.slice none 0 0, .int .i64 2]) ∧ w = w' := by
  go_enter Tryd.func39, Tryd.ntmps39
  go_wp2_with fail
  go_ret2
  exact ⟨rfl, rfl⟩
set_option maxRecDepth 20000 in
set_option maxHeartbeats 2000000 in
theorem tagput_none (g : Nat) (A : Option Addr) (c : Nat) (w : World) (ht : Tab w g) :
    Calls Tryd.prog 39 #[.pointer (some ⟨g, 0, none⟩), .slice A 0 c] w (PutPost w (sealed [84, 71, 0])) := by
  have htg := ht.lt
  go_enter Tryd.func39, Tryd.ntmps39
  go_wp2_with fail
  refine (check_none A c w).mono ?_
  rintro e w1 ⟨rfl, rfl⟩
  have hm := mk_new w
  have hb2 : Below w.heap.size w (w.alloc (.cells #[.int .i64 0, .slice none 0 0] 106)) := (Below.refl _ w).alloc (Nat.le_refl _) _
  have hsz2 : (w.alloc (.cells #[.int .i64 0, .slice none 0 0] 106)).heap.size = w.heap.size + 1 := by simp
  go_wp2_with fail
  generalize w.alloc (.cells #[.int .i64 0, .slice none 0 0] 106) = w2 at *
  have hb3 : Below w2.heap.size w2 (w2.alloc (.cells #[.int .u8 84, .int .u8 71, .int .u8 0] 5)) := (Below.refl _ w2).alloc (Nat.le_refl _) _
  have hs3 : SeesB (w2.alloc (.cells #[.int .u8 84, .int .u8 71, .int .u8 0] 5)) (some ⟨w.heap.size + 1, 0, none⟩) [84, 71, 0] := by
    rw [← hsz2]
    exact Sees.of_block (heap_alloc_new w2 _) rfl
  have hm3 := hm.below hb3
  have hbw3 := hb2.trans (hb3.mono hb2.size)
  clear hm hb3
  generalize w2.alloc (.cells #[.int .u8 84, .int .u8 71, .int .u8 0] 5) = w3 at *
  refine (raw_any w.heap.size _ 0 [] _ 3 [84, 71, 0] w3 hm3 hs3 (by decide)).mono ?_
  rintro e w4 ⟨rfl, R4, hm4, hB4, hR4⟩
  rw [show putRaw (0, []) [84, 71, 0] = (0, [84, 71, 0]) from rfl] at hm4
  have hR4' : ∀ b, R4 b → w.heap.size ≤ b := fun b h => by
    rcases hR4 b h with h | h
    · exact Nat.le_of_eq h.symm
    · have := hm3.lt; omega
  have hbw4 := But.below hbw3 hB4 (fun n h => by omega) hbw3.size
  clear hm3 hs3 hB4 hR4 hbw3 hb2 hsz2
  go_wp2_with fail
  go_loop [33] (fun i => i = .int .i64 0) (fun _ => 0)
  case atStart => exact rfl
  case round =>
    obtain rfl := hrel
    go_wp2_with fail
    refine (bytes_ok w.heap.size R4 [84, 71, 0] w4 hm4 (by decide)).mono ?_
    rintro e w8 ⟨v, rfl, hv⟩
    obtain ⟨A8, c8, rfl, hs8, hA8, ho8, hb8⟩ := hv.parts
    have hbw8 := hbw4.trans (hb8.mono hbw4.size)
    have hm8 := hm4.below hb8
    have hll : ([84, 71, 0] : List UInt8).length = 3 := rfl
    generalize ([84, 71, 0] : List UInt8) = L at *
    have HL := hid hll
    clear hll
    have hsr := sumI_range L
    obtain ⟨S, hS⟩ := Int.eq_ofNat_of_zero_le hsr.1
    go_wp2_with fail
    refine (sum_any g A8 c8 L w8 (ht.keep hbw8 htg) hs8 (by rw [HL.out]; omega)).mono ?_
    rintro e w9 ⟨rfl, rfl⟩
    have hse : sealed L = L ++ bytesLE S 4 := by unfold sealed; rw [hS]; rfl
    have HSE := hid hse
    rw [hS] at hsr ⊢
    have hS4 : S < 4294967296 := by omega
    clear hse hS
    have hp : putU (0, L) S 4 = (0, L ++ bytesLE S 4) := putU_ok _ S 4 (by omega) (by omega)
    have hst := hid (makerU_any w.heap.size R4 0 L S 4 w8 hm8 (by omega) (by rw [HL.out]; omega))
    rw [hp] at hst
    clear hp hv ho8 hs8 hA8
    go_wp2_with fail
    refine hst.out.mono ?_
    rintro e wa ⟨rfl, Ra, hma, hBa, hRa⟩
    have hbwa := But.below hbw8 hBa (fun b h => hR4' b h) hbw8.size
    go_wp2_with fail
    refine (bytes_ok w.heap.size Ra _ wa hma (by rw [List.length_append, bytesLE_length, HL.out]; omega)).mono ?_
    rintro e wb ⟨v, rfl, hv⟩
    have hf : PutPost w (sealed L) (.returned (.tuple #[v, .int .i64 0])) wb := ⟨v, rfl, by rw [HSE.out]; exact hv.lower hbwa⟩
    go_wp2_with fail
    go_ret2
    exact hf
end Go.Proofs.YtkmhmehofipehaaDoor
