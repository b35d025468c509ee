/- Small letters: the program's and the reference's. -/
import Derived.Test.YtlcbfikmljmlpaaDoorMakeB
namespace Go.Proofs.YtlcbfikmljmlpaaDoor
set_option linter.unusedVariables false
open Go.RowKit
def foldN (n : Nat) : Nat := if 65 ≤ n ∧ n ≤ 90 then n + 32 else n
theorem foldN_lt (n : Nat) (h : n < 256) : foldN n < 256 := by unfold foldN; split <;> omega
def foldB (b : UInt8) : UInt8 := UInt8.ofNat (foldN b.toNat)
theorem foldB_v (b : UInt8) : byteV (foldB b) = .int .u8 (foldN b.toNat : Nat) := by
  have := foldN_lt b.toNat b.toNat_lt
  unfold byteV foldB
  rw [UInt8.toNat_ofNat', Nat.mod_eq_of_lt this]
def foldS (s : ByteArray) : ByteArray := ⟨(s.data.toList.map foldB).toArray⟩
theorem foldS_size (s : ByteArray) : (foldS s).size = s.size := by
  show (s.data.toList.map foldB).toArray.size = s.data.size
  simp
theorem small_any (b : UInt8) (w : World) : Calls Tryd.prog 40 #[byteV b] w fun e w' => e = .returned (byteV (foldB b)) ∧ w = w' := by
  rw [foldB_v]
  have hb := b.toNat_lt
  unfold byteV
  generalize b.toNat = x at *
  by_cases h1 : 65 ≤ x
  · have d1 : decide (65 ≤ (x : Int)) = true := decide_eq_true (by omega)
    by_cases h2 : x ≤ 90
    · have d2 : decide ((x : Int) ≤ 90) = true := decide_eq_true (by omega)
      have e : ((foldN x : Nat) : Int) = (x : Int) + 32 := by unfold foldN; rw [if_pos ⟨h1, h2⟩]; omega
      rw [e]
      clear e
      have z : ((x : Int) + 32) % 256 = (x : Int) + 32 := by omega
      go_enter Tryd.func40, Tryd.ntmps40
      go_wp2_with fail
      go_ret
      exact ⟨rfl, rfl⟩
    · have d2 : decide ((x : Int) ≤ 90) = false := decide_eq_false (by omega)
      have e : foldN x = x := by unfold foldN; rw [if_neg (by omega)]
      rw [e]
      clear e
      go_enter Tryd.func40, Tryd.ntmps40
      go_wp2_with fail
      go_ret
      exact ⟨rfl, rfl⟩
  · have d1 : decide (65 ≤ (x : Int)) = false := decide_eq_false (by omega)
    have e : foldN x = x := by unfold foldN; rw [if_neg (by omega)]
    rw [e]
    clear e
    go_enter Tryd.func40, Tryd.ntmps40
    go_wp2_with fail
    go_ret
    exact ⟨rfl, rfl⟩
/-- the first so many bytes are small -/
def foldTo (l : List UInt8) (k : Nat) : List UInt8 := (l.take k).map foldB ++ l.drop k
theorem foldTo_length (l : List UInt8) (k : Nat) : (foldTo l k).length = l.length := by unfold foldTo; simp; omega
theorem foldTo_at (l : List UInt8) (k : Nat) (h : k < l.length) : (foldTo l k)[k]? = some l[k] := by
  unfold foldTo
  rw [List.getElem?_append_right (by simp; omega)]
  simp [h, Nat.min_eq_left (Nat.le_of_lt h)]
theorem foldTo_set (l : List UInt8) (k : Nat) (h : k < l.length) : (foldTo l k).set k (foldB l[k]) = foldTo l (k + 1) := by
  unfold foldTo
  rw [List.set_append_right _ _ (by simp; omega)]
  have e : k - (List.map foldB (List.take k l)).length = 0 := by simp; omega
  rw [e, List.drop_eq_getElem_cons h, List.set_cons_zero, List.take_succ_eq_append_getElem h, List.map_append, List.append_assoc]
  rfl
theorem foldTo_all (l : List UInt8) : foldTo l l.length = l.map foldB := by unfold foldTo; simp
set_option maxRecDepth 20000 in
set_option maxHeartbeats 1000000 in
theorem fold_any (s : ByteArray) (w : World) (hs : s.size ≤ 140737488355328) :
    Calls Tryd.prog 21 #[.string s] w fun e w' => e = .returned (.string (foldS s)) ∧ Below w.heap.size w w' := by
  obtain ⟨c, fr, w1, hcv, hb, hrow, hlen⟩ := conv_row s w
  unfold foldS
  generalize s.data.toList = l at *
  have hsl : l.length ≤ 140737488355328 := by omega
  go_enter Tryd.func21, Tryd.ntmps21
  go_wp2_with fail
  rw [← hlen] at *
  go_loopw [10] (fun i wr => ∃ k : Nat, k ≤ l.length ∧ i = .int .i64 (k : Int) ∧ RowF wr w.heap.size fr ((foldTo l k).map byteV) ∧ Below w.heap.size w wr) (fun i _ => l.length - (intOf i).toNat)
  case atStart => exact ⟨0, by omega, rfl, by simpa [foldTo] using hrow, hb⟩
  case round =>
    obtain ⟨k, hk, rfl, hr, hbr⟩ := hrel
    by_cases hlt : k < l.length
    · have dk : decide ((k : Int) < (l.length : Int)) = true := decide_eq_true (by omega)
      have hm : k < ((foldTo l k).map byteV).length := by rw [List.length_map, foldTo_length]; exact hlt
      have hc := hr.cellAt k hm
      rw [List.getElem?_map, foldTo_at l k hlt, Option.map_some] at hc
      have hf := hr.frozenAt k hm
      have hst := hr.stored k (byteV (foldB l[k]))
      rw [← List.map_set, foldTo_set l k hlt] at hst
      clear hr hm
      have hcall := small_any l[k] wr
      generalize byteV l[k] = bv at *
      obtain ⟨y, hy⟩ : ∃ y : Int, byteV (foldB l[k]) = .int .u8 y := ⟨_, rfl⟩
      rw [hy] at hst hcall
      clear hy
      go_wp2_with fail
      refine hcall.mono ?_
      rintro e w2 ⟨rfl, rfl⟩
      clear hcall
      go_wp2_with fail
      exact ⟨⟨k + 1, by omega, by go_num, hst, hbr.setCell (Nat.le_refl _) _⟩, by simp [intOf]; omega⟩
    · obtain rfl : k = l.length := by omega
      have dk : decide ((l.length : Int) < (l.length : Int)) = false := decide_eq_false (by omega)
      rw [foldTo_all] at hr
      have hcv2 := conv_bs (some ⟨w.heap.size, 0, none⟩) c (l.map foldB) wr hr.sees
      rw [List.length_map] at hcv2
      clear hcv
      go_wp2_with fail
      go_ret
      exact ⟨rfl, hbr⟩
end Go.Proofs.YtlcbfikmljmlpaaDoor
