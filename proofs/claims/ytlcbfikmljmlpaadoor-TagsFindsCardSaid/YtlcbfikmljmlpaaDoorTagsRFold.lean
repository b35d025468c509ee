/- Small letters: the reference's. -/
import Derived.Test.YtlcbfikmljmlpaaDoorTagsFold
import Derived.Test.YtlcbfikmljmlpaaDoorApp
namespace Go.Proofs.YtlcbfikmljmlpaaDoor
set_option linter.unusedVariables false
open Go.RowKit
def fillTo (l : List UInt8) (k : Nat) : List Value := (l.take k).map (fun b => byteV (foldB b)) ++ List.replicate (l.length - k) (.int .u8 0)
theorem fillTo_length (l : List UInt8) (k : Nat) (h : k ≤ l.length) : (fillTo l k).length = l.length := by unfold fillTo; simp; omega
theorem fillTo_set (l : List UInt8) (k : Nat) (h : k < l.length) : (fillTo l k).set k (byteV (foldB l[k])) = fillTo l (k + 1) := by
  unfold fillTo
  rw [List.set_append_right _ _ (by simp; omega)]
  have e : k - (List.map (fun b => byteV (foldB b)) (List.take k l)).length = 0 := by simp; omega
  obtain ⟨m, hm⟩ : ∃ m, l.length - k = m + 1 := ⟨l.length - k - 1, by omega⟩
  rw [e, hm, show l.length - (k + 1) = m by omega, List.replicate_succ, List.set_cons_zero, List.take_succ_eq_append_getElem h, List.map_append, List.append_assoc]
  rfl
theorem fillTo_all (l : List UInt8) : fillTo l l.length = (l.map foldB).map byteV := by unfold fillTo; simp
set_option maxRecDepth 20000 in
set_option maxHeartbeats 1000000 in
theorem rfold_any (s : ByteArray) (w : World) (hs : s.size ≤ 140737488355328) :
    Calls Tryd.prog 22 #[.string s] w fun e w' => e = .returned (.string (foldS s)) ∧ Below w.heap.size w w' := by
  have hmk := mk_bytes s.size (by omega) w
  have hown := mk_own s.size (by omega) w
  have hb0 : Below w.heap.size w (w.alloc (.cells (madeCells #[.int .u8 0] s.size) 5)) := (Below.refl _ _).alloc (Nat.le_refl _) _
  have hidx : ∀ (k : Nat) (h : k < s.size), ∃ h2 : k < s.data.toList.length, s[k]'h = s.data.toList[k] := fun k h => ⟨by simpa using h, by simp [ByteArray.getElem_eq_getElem_data]⟩
  have hlen : s.data.toList.length = s.size := by rw [Array.length_toList]; rfl
  unfold foldS
  generalize s.data.toList = l at *
  go_enter Tryd.func22, Tryd.ntmps22
  go_wp2_with fail
  generalize hw0 : w.alloc (.cells (madeCells #[.int .u8 0] s.size) 5) = w0 at *
  clear hw0
  go_loopw [4] (fun i wr => ∃ k : Nat, k ≤ s.size ∧ i = .int .i64 (k : Int) ∧ wr.ownsRow w.heap.size 5 1 (.slice (some ⟨w.heap.size, 0, none⟩) s.size s.size) s.size (fillTo l k) ∧ Below w.heap.size w wr) (fun i _ => s.size - (intOf i).toNat)
  case atStart => exact ⟨0, by omega, rfl, by simpa [fillTo, hlen] using hown, hb0⟩
  case round =>
    obtain ⟨k, hk, rfl, ho, hb⟩ := hrel
    by_cases hlt : k < s.size
    · have dk : decide ((k : Int) < (s.size : Int)) = true := decide_eq_true (by omega)
      have hlt' : k < s.size := by omega
      obtain ⟨h2, hix⟩ := hidx k hlt'
      have hxb := (l[k]'h2).toNat_lt
      have hset := fillTo_set l k h2
      rw [foldB_v] at hset
      have hFN := hid (show foldN (l[k]'h2).toNat = if 65 ≤ (l[k]'h2).toNat ∧ (l[k]'h2).toNat ≤ 90 then (l[k]'h2).toNat + 32 else (l[k]'h2).toNat from rfl)
      have hxn : (s[k]'hlt').toNat = (l[k]'h2).toNat := by rw [hix]
      clear hix
      generalize (l[k]'h2).toNat = x at *
      have hgc : ∀ u : Value, ∃ v, (fillTo l k)[k]? = some v := fun u => ⟨_, List.getElem?_eq_getElem (by rw [fillTo_length l k (by omega)]; omega)⟩
      obtain ⟨u0, hu0⟩ := hgc undef
      have hc := (ho.cellAt k (by omega)).trans hu0
      have hf := ho.frozenAt k
      have hst := (ho.stored k (.int .u8 (x : Int))).1
      have hb1 : Below w.heap.size w (wr.setCell ⟨w.heap.size, k, none⟩ (.int .u8 (x : Int))) := hb.setCell (Nat.le_refl _) _
      by_cases h65 : 65 ≤ x
      · have d65 : decide (65 ≤ (x : Int)) = true := decide_eq_true (by omega)
        by_cases h90 : x ≤ 90
        · have d90 : decide ((x : Int) ≤ 90) = true := decide_eq_true (by omega)
          have z : ((x : Int) + 32) % 256 = (x : Int) + 32 := by omega
          have hc2 := hst.cellAt k (by omega)
          rw [List.getElem?_set_self (by rw [fillTo_length l k (by omega)]; omega)] at hc2
          have hf2 := hst.frozenAt k
          have hst2 := (hst.stored k (.int .u8 ((x : Int) + 32))).1
          have hb2 : Below w.heap.size w ((wr.setCell ⟨w.heap.size, k, none⟩ (.int .u8 (x : Int))).setCell ⟨w.heap.size, k, none⟩ (.int .u8 ((x : Int) + 32))) := hb1.setCell (Nat.le_refl _) _
          rw [List.set_set, show (x : Int) + 32 = ((foldN x : Nat) : Int) by rw [hFN.out, if_pos ⟨h65, h90⟩]; omega, hset] at hst2
          rw [show ((foldN x : Nat) : Int) = (x : Int) + 32 by rw [hFN.out, if_pos ⟨h65, h90⟩]; omega] at hst2
          clear hst hset ho
          go_wp2_with fail
          exact ⟨⟨k + 1, by omega, by go_num, hst2, hb2⟩, by simp [intOf]; omega⟩
        · have d90 : decide ((x : Int) ≤ 90) = false := decide_eq_false (by omega)
          rw [show foldN x = x by rw [hFN.out, if_neg (by omega)]] at hset
          rw [hset] at hst
          clear hset ho
          go_wp2_with fail
          exact ⟨⟨k + 1, by omega, by go_num, hst, hb1⟩, by simp [intOf]; omega⟩
      · have d65 : decide (65 ≤ (x : Int)) = false := decide_eq_false (by omega)
        rw [show foldN x = x by rw [hFN.out, if_neg (by omega)]] at hset
        rw [hset] at hst
        clear hset ho
        go_wp2_with fail
        exact ⟨⟨k + 1, by omega, by go_num, hst, hb1⟩, by simp [intOf]; omega⟩
    · obtain rfl : k = s.size := by omega
      have dk : decide ((s.size : Int) < (s.size : Int)) = false := decide_eq_false (by omega)
      rw [show fillTo l s.size = (l.map foldB).map byteV by rw [← hlen, fillTo_all]] at ho
      have hsee : SeesB wr (some ⟨w.heap.size, 0, none⟩) (l.map foldB) := own_sees ho
      have hcv2 := conv_bs (some ⟨w.heap.size, 0, none⟩) s.size (l.map foldB) wr hsee
      rw [List.length_map, hlen] at hcv2
      clear ho hsee
      go_wp2_with fail
      go_ret
      exact ⟨rfl, hb⟩
end Go.Proofs.YtlcbfikmljmlpaaDoor
