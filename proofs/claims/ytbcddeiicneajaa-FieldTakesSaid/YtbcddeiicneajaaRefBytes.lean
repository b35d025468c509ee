/- The reference's fields: Bytes. -/
import Derived.Test.YtbcddeiicneajaaField3
namespace Go.Proofs.Ytbcddeiicneajaa
set_option linter.unusedVariables false
open Go.RowKit
theorem uint8_info : (Try.prog.info? 5).map (fun i => (i.zero, i.size, i.bytes)) = some (some (.int .u8 0), 1, 1) := by kernel_rfl
theorem make_bytes (n : Nat) (hn : n ≤ 281474976710656) (w : World) : (Instr.makeSlice 29 (.int .i64 (n : Int)) (.int .i64 (n : Int))).run Try.prog w =
    .ok (.slice (some ⟨w.heap.size, 0, none⟩) n n) (w.alloc (.cells (madeCells #[.int .u8 0] n) 5)) := by
  obtain ⟨i, h0, h1, h2, h3⟩ := info_parts uint8_info
  have hr := run_make (P := Try.prog) w 29 5 i (.int .u8 0) Try.underlying29 h0 h1 .i64 .i64 n n (by omega) (by omega) (by rw [h3]; omega) (by omega)
  simp only [Int.toNat_natCast, h2, Nat.mul_one] at hr
  exact hr
theorem own_made (n : Nat) (hn : n ≤ 281474976710656) (w : World) : (w.alloc (.cells (madeCells #[.int .u8 0] n) 5)).ownsRow w.heap.size 5 1 (.slice (some ⟨w.heap.size, 0, none⟩) n n) n (List.replicate n (.int .u8 0)) := by
  refine ⟨by simp, .inr ⟨w.heap.size, n, _, rfl, Nat.le_refl _, heap_alloc_new _ _, Nat.le_refl _, by unfold maxLen; omega, by simp [size_madeCells], ?_⟩⟩
  rw [toList_madeCells_one, Nat.mul_one, List.take_of_length_le (by simp)]
/-- what is laid as yet -/
def laidTo (v n k : Nat) : List Value := (bytesLE v k).map byteV ++ List.replicate (n - k) (.int .u8 0)
theorem laid_set (v n k : Nat) (h : k < n) : (laidTo v n k).set k (byteV (UInt8.ofNat (v / 256 ^ k % 256))) = laidTo v n (k + 1) := by
  unfold laidTo
  rw [bytesLE_snoc, List.set_append_right _ _ (by simp [bytesLE_length])]
  simp only [List.length_map, bytesLE_length, Nat.sub_self, List.map_append, List.map_cons, List.map_nil, List.append_assoc]
  obtain ⟨m, hm⟩ : ∃ m, n - k = m + 1 := ⟨n - k - 1, by omega⟩
  rw [hm, show n - (k + 1) = m by omega, List.replicate_succ]; rfl
theorem laid_all (v n : Nat) : laidTo v n n = (bytesLE v n).map byteV := by simp [laidTo]
theorem laid_get (v n k : Nat) (h : k < n) : ∃ u, (laidTo v n k)[k]? = some u := by
  refine ⟨_, List.getElem?_eq_getElem ?_⟩
  simp [laidTo, bytesLE_length]; omega
set_option maxHeartbeats 1000000 in
theorem rbytes_any (v n : Nat) (w : World) (hv : v < 18446744073709551616) (hn : n ≤ 8) :
    Calls Try.prog 45 #[.int .u64 (v : Int), .int .i64 (n : Int)] w (ClonePost w (bytesLE v n)) := by
  have hmk := make_bytes n (by omega)
  have hown := own_made n (by omega) w
  have hb0 : Below w.heap.size w (w.alloc (.cells (madeCells #[.int .u8 0] n) 5)) := (Below.refl _ _).alloc (Nat.le_refl _) _
  go_enter Try.func45, Try.ntmps45
  go_wp2_with fail
  generalize hw0 : w.alloc (.cells (madeCells #[.int .u8 0] n) 5) = w0 at *
  clear hw0
  go_loopw [0, 6] (fun x i wr => ∃ k : Nat, k ≤ n ∧ i = .int .i64 k ∧ x = .int .u64 ((v / 256 ^ k : Nat) : Int) ∧ wr.ownsRow w.heap.size 5 1 (.slice (some ⟨w.heap.size, 0, none⟩) n n) n (laidTo v n k) ∧ Below w.heap.size w wr) (fun _ i _ => n - (intOf i).toNat)
  case atStart => exact ⟨0, by omega, rfl, by simp, by simpa [laidTo, bytesLE] using hown, hb0⟩
  case round =>
    obtain ⟨k, hk, rfl, rfl, ho, hb⟩ := hrel
    by_cases hlt : k < n
    · obtain ⟨u, hu⟩ := laid_get v n k hlt
      have hc := (ho.cellAt k (by omega)).trans hu
      have hf := ho.frozenAt k
      have hst := (ho.stored k (byteV (UInt8.ofNat (v / 256 ^ k % 256)))).1
      rw [laid_set v n k hlt] at hst
      have hxv : byteV (UInt8.ofNat (v / 256 ^ k % 256)) = .int .u8 (((v / 256 ^ k : Nat) : Int) % 256) := by
        rw [byteV, UInt8.toNat_ofNat', Nat.mod_eq_of_lt (by omega)]; rfl
      have hdiv : v / 256 ^ (k + 1) = v / 256 ^ k / 256 := by rw [Nat.pow_succ, Nat.div_div_eq_div_mul]
      rw [hxv] at hst
      have HD := hid hdiv
      have hdv : v / 256 ^ k ≤ v := Nat.div_le_self _ _
      clear hdiv hxv hu
      generalize v / 256 ^ k = y at hdv hst HD
      have hd : decide ((k : Int) < n) = true := by simp; omega
      go_wp2_with fail
      exact ⟨⟨k + 1, by omega, by go_num, by rw [HD.out]; rfl, hst, hb.setCell (Nat.le_refl _) _⟩, by simp [intOf]; omega⟩
    · obtain rfl : k = n := by omega
      rw [laid_all] at ho
      have hlen := bytesLE_length v k
      go_wp2_with fail
      go_ret
      refine ⟨_, rfl, some ⟨w.heap.size, 0, none⟩, k, by rw [hlen]; rfl, by rw [hlen]; exact ho, hb⟩
end Go.Proofs.Ytbcddeiicneajaa
