/- skip, Zeros, Join. -/
import Derived.Test.YtekagaafenglaaaCrcGrid
namespace Go.Proofs.Ytekagaafenglaaa
set_option linter.unusedVariables false
open Go.RowKit
theorem and1_i64 (m : Nat) (h : m < 9223372036854775808) : bits .and .i64 (m : Int) 1 = ((m % 2 : Nat) : Int) := by
  have := i64_and_nat m 1 h (by omega)
  simpa [Nat.and_one_is_mod] using this
theorem skip_odd (q m y : Nat) (h : m % 2 = 1) : stepsN (q * m) y = stepsN ((q + q) * (m / 2)) (stepsN q y) := by
  rw [stepsN_add]
  congr 1
  have : m = 2 * (m / 2) + 1 := by omega
  conv => lhs; rw [this]
  rw [Nat.mul_add, Nat.add_mul, ← Nat.mul_assoc, Nat.mul_comm q 2, Nat.mul_assoc, Nat.two_mul]; omega
theorem skip_even (q m y : Nat) (h : ¬ m % 2 = 1) : stepsN (q * m) y = stepsN ((q + q) * (m / 2)) y := by
  congr 1
  have : m = 2 * (m / 2) := by omega
  conv => lhs; rw [this]
  rw [Nat.add_mul, ← Nat.mul_assoc, Nat.mul_comm q 2, Nat.mul_assoc, Nat.two_mul]
set_option maxHeartbeats 400000 in
set_option maxRecDepth 20000 in
theorem skip_any (x n : Nat) (w : World) (hx : x < 4294967296) (hn : n < 9223372036854775808) :
    Calls Try.prog 22 #[.int .u32 (x : Int), .int .i64 (n : Int)] w fun e w' => e = .returned (.int .u32 ((stepsN (8 * n) x : Nat) : Int)) ∧ Below w.heap.size w w' := by
  have hz := zeroGrid
  go_enter Try.func22, Try.ntmps22
  go_wp2_with fail
  refine (eightg_any _).mono ?_
  rintro e w1 ⟨cs, rfl, hG, hb⟩
  go_wp2_with (refine wpList_store_row rfl 44 (.tmp 5) (.tmp 6) rfl rfl w1.heap.size rfl cs rfl 44 zeros32 (heap_alloc_new _ _) (by rw [hG.1]; kernel_rfl) (by rw [hG.1]; decide +kernel) hG.one ?_)
  go_loopw [0, 1] (fun a b wr => ∃ y m q : Nat, m ≤ n ∧ a = .int .u32 (y : Int) ∧ b = .int .i64 (m : Int) ∧ y < 4294967296 ∧ stepsN (8 * n) x = stepsN (q * m) y ∧ Below w.heap.size w wr ∧ (0 < m → Grid wr w1.heap.size q))
    (fun _ b _ => (intOf b).toNat)
  case atStart => exact ⟨x, n, 8, Nat.le_refl _, rfl, rfl, hx, rfl, below_setRow (hb.alloc hb.size _) hb.size _, fun _ => ⟨cs, setRow_heap _ _ _ _ _ _ (heap_alloc_new _ _), hG⟩⟩
  case round =>
    obtain ⟨y, m, q, hm, rfl, rfl, hy, hst, hbw, hgr⟩ := hrel
    have HST := hid hst
    clear hst
    by_cases hm0 : 0 < m
    · have hg := hgr hm0
      clear hgr
      have ha := and1_i64 m (by omega)
      have hgl : w1.heap.size < wr.heap.size := by
        obtain ⟨c, h, _⟩ := hg
        exact (Array.getElem?_eq_some_iff.1 h).1
      by_cases hodd : m % 2 = 1
      · have hb1 : (((m % 2 : Nat) : Int) == 1) = true := by rw [hodd]; rfl
        by_cases hh : 0 < m / 2
        · have hh' : (0 : Int) < (m : Int) / 2 := by omega
          go_wp2_with fail
          refine (of_any _ q y _ hg hy).mono ?_
          rintro e w2 ⟨rfl, rfl⟩
          go_wp2_with fail
          refine (twice_any _ q _ hg hgl).mono ?_
          rintro e w3 ⟨cs3, rfl, hG3, hb3⟩
          have hg3 := hg.keep hb3 hgl
          obtain ⟨cur, hcur, hsz, _⟩ := hg3
          have hb4 := hbw.trans (hb3.mono hbw.size)
          go_wp2_with (refine wpList_store_row rfl 44 (.tmp 5) (.tmp 18) rfl rfl w1.heap.size rfl cs3 rfl 44 cur hcur (by rw [hG3.1]; kernel_rfl) (by rw [hG3.1, hsz]) hG3.one ?_)
          exact ⟨⟨(stepsN q y), m / 2, q + q, by omega, rfl, by go_num, (stepsN_lt q y hy), by rw [HST.out, skip_odd q m y hodd], below_setRow hb4 hb.size _, fun _ => ⟨cs3, setRow_heap _ _ _ _ _ _ hcur, hG3⟩⟩, by simp [intOf]; omega⟩
        · have hh' : ¬ (0 : Int) < (m : Int) / 2 := by omega
          go_wp2_with fail
          refine (of_any _ q y _ hg hy).mono ?_
          rintro e w2 ⟨rfl, rfl⟩
          go_wp2_with fail
          exact ⟨⟨(stepsN q y), m / 2, q + q, by omega, rfl, by go_num, (stepsN_lt q y hy), by rw [HST.out, skip_odd q m y hodd], hbw, fun h => absurd h hh⟩, by simp [intOf]; omega⟩
      · have hb1 : (((m % 2 : Nat) : Int) == 1) = false := by rw [beq_eq_false_iff_ne]; omega
        by_cases hh : 0 < m / 2
        · have hh' : (0 : Int) < (m : Int) / 2 := by omega
          go_wp2_with fail
          refine (twice_any _ q _ hg hgl).mono ?_
          rintro e w3 ⟨cs3, rfl, hG3, hb3⟩
          have hg3 := hg.keep hb3 hgl
          obtain ⟨cur, hcur, hsz, _⟩ := hg3
          have hb4 := hbw.trans (hb3.mono hbw.size)
          go_wp2_with (refine wpList_store_row rfl 44 (.tmp 5) (.tmp 18) rfl rfl w1.heap.size rfl cs3 rfl 44 cur hcur (by rw [hG3.1]; kernel_rfl) (by rw [hG3.1, hsz]) hG3.one ?_)
          exact ⟨⟨y, m / 2, q + q, by omega, rfl, by go_num, hy, by rw [HST.out, skip_even q m y hodd], below_setRow hb4 hb.size _, fun _ => ⟨cs3, setRow_heap _ _ _ _ _ _ hcur, hG3⟩⟩, by simp [intOf]; omega⟩
        · exact absurd hh (by omega)
    · obtain rfl : m = 0 := by omega
      go_wp2_with fail
      go_ret
      exact ⟨by rw [HST.out]; rfl, hbw⟩
set_option maxHeartbeats 400000 in
set_option maxRecDepth 20000 in
theorem skip_none (x n : Int) (w : World) (hn : n ≤ 0) :
    Calls Try.prog 22 #[.int .u32 x, .int .i64 n] w fun e w' => e = .returned (.int .u32 x) ∧ Below w.heap.size w w' := by
  have hz := zeroGrid
  go_enter Try.func22, Try.ntmps22
  go_wp2_with fail
  refine (eightg_any _).mono ?_
  rintro e w1 ⟨cs, rfl, hG, hb⟩
  go_wp2_with (refine wpList_store_row rfl 44 (.tmp 5) (.tmp 6) rfl rfl w1.heap.size rfl cs rfl 44 zeros32 (heap_alloc_new _ _) (by rw [hG.1]; kernel_rfl) (by rw [hG.1]; decide +kernel) hG.one ?_)
  go_loopw [0, 1] (fun a b wr => a = .int .u32 x ∧ b = .int .i64 n ∧ Below w.heap.size w wr) (fun _ _ _ => 0)
  case atStart => exact ⟨rfl, rfl, below_setRow (hb.alloc hb.size _) hb.size _⟩
  case round =>
    obtain ⟨rfl, rfl, hbw⟩ := hrel
    go_wp2_with fail
    go_ret
    exact ⟨rfl, hbw⟩
theorem skip_all (x n : Int) (w : World) (hx : 0 ≤ x ∧ x < 4294967296) (hn : -9223372036854775808 ≤ n ∧ n < 9223372036854775808) :
    Calls Try.prog 22 #[.int .u32 x, .int .i64 n] w fun e w' => e = .returned (.int .u32 (stepsI (8 * n.toNat) x)) ∧ Below w.heap.size w w' := by
  obtain ⟨X, rfl⟩ := Int.eq_ofNat_of_zero_le hx.1
  by_cases h0 : n ≤ 0
  · have e : n.toNat = 0 := by omega
    rw [e]; exact skip_none _ _ _ h0
  · obtain ⟨N, rfl⟩ := Int.eq_ofNat_of_zero_le (show 0 ≤ n by omega)
    rw [Int.toNat_natCast, stepsI_nat _ _ (by omega)]
    exact skip_any X N w (by omega) (by omega)
set_option maxHeartbeats 400000 in
theorem zeros_any (g : Nat) (s n : Int) (w : World) (hs : 0 ≤ s ∧ s < 4294967296) (hn : -9223372036854775808 ≤ n ∧ n < 9223372036854775808) :
    Calls Try.prog 19 #[.pointer (some ⟨g, 0, none⟩), .int .u32 s, .int .i64 n] w fun e w' => e = .returned (.int .u32 (zerosI s n.toNat)) ∧ Below w.heap.size w w' := by
  have hx := xor32_range s 4294967295 hs.1 hs.2 (by omega) (by omega)
  unfold zerosI
  go_enter Try.func19, Try.ntmps19
  go_wp2_with fail
  refine (skip_all _ _ _ hx hn).mono ?_
  rintro e w1 ⟨rfl, hb⟩
  go_wp2_with fail
  go_ret
  exact ⟨rfl, hb⟩
set_option maxHeartbeats 400000 in
theorem join_any (a b n : Int) (w : World) (ha : 0 ≤ a ∧ a < 4294967296) (hn : -9223372036854775808 ≤ n ∧ n < 9223372036854775808) :
    Calls Try.prog 18 #[.int .u32 a, .int .u32 b, .int .i64 n] w fun e w' => e = .returned (.int .u32 (bits .xor .u32 (stepsI (8 * n.toNat) a) b)) ∧ Below w.heap.size w w' := by
  go_enter Try.func18, Try.ntmps18
  go_wp2_with fail
  refine (skip_all _ _ _ ha hn).mono ?_
  rintro e w1 ⟨rfl, hb⟩
  go_wp2_with fail
  go_ret
  exact ⟨rfl, hb⟩
theorem stepsI_more (k : Nat) (x : Int) : stepsI 8 (stepsI k x) = stepsI (8 + k) x := by simp only [stepsI]; rw [Nat.add_comm]; rfl
set_option maxHeartbeats 400000 in
theorem rzeros_any (s n : Int) (w : World) (hs : 0 ≤ s ∧ s < 4294967296) (hn : n < 9223372036854775808) :
    Calls Try.prog 20 #[.int .u32 s, .int .i64 n] w fun e w' => e = .returned (.int .u32 (zerosI s n.toNat)) ∧ w = w' := by
  have hr := xor32_range s 4294967295 hs.1 hs.2 (by omega) (by omega)
  unfold zerosI
  go_enter Try.func20, Try.ntmps20
  by_cases h0 : n ≤ 0
  · have e : n.toNat = 0 := by omega
    rw [e]
    go_wp2
    go_loop [5, 6] (fun x i => x = .int .u32 (bits .xor .u32 s 4294967295) ∧ i = .int .i64 0) (fun _ _ => 0)
    case atStart => exact ⟨rfl, rfl⟩
    case round =>
      obtain ⟨rfl, rfl⟩ := hrel
      have h1 : decide ((0 : Int) < n) = false := by simp; omega
      go_wp2
      go_ret
      exact ⟨rfl, rfl⟩
  obtain ⟨N, rfl⟩ := Int.eq_ofNat_of_zero_le (show 0 ≤ n by omega)
  rw [Int.toNat_natCast]
  have hN : N < 9223372036854775808 := by omega
  go_wp2
  go_loop [5, 6] (fun x i => ∃ k : Nat, k ≤ N ∧ i = .int .i64 k ∧ x = .int .u32 (stepsI (8 * k) (bits .xor .u32 s 4294967295))) (fun _ i => N - (intOf i).toNat)
  case atStart => exact ⟨0, by omega, rfl, rfl⟩
  case round =>
    obtain ⟨k, hk, rfl, rfl⟩ := hrel
    have hx := stepsI_range (8 * k) _ hr.1 hr.2
    by_cases hlt : k < N
    · go_wp2_with (go_at_call 10; refine (eight_any _ _ (by omega) (by omega)).mono ?_; rintro e w' ⟨rfl, rfl⟩)
      go_round
      case rel => exact ⟨k + 1, by omega, by go_num, by rw [stepsI_more, show 8 + 8 * k = 8 * (k + 1) by omega]⟩
      case measure => simp [intOf]; omega
    · obtain rfl : k = N := by omega
      go_wp2
      go_ret
      exact ⟨rfl, rfl⟩
end Go.Proofs.Ytekagaafenglaaa
