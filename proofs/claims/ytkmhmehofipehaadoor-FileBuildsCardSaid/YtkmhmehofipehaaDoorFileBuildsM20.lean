/- The reference's Letter. -/
import Derived.Test.YtkmhmehofipehaaDoorFileBuildsM18
import Derived.Test.YtkmhmehofipehaaDoorFileBuildsM17
namespace Go.Proofs.YtkmhmehofipehaaDoor
set_option linter.unusedVariables false
open Go.RowKit
theorem idx_at (s : ByteArray) (p : Nat) (hp : p < s.size) : ∀ w, (Instr.index 9 (.string s) (.int .i64 (p : Int))).run Tryd.prog w = .ok (.int .u8 (byL s p : Nat)) w := fun w => by
  rw [byL_at s p hp]; go_simp
theorem idx_off (s : ByteArray) (p j : Nat) (hp : p + j < s.size) : ∀ w, (Instr.index 9 (.string s) (.int .i64 ((p : Int) + (j : Int)))).run Tryd.prog w = .ok (.int .u8 (byL s (p + j) : Nat)) w := fun w => by
  have h := idx_at s (p + j) hp w
  rwa [show ((p + j : Nat) : Int) = (p : Int) + (j : Int) by omega] at h
set_option maxRecDepth 20000 in
set_option maxHeartbeats 1000000 in
theorem letter_1 (s : ByteArray) (p : Nat) (w : World) (hp : p < s.size) (hs : s.size ≤ 140737488355328) (hc : byL s p < 128) :
    Calls Tryd.prog 81 #[.string s, .int .i64 p] w fun e w' => e = .returned (.tuple #[.int .i64 (((letL s p).1 : Nat) : Int), .int .i64 (((letL s p).2 : Nat) : Int)]) ∧ w = w' := by
  rw [show letL s p = (1, byL s p) by unfold letL; rw [if_pos hc]]
  have i0 : (s[p]'hp).toNat = byL s p := (byL_at s p hp).symm
  generalize byL s p = x at *
  have zx : wrap64 (x : Int) = (x : Int) := by unfold wrap64; omega
  have hx8 : (x : Int) < 256 := by omega
  have d1 : decide ((x : Int) < 128) = true := decide_eq_true (by omega)
  go_enter Tryd.func81, Tryd.ntmps81
  go_wp2_with fail
  go_ret2
  exact ⟨rfl, rfl⟩
set_option maxRecDepth 20000 in
set_option maxHeartbeats 1000000 in
theorem letter_0 (s : ByteArray) (p : Nat) (w : World) (hp : p < s.size) (hs : s.size ≤ 140737488355328) (hc : 128 ≤ byL s p ∧ byL s p < 194 ∨ 245 ≤ byL s p) :
    Calls Tryd.prog 81 #[.string s, .int .i64 p] w fun e w' => e = .returned (.tuple #[.int .i64 (((letL s p).1 : Nat) : Int), .int .i64 (((letL s p).2 : Nat) : Int)]) ∧ w = w' := by
  have h8 := byL_lt s p
  rw [show letL s p = (0, 0) by
    unfold letL
    rw [if_neg (by omega), if_neg (by simp only [Bool.and_eq_true, decide_eq_true_eq]; omega), if_neg (by simp only [Bool.and_eq_true, decide_eq_true_eq]; omega), if_neg (by simp only [Bool.and_eq_true, decide_eq_true_eq]; omega)]]
  have i0 : (s[p]'hp).toNat = byL s p := (byL_at s p hp).symm
  generalize byL s p = x at *
  have zx : wrap64 (x : Int) = (x : Int) := by unfold wrap64; omega
  have hx8 : (x : Int) < 256 := by omega
  have d1 : decide ((x : Int) < 128) = false := decide_eq_false (by omega)
  by_cases h : x < 194
  · have d2 : decide (194 ≤ (x : Int)) = false := decide_eq_false (by omega)
    have d3 : decide (224 ≤ (x : Int)) = false := decide_eq_false (by omega)
    have d4 : decide (240 ≤ (x : Int)) = false := decide_eq_false (by omega)
    go_enter Tryd.func81, Tryd.ntmps81
    go_wp2_with fail
    go_ret2
    exact ⟨rfl, rfl⟩
  · have d2 : decide (194 ≤ (x : Int)) = true := decide_eq_true (by omega)
    have d3 : decide (224 ≤ (x : Int)) = true := decide_eq_true (by omega)
    have d4 : decide (240 ≤ (x : Int)) = true := decide_eq_true (by omega)
    have d5 : decide ((x : Int) < 224) = false := decide_eq_false (by omega)
    have d6 : decide ((x : Int) < 240) = false := decide_eq_false (by omega)
    have d7 : decide ((x : Int) < 245) = false := decide_eq_false (by omega)
    go_enter Tryd.func81, Tryd.ntmps81
    go_wp2_with fail
    go_ret2
    exact ⟨rfl, rfl⟩
theorem letL_no2 (s : ByteArray) (p : Nat) (hc : 194 ≤ byL s p ∧ byL s p < 224) (hn : conL s (p + 1) = false) : letL s p = (0, 0) := by
  unfold letL
  rw [if_neg (by omega), if_neg (by simp only [Bool.and_eq_true, decide_eq_true_eq]; rintro h; simp_all), if_neg (by simp only [Bool.and_eq_true, decide_eq_true_eq]; omega), if_neg (by simp only [Bool.and_eq_true, decide_eq_true_eq]; omega)]
theorem letL_ok2 (s : ByteArray) (p : Nat) (hc : 194 ≤ byL s p ∧ byL s p < 224) (hn : conL s (p + 1) = true) : letL s p = if (decide (128 ≤ r2 s p) && okR (r2 s p)) = true then (2, r2 s p) else (0, 0) := by
  have hb := hn
  unfold conL at hb
  simp only [Bool.and_eq_true, decide_eq_true_eq, beq_iff_eq] at hb
  have h1 := byL_lt s (p + 1)
  rw [if_pos (by unfold okR r2; simp; omega)]
  unfold letL
  rw [if_neg (by omega), if_pos (by simp only [hn, Bool.and_eq_true, decide_eq_true_eq, eq_self, and_true]; omega)]
theorem letL_no3 (s : ByteArray) (p : Nat) (hc : 224 ≤ byL s p ∧ byL s p < 240) (hn : conL s (p + 1) = false ∨ conL s (p + 2) = false) : letL s p = (0, 0) := by
  unfold letL
  rw [if_neg (by omega), if_neg (by simp only [Bool.and_eq_true, decide_eq_true_eq]; omega), if_neg (by simp only [Bool.and_eq_true, decide_eq_true_eq]; rintro h; rcases hn with hn | hn <;> simp_all), if_neg (by simp only [Bool.and_eq_true, decide_eq_true_eq]; omega)]
theorem letL_ok3 (s : ByteArray) (p : Nat) (hc : 224 ≤ byL s p ∧ byL s p < 240) (hn : conL s (p + 1) = true ∧ conL s (p + 2) = true) : letL s p = if (decide (2048 ≤ r3 s p) && okR (r3 s p)) = true then (3, r3 s p) else (0, 0) := by
  by_cases g : (decide (2048 ≤ r3 s p) && okR (r3 s p)) = true
  · rw [if_pos g]
    unfold letL
    rw [if_neg (by omega), if_neg (by simp only [Bool.and_eq_true, decide_eq_true_eq]; omega), if_pos (by simp only [g, hn, Bool.and_eq_true, decide_eq_true_eq, eq_self, and_true]; omega)]
  · rw [if_neg g]
    unfold letL
    rw [if_neg (by omega), if_neg (by simp only [Bool.and_eq_true, decide_eq_true_eq]; omega), if_neg (fun h => g (by rw [Bool.and_eq_true] at h; exact h.2)), if_neg (by simp only [Bool.and_eq_true, decide_eq_true_eq]; omega)]
theorem letL_no4 (s : ByteArray) (p : Nat) (hc : 240 ≤ byL s p ∧ byL s p < 245) (hn : conL s (p + 1) = false ∨ conL s (p + 2) = false ∨ conL s (p + 3) = false) : letL s p = (0, 0) := by
  unfold letL
  rw [if_neg (by omega), if_neg (by simp only [Bool.and_eq_true, decide_eq_true_eq]; omega), if_neg (by simp only [Bool.and_eq_true, decide_eq_true_eq]; omega), if_neg (by simp only [Bool.and_eq_true, decide_eq_true_eq]; rintro h; rcases hn with hn | hn | hn <;> simp_all)]
theorem letL_ok4 (s : ByteArray) (p : Nat) (hc : 240 ≤ byL s p ∧ byL s p < 245) (hn : conL s (p + 1) = true ∧ conL s (p + 2) = true ∧ conL s (p + 3) = true) : letL s p = if (decide (65536 ≤ r4 s p) && okR (r4 s p)) = true then (4, r4 s p) else (0, 0) := by
  by_cases g : (decide (65536 ≤ r4 s p) && okR (r4 s p)) = true
  · rw [if_pos g]
    unfold letL
    rw [if_neg (by omega), if_neg (by simp only [Bool.and_eq_true, decide_eq_true_eq]; omega), if_neg (by simp only [Bool.and_eq_true, decide_eq_true_eq]; omega), if_pos (by simp only [g, hn, Bool.and_eq_true, decide_eq_true_eq, eq_self, and_true]; omega)]
  · rw [if_neg g]
    unfold letL
    rw [if_neg (by omega), if_neg (by simp only [Bool.and_eq_true, decide_eq_true_eq]; omega), if_neg (by simp only [Bool.and_eq_true, decide_eq_true_eq]; omega), if_neg (fun h => g (by rw [Bool.and_eq_true] at h; exact h.2))]
set_option maxRecDepth 20000 in
set_option maxHeartbeats 4000000 in
theorem letter_2 (s : ByteArray) (p : Nat) (w : World) (hp : p < s.size) (hs : s.size ≤ 140737488355328) (hc : 194 ≤ byL s p ∧ byL s p < 224) :
    Calls Tryd.prog 81 #[.string s, .int .i64 p] w fun e w' => e = .returned (.tuple #[.int .i64 (((letL s p).1 : Nat) : Int), .int .i64 (((letL s p).2 : Nat) : Int)]) ∧ w = w' := by
  obtain ⟨L, hL⟩ : ∃ L, L = letL s p := ⟨_, rfl⟩
  rw [← hL]
  have HNO := hid (show (conL s (p + 1) = false) → L = (0, 0) from fun h => by rw [hL]; exact letL_no2 s p hc h)
  have HOK := hid (show (conL s (p + 1) = true) → L = if (decide (128 ≤ r2 s p) && okR (r2 s p)) = true then (2, r2 s p) else (0, 0) from fun h => by rw [hL]; exact letL_ok2 s p hc h)
  have i0 : (s[p]'hp).toNat = byL s p := (byL_at s p hp).symm
  have I1 := hid (fun (h : p + 1 < s.size) => (byL_at s (p + 1) h).symm)
  have C1 := hid (show conL s (p + 1) = (decide (p + 1 < s.size) && (byL s (p + 1) / 64 == 2)) from rfl)
  have HR := hid (show r2 s p = (byL s p % 32) * 64 + byL s (p + 1) % 64 from rfl)
  have b1 := byL_lt s (p + 1)
  generalize byL s p = x at *
  generalize byL s (p + 1) = y1 at *
  generalize conL s (p + 1) = k1 at *
  generalize r2 s p = r at *
  have hx8 : (x : Int) < 256 := by omega
  have zx : wrap64 (x : Int) = (x : Int) := by unfold wrap64; omega
  have d0 : decide ((x : Int) < 128) = false := decide_eq_false (by omega)
  have dl2 : decide (194 ≤ (x : Int)) = true := decide_eq_true (by omega)
  have dh2 : decide ((x : Int) < 224) = true := decide_eq_true (by omega)
  clear hL
  go_enter Tryd.func81, Tryd.ntmps81
  go_wp2_with fail
  go_loop [8, 10] (fun xv kv => ∃ k : Nat, 1 ≤ k ∧ k ≤ 2 ∧ kv = .int .i64 k ∧ Hid ((k = 1 → (True) ∧ xv = .int .i64 ((x : Int) - 192)) ∧ (k = 2 → ((p + 1 < s.size ∧ y1 / 64 = 2)) ∧ xv = .int .i64 (64 * ((x : Int) - 192) + y1 - 128)))) (fun _ kv => 2 - (intOf kv).toNat)
  case atStart => exact ⟨1, by omega, by omega, rfl, hid ⟨fun _ => ⟨trivial, rfl⟩, fun h => by omega⟩⟩
  case round =>
    obtain ⟨k, hk1, hk2, rfl, hP⟩ := hrel
    have hcase : k = 1 ∨ k = 2 := by omega
    rcases hcase with hh | hh
    · subst hh
      obtain ⟨hq, rfl⟩ := hP.out.1 rfl
      by_cases hsz : p + 1 < s.size
      · have ii := I1.out hsz
        have dz : decide ((s.size : Int) ≤ (p : Int) + 1) = false := decide_eq_false (by omega)
        have dz' : decide (s.size ≤ p + 1) = false := decide_eq_false (by omega)
        by_cases hlo : y1 < 128
        · have dlo : decide ((y1 : Int) < 128) = true := decide_eq_true (by omega)
          obtain rfl : L = (0, 0) := HNO.out (by skip; rw [C1.out]; simp; omega)
          go_wp2_with fail
          go_ret2
          exact ⟨rfl, rfl⟩
        have dlo : decide ((y1 : Int) < 128) = false := decide_eq_false (by omega)
        by_cases hhi : 191 < y1
        · have dhi : decide (191 < (y1 : Int)) = true := decide_eq_true (by omega)
          obtain rfl : L = (0, 0) := HNO.out (by skip; rw [C1.out]; simp; omega)
          go_wp2_with fail
          go_ret2
          exact ⟨rfl, rfl⟩
        have dhi : decide (191 < (y1 : Int)) = false := decide_eq_false (by omega)
        have zy : wrap64 (y1 : Int) = (y1 : Int) := by unfold wrap64; omega
        go_wp2_with fail
        go_round
        case rel => exact ⟨2, by omega, by omega, by go_num, hid ⟨fun h => by omega, fun _ => ⟨⟨hsz, by omega⟩, by go_num⟩⟩⟩
        case measure => simp [intOf]
      · have dz : decide ((s.size : Int) ≤ (p : Int) + 1) = true := decide_eq_true (by omega)
        have dz' : decide (s.size ≤ p + 1) = true := decide_eq_true (by omega)
        obtain rfl : L = (0, 0) := HNO.out (by skip; rw [C1.out]; simp; omega)
        go_wp2_with fail
        go_ret2
        exact ⟨rfl, rfl⟩
    · subst hh
      obtain ⟨hq, rfl⟩ := hP.out.2 rfl
      have hr : (r : Int) = (64 * ((x : Int) - 192) + y1 - 128) := by rw [HR.out]; omega
      rw [← hr]
      have hL2 := HOK.out (by rw [C1.out]; simp; omega)
      have hrb : r < 2097152 := by omega
      clear hr
      by_cases t0 : r < 128
      · have e0 : decide ((r : Int) < 128) = true := decide_eq_true (by omega)
        obtain rfl : L = (0, 0) := by rw [hL2, if_neg (by unfold okR; simp; omega)]
        clear hL2
        go_wp2_with fail
        go_ret2
        exact ⟨rfl, rfl⟩
      have e0 : decide ((r : Int) < 128) = false := decide_eq_false (by omega)
      by_cases t1 : 1114111 < r
      · have e1 : decide (1114111 < (r : Int)) = true := decide_eq_true (by omega)
        obtain rfl : L = (0, 0) := by rw [hL2, if_neg (by unfold okR; simp; omega)]
        clear hL2
        go_wp2_with fail
        go_ret2
        exact ⟨rfl, rfl⟩
      have e1 : decide (1114111 < (r : Int)) = false := decide_eq_false (by omega)
      by_cases t2 : 55296 ≤ r
      · have e2 : decide (55296 ≤ (r : Int)) = true := decide_eq_true (by omega)
        by_cases t3 : r ≤ 57343
        · have e3 : decide ((r : Int) ≤ 57343) = true := decide_eq_true (by omega)
          obtain rfl : L = (0, 0) := by rw [hL2, if_neg (by unfold okR; simp; omega)]
          clear hL2
          go_wp2_with fail
          go_ret2
          exact ⟨rfl, rfl⟩
        · have e3 : decide ((r : Int) ≤ 57343) = false := decide_eq_false (by omega)
          obtain rfl : L = (2, r) := by rw [hL2, if_pos (by unfold okR; simp; omega)]
          clear hL2
          go_wp2_with fail
          go_ret2
          exact ⟨rfl, rfl⟩
      · have e2 : decide (55296 ≤ (r : Int)) = false := decide_eq_false (by omega)
        obtain rfl : L = (2, r) := by rw [hL2, if_pos (by unfold okR; simp; omega)]
        clear hL2
        go_wp2_with fail
        go_ret2
        exact ⟨rfl, rfl⟩
set_option maxRecDepth 20000 in
set_option maxHeartbeats 4000000 in
theorem letter_3 (s : ByteArray) (p : Nat) (w : World) (hp : p < s.size) (hs : s.size ≤ 140737488355328) (hc : 224 ≤ byL s p ∧ byL s p < 240) :
    Calls Tryd.prog 81 #[.string s, .int .i64 p] w fun e w' => e = .returned (.tuple #[.int .i64 (((letL s p).1 : Nat) : Int), .int .i64 (((letL s p).2 : Nat) : Int)]) ∧ w = w' := by
  obtain ⟨L, hL⟩ : ∃ L, L = letL s p := ⟨_, rfl⟩
  rw [← hL]
  have HNO := hid (show (conL s (p + 1) = false ∨ conL s (p + 2) = false) → L = (0, 0) from fun h => by rw [hL]; exact letL_no3 s p hc h)
  have HOK := hid (show (conL s (p + 1) = true ∧ conL s (p + 2) = true) → L = if (decide (2048 ≤ r3 s p) && okR (r3 s p)) = true then (3, r3 s p) else (0, 0) from fun h => by rw [hL]; exact letL_ok3 s p hc h)
  have i0 : (s[p]'hp).toNat = byL s p := (byL_at s p hp).symm
  have I1 := hid (fun (h : p + 1 < s.size) => (byL_at s (p + 1) h).symm)
  have C1 := hid (show conL s (p + 1) = (decide (p + 1 < s.size) && (byL s (p + 1) / 64 == 2)) from rfl)
  have I2 := hid (fun (h : p + 2 < s.size) => (byL_at s (p + 2) h).symm)
  have C2 := hid (show conL s (p + 2) = (decide (p + 2 < s.size) && (byL s (p + 2) / 64 == 2)) from rfl)
  have HR := hid (show r3 s p = (byL s p % 16) * 4096 + (byL s (p + 1) % 64) * 64 + byL s (p + 2) % 64 from rfl)
  have b1 := byL_lt s (p + 1)
  have b2 := byL_lt s (p + 2)
  generalize byL s p = x at *
  generalize byL s (p + 1) = y1 at *
  generalize byL s (p + 2) = y2 at *
  generalize conL s (p + 1) = k1 at *
  generalize conL s (p + 2) = k2 at *
  generalize r3 s p = r at *
  have hx8 : (x : Int) < 256 := by omega
  have zx : wrap64 (x : Int) = (x : Int) := by unfold wrap64; omega
  have d0 : decide ((x : Int) < 128) = false := decide_eq_false (by omega)
  have dl2 : decide (194 ≤ (x : Int)) = true := decide_eq_true (by omega)
  have dh2 : decide ((x : Int) < 224) = false := decide_eq_false (by omega)
  have dl3 : decide (224 ≤ (x : Int)) = true := decide_eq_true (by omega)
  have dh3 : decide ((x : Int) < 240) = true := decide_eq_true (by omega)
  clear hL
  go_enter Tryd.func81, Tryd.ntmps81
  go_wp2_with fail
  go_loop [8, 10] (fun xv kv => ∃ k : Nat, 1 ≤ k ∧ k ≤ 3 ∧ kv = .int .i64 k ∧ Hid ((k = 1 → (True) ∧ xv = .int .i64 ((x : Int) - 224)) ∧ (k = 2 → ((p + 1 < s.size ∧ y1 / 64 = 2)) ∧ xv = .int .i64 (64 * ((x : Int) - 224) + y1 - 128)) ∧ (k = 3 → ((p + 1 < s.size ∧ y1 / 64 = 2) ∧ (p + 2 < s.size ∧ y2 / 64 = 2)) ∧ xv = .int .i64 (64 * (64 * ((x : Int) - 224) + y1 - 128) + y2 - 128)))) (fun _ kv => 3 - (intOf kv).toNat)
  case atStart => exact ⟨1, by omega, by omega, rfl, hid ⟨fun _ => ⟨trivial, rfl⟩, fun h => by omega, fun h => by omega⟩⟩
  case round =>
    obtain ⟨k, hk1, hk2, rfl, hP⟩ := hrel
    have hcase : k = 1 ∨ k = 2 ∨ k = 3 := by omega
    rcases hcase with hh | hh | hh
    · subst hh
      obtain ⟨hq, rfl⟩ := hP.out.1 rfl
      by_cases hsz : p + 1 < s.size
      · have ii := I1.out hsz
        have dz : decide ((s.size : Int) ≤ (p : Int) + 1) = false := decide_eq_false (by omega)
        have dz' : decide (s.size ≤ p + 1) = false := decide_eq_false (by omega)
        by_cases hlo : y1 < 128
        · have dlo : decide ((y1 : Int) < 128) = true := decide_eq_true (by omega)
          obtain rfl : L = (0, 0) := HNO.out (by left; rw [C1.out]; simp; omega)
          go_wp2_with fail
          go_ret2
          exact ⟨rfl, rfl⟩
        have dlo : decide ((y1 : Int) < 128) = false := decide_eq_false (by omega)
        by_cases hhi : 191 < y1
        · have dhi : decide (191 < (y1 : Int)) = true := decide_eq_true (by omega)
          obtain rfl : L = (0, 0) := HNO.out (by left; rw [C1.out]; simp; omega)
          go_wp2_with fail
          go_ret2
          exact ⟨rfl, rfl⟩
        have dhi : decide (191 < (y1 : Int)) = false := decide_eq_false (by omega)
        have zy : wrap64 (y1 : Int) = (y1 : Int) := by unfold wrap64; omega
        go_wp2_with fail
        go_round
        case rel => exact ⟨2, by omega, by omega, by go_num, hid ⟨fun h => by omega, fun _ => ⟨⟨hsz, by omega⟩, by go_num⟩, fun h => by omega⟩⟩
        case measure => simp [intOf]
      · have dz : decide ((s.size : Int) ≤ (p : Int) + 1) = true := decide_eq_true (by omega)
        have dz' : decide (s.size ≤ p + 1) = true := decide_eq_true (by omega)
        obtain rfl : L = (0, 0) := HNO.out (by left; rw [C1.out]; simp; omega)
        go_wp2_with fail
        go_ret2
        exact ⟨rfl, rfl⟩
    · subst hh
      obtain ⟨hq, rfl⟩ := hP.out.2.1 rfl
      by_cases hsz : p + 2 < s.size
      · have ii := I2.out hsz
        have dz : decide ((s.size : Int) ≤ (p : Int) + 2) = false := decide_eq_false (by omega)
        have dz' : decide (s.size ≤ p + 2) = false := decide_eq_false (by omega)
        by_cases hlo : y2 < 128
        · have dlo : decide ((y2 : Int) < 128) = true := decide_eq_true (by omega)
          obtain rfl : L = (0, 0) := HNO.out (by right; rw [C2.out]; simp; omega)
          go_wp2_with fail
          go_ret2
          exact ⟨rfl, rfl⟩
        have dlo : decide ((y2 : Int) < 128) = false := decide_eq_false (by omega)
        by_cases hhi : 191 < y2
        · have dhi : decide (191 < (y2 : Int)) = true := decide_eq_true (by omega)
          obtain rfl : L = (0, 0) := HNO.out (by right; rw [C2.out]; simp; omega)
          go_wp2_with fail
          go_ret2
          exact ⟨rfl, rfl⟩
        have dhi : decide (191 < (y2 : Int)) = false := decide_eq_false (by omega)
        have zy : wrap64 (y2 : Int) = (y2 : Int) := by unfold wrap64; omega
        go_wp2_with fail
        go_round
        case rel => exact ⟨3, by omega, by omega, by go_num, hid ⟨fun h => by omega, fun h => by omega, fun _ => ⟨⟨hq, ⟨hsz, by omega⟩⟩, by go_num⟩⟩⟩
        case measure => simp [intOf]
      · have dz : decide ((s.size : Int) ≤ (p : Int) + 2) = true := decide_eq_true (by omega)
        have dz' : decide (s.size ≤ p + 2) = true := decide_eq_true (by omega)
        obtain rfl : L = (0, 0) := HNO.out (by right; rw [C2.out]; simp; omega)
        go_wp2_with fail
        go_ret2
        exact ⟨rfl, rfl⟩
    · subst hh
      obtain ⟨hq, rfl⟩ := hP.out.2.2 rfl
      have hr : (r : Int) = (64 * (64 * ((x : Int) - 224) + y1 - 128) + y2 - 128) := by rw [HR.out]; omega
      rw [← hr]
      have hL2 := HOK.out ⟨by rw [C1.out]; simp; omega, by rw [C2.out]; simp; omega⟩
      have hrb : r < 2097152 := by omega
      clear hr
      by_cases t0 : r < 2048
      · have e0 : decide ((r : Int) < 2048) = true := decide_eq_true (by omega)
        obtain rfl : L = (0, 0) := by rw [hL2, if_neg (by unfold okR; simp; omega)]
        clear hL2
        go_wp2_with fail
        go_ret2
        exact ⟨rfl, rfl⟩
      have e0 : decide ((r : Int) < 2048) = false := decide_eq_false (by omega)
      by_cases t1 : 1114111 < r
      · have e1 : decide (1114111 < (r : Int)) = true := decide_eq_true (by omega)
        obtain rfl : L = (0, 0) := by rw [hL2, if_neg (by unfold okR; simp; omega)]
        clear hL2
        go_wp2_with fail
        go_ret2
        exact ⟨rfl, rfl⟩
      have e1 : decide (1114111 < (r : Int)) = false := decide_eq_false (by omega)
      by_cases t2 : 55296 ≤ r
      · have e2 : decide (55296 ≤ (r : Int)) = true := decide_eq_true (by omega)
        by_cases t3 : r ≤ 57343
        · have e3 : decide ((r : Int) ≤ 57343) = true := decide_eq_true (by omega)
          obtain rfl : L = (0, 0) := by rw [hL2, if_neg (by unfold okR; simp; omega)]
          clear hL2
          go_wp2_with fail
          go_ret2
          exact ⟨rfl, rfl⟩
        · have e3 : decide ((r : Int) ≤ 57343) = false := decide_eq_false (by omega)
          obtain rfl : L = (3, r) := by rw [hL2, if_pos (by unfold okR; simp; omega)]
          clear hL2
          go_wp2_with fail
          go_ret2
          exact ⟨rfl, rfl⟩
      · have e2 : decide (55296 ≤ (r : Int)) = false := decide_eq_false (by omega)
        obtain rfl : L = (3, r) := by rw [hL2, if_pos (by unfold okR; simp; omega)]
        clear hL2
        go_wp2_with fail
        go_ret2
        exact ⟨rfl, rfl⟩
end Go.Proofs.YtkmhmehofipehaaDoor
