/- The reference's Letter. -/
import Derived.Test.YtkmhmehofipehaaGreatDoorPz7
import Derived.Test.YtkmhmehofipehaaGreatDoorPz1
namespace Go.Proofs.YtkmhmehofipehaaGreatDoor
set_option linter.unusedVariables false
open Go.RowKit
theorem idx_at (s : ByteArray) (p : Nat) (hp : p < s.size) : ∀ w, (Instr.index 9 (.string s) (.int .i64 (p : Int))).run Tryz.prog w = .ok (.int .u8 (byL s p : Nat)) w := fun w => by
  rw [byL_at s p hp]; go_simp
set_option maxRecDepth 20000 in
set_option maxHeartbeats 1000000 in
theorem letter_1 (s : ByteArray) (p : Nat) (w : World) (hp : p < s.size) (hs : s.size ≤ 140737488355328) (hc : byL s p < 128) :
    Calls Tryz.prog 97 #[.string s, .int .i64 p] w fun e w' => e = .returned (.tuple #[.int .i64 (((letL s p).1 : Nat) : Int), .int .i64 (((letL s p).2 : Nat) : Int)]) ∧ w = w' := by
  rw [show letL s p = (1, byL s p) by unfold letL; rw [if_pos hc]]
  have i0 : (s[p]'hp).toNat = byL s p := (byL_at s p hp).symm
  generalize byL s p = x at *
  have zx : wrap64 (x : Int) = (x : Int) := by unfold wrap64; omega
  have hx8 : (x : Int) < 256 := by omega
  have d1 : decide ((x : Int) < 128) = true := decide_eq_true (by omega)
  go_enter Tryz.func97, Tryz.ntmps97
  go_wp2_with fail
  go_ret2
  exact ⟨rfl, rfl⟩
set_option maxRecDepth 20000 in
set_option maxHeartbeats 1000000 in
theorem letter_0 (s : ByteArray) (p : Nat) (w : World) (hp : p < s.size) (hs : s.size ≤ 140737488355328) (hc : 128 ≤ byL s p ∧ byL s p < 194 ∨ 245 ≤ byL s p) :
    Calls Tryz.prog 97 #[.string s, .int .i64 p] w fun e w' => e = .returned (.tuple #[.int .i64 (((letL s p).1 : Nat) : Int), .int .i64 (((letL s p).2 : Nat) : Int)]) ∧ w = w' := by
  have h8 := byL_lt s p
  rw [show letL s p = (0, 0) by
    unfold letL
    rw [if_neg (by omega), if_neg (by simp only [Bool.and_eq_true, decide_eq_true_eq]; omega), if_neg (by simp only [Bool.and_eq_true, decide_eq_true_eq]; omega), if_neg (by simp only [Bool.and_eq_true, decide_eq_true_eq]; omega)]]
  have i0 : (s[p]'hp).toNat = byL s p := (byL_at s p hp).symm
  generalize byL s p = x at *
  have zx : wrap64 (x : Int) = (x : Int) := by unfold wrap64; omega
  have hx8 : (x : Int) < 256 := by omega
  have d1 : decide ((x : Int) < 128) = false := decide_eq_false (by omega)
  by_cases h : x < 194
  · have d2 : decide (194 ≤ (x : Int)) = false := decide_eq_false (by omega)
    have d3 : decide (224 ≤ (x : Int)) = false := decide_eq_false (by omega)
    have d4 : decide (240 ≤ (x : Int)) = false := decide_eq_false (by omega)
    go_enter Tryz.func97, Tryz.ntmps97
    go_wp2_with fail
    go_ret2
    exact ⟨rfl, rfl⟩
  · have d2 : decide (194 ≤ (x : Int)) = true := decide_eq_true (by omega)
    have d3 : decide (224 ≤ (x : Int)) = true := decide_eq_true (by omega)
    have d4 : decide (240 ≤ (x : Int)) = true := decide_eq_true (by omega)
    have d5 : decide ((x : Int) < 224) = false := decide_eq_false (by omega)
    have d6 : decide ((x : Int) < 240) = false := decide_eq_false (by omega)
    have d7 : decide ((x : Int) < 245) = false := decide_eq_false (by omega)
    go_enter Tryz.func97, Tryz.ntmps97
    go_wp2_with fail
    go_ret2
    exact ⟨rfl, rfl⟩
theorem letL_no2 (s : ByteArray) (p : Nat) (hc : 194 ≤ byL s p ∧ byL s p < 224) (hn : conL s (p + 1) = false) : letL s p = (0, 0) := by
  unfold letL
  rw [if_neg (by omega), if_neg (by simp only [Bool.and_eq_true, decide_eq_true_eq]; rintro h; simp_all), if_neg (by simp only [Bool.and_eq_true, decide_eq_true_eq]; omega), if_neg (by simp only [Bool.and_eq_true, decide_eq_true_eq]; omega)]
theorem letL_ok2 (s : ByteArray) (p : Nat) (hc : 194 ≤ byL s p ∧ byL s p < 224) (hn : conL s (p + 1) = true) : letL s p = if (decide (128 ≤ r2 s p) && okR (r2 s p)) = true then (2, r2 s p) else (0, 0) := by
  have hb := hn
  unfold conL at hb
  simp only [Bool.and_eq_true, decide_eq_true_eq, beq_iff_eq] at hb
  have h1 := byL_lt s (p + 1)
  rw [if_pos (by unfold okR r2; simp; omega)]
  unfold letL
  rw [if_neg (by omega), if_pos (by simp only [hn, Bool.and_eq_true, decide_eq_true_eq, eq_self, and_true]; omega)]
theorem letL_no3 (s : ByteArray) (p : Nat) (hc : 224 ≤ byL s p ∧ byL s p < 240) (hn : conL s (p + 1) = false ∨ conL s (p + 2) = false) : letL s p = (0, 0) := by
  unfold letL
  rw [if_neg (by omega), if_neg (by simp only [Bool.and_eq_true, decide_eq_true_eq]; omega), if_neg (by simp only [Bool.and_eq_true, decide_eq_true_eq]; rintro h; rcases hn with hn | hn <;> simp_all), if_neg (by simp only [Bool.and_eq_true, decide_eq_true_eq]; omega)]
theorem letL_ok3 (s : ByteArray) (p : Nat) (hc : 224 ≤ byL s p ∧ byL s p < 240) (hn : conL s (p + 1) = true ∧ conL s (p + 2) = true) : letL s p = if (decide (2048 ≤ r3 s p) && okR (r3 s p)) = true then (3, r3 s p) else (0, 0) := by
  by_cases g : (decide (2048 ≤ r3 s p) && okR (r3 s p)) = true
  · rw [if_pos g]
    unfold letL
    rw [if_neg (by omega), if_neg (by simp only [Bool.and_eq_true, decide_eq_true_eq]; omega), if_pos (by simp only [g, hn, Bool.and_eq_true, decide_eq_true_eq, eq_self, and_true]; omega)]
  · rw [if_neg g]
    unfold letL
    rw [if_neg (by omega), if_neg (by simp only [Bool.and_eq_true, decide_eq_true_eq]; omega), if_neg (fun h => g (by rw [Bool.and_eq_true] at h; exact h.2)), if_neg (by simp only [Bool.and_eq_true, decide_eq_true_eq]; omega)]
theorem letL_no4 (s : ByteArray) (p : Nat) (hc : 240 ≤ byL s p ∧ byL s p < 245) (hn : conL s (p + 1) = false ∨ conL s (p + 2) = false ∨ conL s (p + 3) = false) : letL s p = (0, 0) := by
  unfold letL
  rw [if_neg (by omega), if_neg (by simp only [Bool.and_eq_true, decide_eq_true_eq]; omega), if_neg (by simp only [Bool.and_eq_true, decide_eq_true_eq]; omega), if_neg (by simp only [Bool.and_eq_true, decide_eq_true_eq]; rintro h; rcases hn with hn | hn | hn <;> simp_all)]
theorem letL_ok4 (s : ByteArray) (p : Nat) (hc : 240 ≤ byL s p ∧ byL s p < 245) (hn : conL s (p + 1) = true ∧ conL s (p + 2) = true ∧ conL s (p + 3) = true) : letL s p = if (decide (65536 ≤ r4 s p) && okR (r4 s p)) = true then (4, r4 s p) else (0, 0) := by
  by_cases g : (decide (65536 ≤ r4 s p) && okR (r4 s p)) = true
  · rw [if_pos g]
    unfold letL
    rw [if_neg (by omega), if_neg (by simp only [Bool.and_eq_true, decide_eq_true_eq]; omega), if_neg (by simp only [Bool.and_eq_true, decide_eq_true_eq]; omega), if_pos (by simp only [g, hn, Bool.and_eq_true, decide_eq_true_eq, eq_self, and_true]; omega)]
  · rw [if_neg g]
    unfold letL
    rw [if_neg (by omega), if_neg (by simp only [Bool.and_eq_true, decide_eq_true_eq]; omega), if_neg (by simp only [Bool.and_eq_true, decide_eq_true_eq]; omega), if_neg (fun h => g (by rw [Bool.and_eq_true] at h; exact h.2))]
set_option maxRecDepth 20000 in
set_option maxHeartbeats 4000000 in
theorem letter_2 (s : ByteArray) (p : Nat) (w : World) (hp : p < s.size) (hs : s.size ≤ 140737488355328) (hc : 194 ≤ byL s p ∧ byL s p < 224) :
    Calls Tryz.prog 97 #[.string s, .int .i64 p] w fun e w' => e = .returned (.tuple #[.int .i64 (((letL s p).1 : Nat) : Int), .int .i64 (((letL s p).2 : Nat) : Int)]) ∧ w = w' := by
  obtain ⟨L, hL⟩ : ∃ L, L = letL s p := ⟨_, rfl⟩
  rw [← hL]
  have HNO := hid (show (conL s (p + 1) = false) → L = (0, 0) from fun h => by rw [hL]; exact letL_no2 s p hc h)
  have HOK := hid (show (conL s (p + 1) = true) → L = if (decide (128 ≤ r2 s p) && okR (r2 s p)) = true then (2, r2 s p) else (0, 0) from fun h => by rw [hL]; exact letL_ok2 s p hc h)
  have i0 : (s[p]'hp).toNat = byL s p := (byL_at s p hp).symm
  have I1 := hid (fun (h : p + 1 < s.size) => (byL_at s (p + 1) h).symm)
  have C1 := hid (show conL s (p + 1) = (decide (p + 1 < s.size) && (byL s (p + 1) / 64 == 2)) from rfl)
  have HR := hid (show r2 s p = (byL s p % 32) * 64 + byL s (p + 1) % 64 from rfl)
  have b1 := byL_lt s (p + 1)
  generalize byL s p = x at *
  generalize byL s (p + 1) = y1 at *
  generalize conL s (p + 1) = k1 at *
  generalize r2 s p = r at *
  have hx8 : (x : Int) < 256 := by omega
  have zx : wrap64 (x : Int) = (x : Int) := by unfold wrap64; omega
  have d0 : decide ((x : Int) < 128) = false := decide_eq_false (by omega)
  have dl2 : decide (194 ≤ (x : Int)) = true := decide_eq_true (by omega)
  have dh2 : decide ((x : Int) < 224) = true := decide_eq_true (by omega)
  clear hL
  go_enter Tryz.func97, Tryz.ntmps97
  go_wp2_with fail
  go_loop [8, 10] (fun xv kv => ∃ k : Nat, 1 ≤ k ∧ k ≤ 2 ∧ kv = .int .i64 k ∧ Hid ((k = 1 → (True) ∧ xv = .int .i64 ((x : Int) - 192)) ∧ (k = 2 → ((p + 1 < s.size ∧ y1 / 64 = 2)) ∧ xv = .int .i64 (64 * ((x : Int) - 192) + y1 - 128)))) (fun _ kv => 2 - (intOf kv).toNat)
  case atStart => exact ⟨1, by omega, by omega, rfl, hid ⟨fun _ => ⟨trivial, rfl⟩, fun h => by omega⟩⟩
  case round =>
    obtain ⟨k, hk1, hk2, rfl, hP⟩ := hrel
    have hcase : k = 1 ∨ k = 2 := by omega
    rcases hcase with hh | hh
    · subst hh
      obtain ⟨hq, rfl⟩ := hP.out.1 rfl
      by_cases hsz : p + 1 < s.size
      · have ii := I1.out hsz
        have dz : decide ((s.size : Int) ≤ (p : Int) + 1) = false := decide_eq_false (by omega)
        have dz' : decide (s.size ≤ p + 1) = false := decide_eq_false (by omega)
        by_cases hlo : y1 < 128
        · have dlo : decide ((y1 : Int) < 128) = true := decide_eq_true (by omega)
          obtain rfl : L = (0, 0) := HNO.out (by skip; rw [C1.out]; simp; omega)
          go_wp2_with fail
          go_ret2
          exact ⟨rfl, rfl⟩
        have dlo : decide ((y1 : Int) < 128) = false := decide_eq_false (by omega)
        by_cases hhi : 191 < y1
        · have dhi : decide (191 < (y1 : Int)) = true := decide_eq_true (by omega)
          obtain rfl : L = (0, 0) := HNO.out (by skip; rw [C1.out]; simp; omega)
          go_wp2_with fail
          go_ret2
          exact ⟨rfl, rfl⟩
        have dhi : decide (191 < (y1 : Int)) = false := decide_eq_false (by omega)
        have zy : wrap64 (y1 : Int) = (y1 : Int) := by unfold wrap64; omega
        go_wp2_with fail
        go_round
        case rel => exact ⟨2, by omega, by omega, by go_num, hid ⟨fun h => by omega, fun _ => ⟨⟨hsz, by omega⟩, by go_num⟩⟩⟩
        case measure => simp [intOf]
      · have dz : decide ((s.size : Int) ≤ (p : Int) + 1) = true := decide_eq_true (by omega)
        have dz' : decide (s.size ≤ p + 1) = true := decide_eq_true (by omega)
        obtain rfl : L = (0, 0) := HNO.out (by skip; rw [C1.out]; simp; omega)
        go_wp2_with fail
        go_ret2
        exact ⟨rfl, rfl⟩
    · subst hh
      obtain ⟨hq, rfl⟩ := hP.out.2 rfl
      have hr : (r : Int) = (64 * ((x : Int) - 192) + y1 - 128) := by rw [HR.out]; omega
      rw [← hr]
      have hL2 := HOK.out (by rw [C1.out]; simp; omega)
      have hrb : r < 2097152 := by omega
      clear hr
      by_cases t0 : r < 128
      · have e0 : decide ((r : Int) < 128) = true := decide_eq_true (by omega)
        obtain rfl : L = (0, 0) := by rw [hL2, if_neg (by unfold okR; simp; omega)]
        clear hL2
        go_wp2_with fail
        go_ret2
        exact ⟨rfl, rfl⟩
      have e0 : decide ((r : Int) < 128) = false := decide_eq_false (by omega)
      by_cases t1 : 1114111 < r
      · have e1 : decide (1114111 < (r : Int)) = true := decide_eq_true (by omega)
        obtain rfl : L = (0, 0) := by rw [hL2, if_neg (by unfold okR; simp; omega)]
        clear hL2
        go_wp2_with fail
        go_ret2
        exact ⟨rfl, rfl⟩
      have e1 : decide (1114111 < (r : Int)) = false := decide_eq_false (by omega)
      by_cases t2 : 55296 ≤ r
      · have e2 : decide (55296 ≤ (r : Int)) = true := decide_eq_true (by omega)
        by_cases t3 : r ≤ 57343
        · have e3 : decide ((r : Int) ≤ 57343) = true := decide_eq_true (by omega)
          obtain rfl : L = (0, 0) := by rw [hL2, if_neg (by unfold okR; simp; omega)]
          clear hL2
          go_wp2_with fail
          go_ret2
          exact ⟨rfl, rfl⟩
        · have e3 : decide ((r : Int) ≤ 57343) = false := decide_eq_false (by omega)
          obtain rfl : L = (2, r) := by rw [hL2, if_pos (by unfold okR; simp; omega)]
          clear hL2
          go_wp2_with fail
          go_ret2
          exact ⟨rfl, rfl⟩
      · have e2 : decide (55296 ≤ (r : Int)) = false := decide_eq_false (by omega)
        obtain rfl : L = (2, r) := by rw [hL2, if_pos (by unfold okR; simp; omega)]
        clear hL2
        go_wp2_with fail
        go_ret2
        exact ⟨rfl, rfl⟩
set_option maxRecDepth 20000 in
set_option maxHeartbeats 4000000 in
theorem letter_3 (s : ByteArray) (p : Nat) (w : World) (hp : p < s.size) (hs : s.size ≤ 140737488355328) (hc : 224 ≤ byL s p ∧ byL s p < 240) :
    Calls Tryz.prog 97 #[.string s, .int .i64 p] w fun e w' => e = .returned (.tuple #[.int .i64 (((letL s p).1 : Nat) : Int), .int .i64 (((letL s p).2 : Nat) : Int)]) ∧ w = w' := by
  obtain ⟨L, hL⟩ : ∃ L, L = letL s p := ⟨_, rfl⟩
  rw [← hL]
  have HNO := hid (show (conL s (p + 1) = false ∨ conL s (p + 2) = false) → L = (0, 0) from fun h => by rw [hL]; exact letL_no3 s p hc h)
  have HOK := hid (show (conL s (p + 1) = true ∧ conL s (p + 2) = true) → L = if (decide (2048 ≤ r3 s p) && okR (r3 s p)) = true then (3, r3 s p) else (0, 0) from fun h => by rw [hL]; exact letL_ok3 s p hc h)
  have i0 : (s[p]'hp).toNat = byL s p := (byL_at s p hp).symm
  have I1 := hid (fun (h : p + 1 < s.size) => (byL_at s (p + 1) h).symm)
  have C1 := hid (show conL s (p + 1) = (decide (p + 1 < s.size) && (byL s (p + 1) / 64 == 2)) from rfl)
  have I2 := hid (fun (h : p + 2 < s.size) => (byL_at s (p + 2) h).symm)
  have C2 := hid (show conL s (p + 2) = (decide (p + 2 < s.size) && (byL s (p + 2) / 64 == 2)) from rfl)
  have HR := hid (show r3 s p = (byL s p % 16) * 4096 + (byL s (p + 1) % 64) * 64 + byL s (p + 2) % 64 from rfl)
  have b1 := byL_lt s (p + 1)
  have b2 := byL_lt s (p + 2)
  generalize byL s p = x at *
  generalize byL s (p + 1) = y1 at *
  generalize byL s (p + 2) = y2 at *
  generalize conL s (p + 1) = k1 at *
  generalize conL s (p + 2) = k2 at *
  generalize r3 s p = r at *
  have hx8 : (x : Int) < 256 := by omega
  have zx : wrap64 (x : Int) = (x : Int) := by unfold wrap64; omega
  have d0 : decide ((x : Int) < 128) = false := decide_eq_false (by omega)
  have dl2 : decide (194 ≤ (x : Int)) = true := decide_eq_true (by omega)
  have dh2 : decide ((x : Int) < 224) = false := decide_eq_false (by omega)
  have dl3 : decide (224 ≤ (x : Int)) = true := decide_eq_true (by omega)
  have dh3 : decide ((x : Int) < 240) = true := decide_eq_true (by omega)
  clear hL
  go_enter Tryz.func97, Tryz.ntmps97
  go_wp2_with fail
  go_loop [8, 10] (fun xv kv => ∃ k : Nat, 1 ≤ k ∧ k ≤ 3 ∧ kv = .int .i64 k ∧ Hid ((k = 1 → (True) ∧ xv = .int .i64 ((x : Int) - 224)) ∧ (k = 2 → ((p + 1 < s.size ∧ y1 / 64 = 2)) ∧ xv = .int .i64 (64 * ((x : Int) - 224) + y1 - 128)) ∧ (k = 3 → ((p + 1 < s.size ∧ y1 / 64 = 2) ∧ (p + 2 < s.size ∧ y2 / 64 = 2)) ∧ xv = .int .i64 (64 * (64 * ((x : Int) - 224) + y1 - 128) + y2 - 128)))) (fun _ kv => 3 - (intOf kv).toNat)
  case atStart => exact ⟨1, by omega, by omega, rfl, hid ⟨fun _ => ⟨trivial, rfl⟩, fun h => by omega, fun h => by omega⟩⟩
  case round =>
    obtain ⟨k, hk1, hk2, rfl, hP⟩ := hrel
    have hcase : k = 1 ∨ k = 2 ∨ k = 3 := by omega
    rcases hcase with hh | hh | hh
    · subst hh
      obtain ⟨hq, rfl⟩ := hP.out.1 rfl
      by_cases hsz : p + 1 < s.size
      · have ii := I1.out hsz
        have dz : decide ((s.size : Int) ≤ (p : Int) + 1) = false := decide_eq_false (by omega)
        have dz' : decide (s.size ≤ p + 1) = false := decide_eq_false (by omega)
        by_cases hlo : y1 < 128
        · have dlo : decide ((y1 : Int) < 128) = true := decide_eq_true (by omega)
          obtain rfl : L = (0, 0) := HNO.out (by left; rw [C1.out]; simp; omega)
          go_wp2_with fail
          go_ret2
          exact ⟨rfl, rfl⟩
        have dlo : decide ((y1 : Int) < 128) = false := decide_eq_false (by omega)
        by_cases hhi : 191 < y1
        · have dhi : decide (191 < (y1 : Int)) = true := decide_eq_true (by omega)
          obtain rfl : L = (0, 0) := HNO.out (by left; rw [C1.out]; simp; omega)
          go_wp2_with fail
          go_ret2
          exact ⟨rfl, rfl⟩
        have dhi : decide (191 < (y1 : Int)) = false := decide_eq_false (by omega)
        have zy : wrap64 (y1 : Int) = (y1 : Int) := by unfold wrap64; omega
        go_wp2_with fail
        go_round
        case rel => exact ⟨2, by omega, by omega, by go_num, hid ⟨fun h => by omega, fun _ => ⟨⟨hsz, by omega⟩, by go_num⟩, fun h => by omega⟩⟩
        case measure => simp [intOf]
      · have dz : decide ((s.size : Int) ≤ (p : Int) + 1) = true := decide_eq_true (by omega)
        have dz' : decide (s.size ≤ p + 1) = true := decide_eq_true (by omega)
        obtain rfl : L = (0, 0) := HNO.out (by left; rw [C1.out]; simp; omega)
        go_wp2_with fail
        go_ret2
        exact ⟨rfl, rfl⟩
    · subst hh
      obtain ⟨hq, rfl⟩ := hP.out.2.1 rfl
      by_cases hsz : p + 2 < s.size
      · have ii := I2.out hsz
        have dz : decide ((s.size : Int) ≤ (p : Int) + 2) = false := decide_eq_false (by omega)
        have dz' : decide (s.size ≤ p + 2) = false := decide_eq_false (by omega)
        by_cases hlo : y2 < 128
        · have dlo : decide ((y2 : Int) < 128) = true := decide_eq_true (by omega)
          obtain rfl : L = (0, 0) := HNO.out (by right; rw [C2.out]; simp; omega)
          go_wp2_with fail
          go_ret2
          exact ⟨rfl, rfl⟩
        have dlo : decide ((y2 : Int) < 128) = false := decide_eq_false (by omega)
        by_cases hhi : 191 < y2
        · have dhi : decide (191 < (y2 : Int)) = true := decide_eq_true (by omega)
          obtain rfl : L = (0, 0) := HNO.out (by right; rw [C2.out]; simp; omega)
          go_wp2_with fail
          go_ret2
          exact ⟨rfl, rfl⟩
        have dhi : decide (191 < (y2 : Int)) = false := decide_eq_false (by omega)
        have zy : wrap64 (y2 : Int) = (y2 : Int) := by unfold wrap64; omega
        go_wp2_with fail
        go_round
        case rel => exact ⟨3, by omega, by omega, by go_num, hid ⟨fun h => by omega, fun h => by omega, fun _ => ⟨⟨hq, ⟨hsz, by omega⟩⟩, by go_num⟩⟩⟩
        case measure => simp [intOf]
      · have dz : decide ((s.size : Int) ≤ (p : Int) + 2) = true := decide_eq_true (by omega)
        have dz' : decide (s.size ≤ p + 2) = true := decide_eq_true (by omega)
        obtain rfl : L = (0, 0) := HNO.out (by right; rw [C2.out]; simp; omega)
        go_wp2_with fail
        go_ret2
        exact ⟨rfl, rfl⟩
    · subst hh
      obtain ⟨hq, rfl⟩ := hP.out.2.2 rfl
      have hr : (r : Int) = (64 * (64 * ((x : Int) - 224) + y1 - 128) + y2 - 128) := by rw [HR.out]; omega
      rw [← hr]
      have hL2 := HOK.out ⟨by rw [C1.out]; simp; omega, by rw [C2.out]; simp; omega⟩
      have hrb : r < 2097152 := by omega
      clear hr
      by_cases t0 : r < 2048
      · have e0 : decide ((r : Int) < 2048) = true := decide_eq_true (by omega)
        obtain rfl : L = (0, 0) := by rw [hL2, if_neg (by unfold okR; simp; omega)]
        clear hL2
        go_wp2_with fail
        go_ret2
        exact ⟨rfl, rfl⟩
      have e0 : decide ((r : Int) < 2048) = false := decide_eq_false (by omega)
      by_cases t1 : 1114111 < r
      · have e1 : decide (1114111 < (r : Int)) = true := decide_eq_true (by omega)
        obtain rfl : L = (0, 0) := by rw [hL2, if_neg (by unfold okR; simp; omega)]
        clear hL2
        go_wp2_with fail
        go_ret2
        exact ⟨rfl, rfl⟩
      have e1 : decide (1114111 < (r : Int)) = false := decide_eq_false (by omega)
      by_cases t2 : 55296 ≤ r
      · have e2 : decide (55296 ≤ (r : Int)) = true := decide_eq_true (by omega)
        by_cases t3 : r ≤ 57343
        · have e3 : decide ((r : Int) ≤ 57343) = true := decide_eq_true (by omega)
          obtain rfl : L = (0, 0) := by rw [hL2, if_neg (by unfold okR; simp; omega)]
          clear hL2
          go_wp2_with fail
          go_ret2
          exact ⟨rfl, rfl⟩
        · have e3 : decide ((r : Int) ≤ 57343) = false := decide_eq_false (by omega)
          obtain rfl : L = (3, r) := by rw [hL2, if_pos (by unfold okR; simp; omega)]
          clear hL2
          go_wp2_with fail
          go_ret2
          exact ⟨rfl, rfl⟩
      · have e2 : decide (55296 ≤ (r : Int)) = false := decide_eq_false (by omega)
        obtain rfl : L = (3, r) := by rw [hL2, if_pos (by unfold okR; simp; omega)]
        clear hL2
        go_wp2_with fail
        go_ret2
        exact ⟨rfl, rfl⟩
end Go.Proofs.YtkmhmehofipehaaGreatDoor
/- The reference's Letter: four bytes. -/
namespace Go.Proofs.YtkmhmehofipehaaGreatDoor
set_option linter.unusedVariables false
open Go.RowKit
def v4 (s : ByteArray) (p : Nat) : Nat → Nat
  | 0 => byL s p % 8
  | k + 1 => v4 s p k * 64 + byL s (p + (k + 1)) % 64
theorem v4_lt (s : ByteArray) (p : Nat) : ∀ k, v4 s p k < 8 * 64 ^ k
  | 0 => by unfold v4; omega
  | k + 1 => by
    have := v4_lt s p k
    unfold v4
    rw [Nat.pow_succ]
    omega
theorem v4_b (s : ByteArray) (p k : Nat) (h : k ≤ 3) : v4 s p k < 2097152 := by
  have := v4_lt s p k
  have h2 : 64 ^ k ≤ 64 ^ 3 := Nat.pow_le_pow_right (by omega) h
  omega
theorem v4_3 (s : ByteArray) (p : Nat) : v4 s p 3 = r4 s p := by
  unfold r4
  have e : v4 s p 3 = ((byL s p % 8 * 64 + byL s (p + 1) % 64) * 64 + byL s (p + 2) % 64) * 64 + byL s (p + 3) % 64 := rfl
  rw [e]; omega
theorem conL_no (s : ByteArray) (p : Nat) (h : s.size ≤ p ∨ byL s p < 128 ∨ 191 < byL s p) : conL s p = false := by
  unfold conL
  rw [Bool.eq_false_iff]
  intro g
  simp only [Bool.and_eq_true, decide_eq_true_eq, beq_iff_eq] at g
  omega
theorem conL_yes (s : ByteArray) (p : Nat) (h : p < s.size) (h1 : ¬ byL s p < 128) (h2 : ¬ 191 < byL s p) : conL s p = true := by
  unfold conL
  simp only [Bool.and_eq_true, decide_eq_true_eq, beq_iff_eq]
  omega
set_option maxRecDepth 20000 in
set_option maxHeartbeats 4000000 in
theorem letter_4 (s : ByteArray) (p : Nat) (w : World) (hp : p < s.size) (hs : s.size ≤ 140737488355328) (hc : 240 ≤ byL s p ∧ byL s p < 245) :
    Calls Tryz.prog 97 #[.string s, .int .i64 p] w fun e w' => e = .returned (.tuple #[.int .i64 (((letL s p).1 : Nat) : Int), .int .i64 (((letL s p).2 : Nat) : Int)]) ∧ w = w' := by
  obtain ⟨L, hL⟩ : ∃ L, L = letL s p := ⟨_, rfl⟩
  rw [← hL]
  have HNO := hid (show ∀ k, 1 ≤ k → k ≤ 3 → conL s (p + k) = false → L = (0, 0) from fun k h1 h2 h => by
    rw [hL]
    refine letL_no4 s p hc ?_
    have hk : k = 1 ∨ k = 2 ∨ k = 3 := by omega
    rcases hk with rfl | rfl | rfl
    · exact .inl h
    · exact .inr (.inl h)
    · exact .inr (.inr h))
  have HOK := hid (show (∀ j, 1 ≤ j → j < 4 → conL s (p + j) = true) → L = if (decide (65536 ≤ v4 s p 3) && okR (v4 s p 3)) = true then (4, v4 s p 3) else (0, 0) from fun h => by
    rw [hL, v4_3]; exact letL_ok4 s p hc ⟨h 1 (by omega) (by omega), h 2 (by omega) (by omega), h 3 (by omega) (by omega)⟩)
  clear hL
  have i0 : (s[p]'hp).toNat = byL s p := (byL_at s p hp).symm
  have hv0 : v4 s p 0 = byL s p - 240 := by show byL s p % 8 = _; omega
  have HV0 := hid hv0
  clear hv0
  generalize byL s p = x at *
  have hx8 : (x : Int) < 256 := by omega
  have zx : wrap64 (x : Int) = (x : Int) := by unfold wrap64; omega
  have d0 : decide ((x : Int) < 128) = false := decide_eq_false (by omega)
  have dl2 : decide (194 ≤ (x : Int)) = true := decide_eq_true (by omega)
  have dh2 : decide ((x : Int) < 224) = false := decide_eq_false (by omega)
  have dl3 : decide (224 ≤ (x : Int)) = true := decide_eq_true (by omega)
  have dh3 : decide ((x : Int) < 240) = false := decide_eq_false (by omega)
  have dl4 : decide (240 ≤ (x : Int)) = true := decide_eq_true (by omega)
  have dh4 : decide ((x : Int) < 245) = true := decide_eq_true (by omega)
  go_enter Tryz.func97, Tryz.ntmps97
  go_wp2_with fail
  clear dl2 dh2 dl3 dh3 dl4 dh4 d0 i0
  go_loop [8, 10] (fun xv kv => ∃ k X : Nat, 1 ≤ k ∧ k ≤ 4 ∧ kv = .int .i64 (k : Int) ∧ xv = .int .i64 (X : Int) ∧ X < 2097152 ∧ Hid (X = v4 s p (k - 1) ∧ ∀ j, 1 ≤ j → j < k → conL s (p + j) = true)) (fun _ kv => 4 - (intOf kv).toNat)
  case atStart => exact ⟨1, x - 240, by omega, by omega, rfl, by go_num, by omega, hid ⟨HV0.out.symm, fun j h1 h2 => absurd h2 (by omega)⟩⟩
  case round =>
    obtain ⟨k, X, hk1, hk2, rfl, rfl, hX, hP⟩ := hrel
    by_cases hk4 : k < 4
    · have dk : decide ((k : Int) < 4) = true := decide_eq_true (by omega)
      by_cases hsz : p + k < s.size
      · have dz : decide ((s.size : Int) ≤ (p : Int) + (k : Int)) = false := decide_eq_false (by omega)
        have ii : (s[p + k]'hsz).toNat = byL s (p + k) := (byL_at s (p + k) hsz).symm
        have HY := hid (conL_yes s (p + k) hsz)
        have HN := hid (conL_no s (p + k))
        have hy8 := byL_lt s (p + k)
        have HV := hid (show v4 s p k = v4 s p (k - 1) * 64 + byL s (p + k) % 64 by
          obtain ⟨m, rfl⟩ : ∃ m, k = m + 1 := ⟨k - 1, by omega⟩
          rfl)
        have HVb := v4_b s p k (by omega)
        generalize byL s (p + k) = y at *
        by_cases hlo : y < 128
        · have dlo : decide ((y : Int) < 128) = true := decide_eq_true (by omega)
          obtain rfl : L = (0, 0) := HNO.out k hk1 (by omega) (HN.out (.inr (.inl hlo)))
          clear HNO HOK HV HY HN hP
          go_wp2_with fail
          go_ret2
          exact ⟨rfl, rfl⟩
        have dlo : decide ((y : Int) < 128) = false := decide_eq_false (by omega)
        by_cases hhi : 191 < y
        · have dhi : decide (191 < (y : Int)) = true := decide_eq_true (by omega)
          obtain rfl : L = (0, 0) := HNO.out k hk1 (by omega) (HN.out (.inr (.inr hhi)))
          clear HNO HOK HV HY HN hP
          go_wp2_with fail
          go_ret2
          exact ⟨rfl, rfl⟩
        have dhi : decide (191 < (y : Int)) = false := decide_eq_false (by omega)
        have zy : wrap64 (y : Int) = (y : Int) := by unfold wrap64; omega
        have HV2 := hid (show v4 s p k = 64 * X + y - 128 by rw [HV.out, hP.out.1]; omega)
        generalize hV : v4 s p k = V at *
        have HV3 := hid hV
        clear hV
        go_wp2_with fail
        go_round
        case rel => exact ⟨k + 1, V, by omega, by omega, by go_num, by have := HV2.out; go_num, HVb, hid ⟨HV3.out.symm, fun j h1 h2 => by
          by_cases hj : j = k
          · rw [hj]; exact HY.out hlo hhi
          · exact hP.out.2 j h1 (by omega)⟩⟩
        case measure => simp [intOf]; omega
      · have dz : decide ((s.size : Int) ≤ (p : Int) + (k : Int)) = true := decide_eq_true (by omega)
        obtain rfl : L = (0, 0) := HNO.out k hk1 (by omega) (conL_no s (p + k) (.inl (by omega)))
        clear HNO HOK hP
        go_wp2_with fail
        go_ret2
        exact ⟨rfl, rfl⟩
    · obtain rfl : k = 4 := by omega
      have hL2 := HOK.out hP.out.2
      have hX3 : X = v4 s p 3 := hP.out.1
      rw [← hX3] at hL2
      clear hX3 HNO HOK hP HV0
      by_cases t0 : X < 65536
      · have e0 : decide ((X : Int) < 65536) = true := decide_eq_true (by omega)
        obtain rfl : L = (0, 0) := by rw [hL2, if_neg (by unfold okR; simp; omega)]
        clear hL2
        go_wp2_with fail
        go_ret2
        exact ⟨rfl, rfl⟩
      have e0 : decide ((X : Int) < 65536) = false := decide_eq_false (by omega)
      by_cases t1 : 1114111 < X
      · have e1 : decide (1114111 < (X : Int)) = true := decide_eq_true (by omega)
        obtain rfl : L = (0, 0) := by rw [hL2, if_neg (by unfold okR; simp; omega)]
        clear hL2
        go_wp2_with fail
        go_ret2
        exact ⟨rfl, rfl⟩
      have e1 : decide (1114111 < (X : Int)) = false := decide_eq_false (by omega)
      by_cases t2 : 55296 ≤ X
      · have e2 : decide (55296 ≤ (X : Int)) = true := decide_eq_true (by omega)
        by_cases t3 : X ≤ 57343
        · have e3 : decide ((X : Int) ≤ 57343) = true := decide_eq_true (by omega)
          obtain rfl : L = (0, 0) := by rw [hL2, if_neg (by unfold okR; simp; omega)]
          clear hL2
          go_wp2_with fail
          go_ret2
          exact ⟨rfl, rfl⟩
        · have e3 : decide ((X : Int) ≤ 57343) = false := decide_eq_false (by omega)
          obtain rfl : L = (4, X) := by rw [hL2, if_pos (by unfold okR; simp; omega)]
          clear hL2
          go_wp2_with fail
          go_ret2
          exact ⟨rfl, rfl⟩
      · have e2 : decide (55296 ≤ (X : Int)) = false := decide_eq_false (by omega)
        obtain rfl : L = (4, X) := by rw [hL2, if_pos (by unfold okR; simp; omega)]
        clear hL2
        go_wp2_with fail
        go_ret2
        exact ⟨rfl, rfl⟩
theorem letter_any (s : ByteArray) (p : Nat) (w : World) (hp : p < s.size) (hs : s.size ≤ 140737488355328) :
    Calls Tryz.prog 97 #[.string s, .int .i64 p] w fun e w' => e = .returned (.tuple #[.int .i64 (((letL s p).1 : Nat) : Int), .int .i64 (((letL s p).2 : Nat) : Int)]) ∧ w = w' := by
  by_cases h1 : byL s p < 128
  · exact letter_1 s p w hp hs h1
  · by_cases h2 : byL s p < 194
    · exact letter_0 s p w hp hs (.inl ⟨by omega, h2⟩)
    · by_cases h3 : byL s p < 224
      · exact letter_2 s p w hp hs ⟨by omega, h3⟩
      · by_cases h4 : byL s p < 240
        · exact letter_3 s p w hp hs ⟨by omega, h4⟩
        · by_cases h5 : byL s p < 245
          · exact letter_4 s p w hp hs ⟨by omega, h5⟩
          · exact letter_0 s p w hp hs (.inr (by omega))
end Go.Proofs.YtkmhmehofipehaaGreatDoor
/- Whether a text is a key, or a value. -/
namespace Go.Proofs.YtkmhmehofipehaaGreatDoor
set_option linter.unusedVariables false
open Go.RowKit
set_option maxRecDepth 20000 in
set_option maxHeartbeats 1000000 in
theorem iskey_any (s : ByteArray) (w : World) (hs : s.size ≤ 140737488355328) :
    Calls Tryz.prog 87 #[.string s] w fun e w' => e = .returned (.bool (keyB s)) ∧ Below w.heap.size w w' := by
  obtain ⟨R, hR⟩ : ∃ R, R = keyB s := ⟨_, rfl⟩
  rw [← hR]
  unfold keyB at hR
  have HR := hid hR
  clear hR
  by_cases h1 : s.size < 1
  · have d1 : decide ((s.size : Int) < 1) = true := decide_eq_true (by omega)
    obtain rfl : R = false := by rw [HR.out, decide_eq_false (show ¬ 1 ≤ s.size by omega)]; simp
    go_enter Tryz.func87, Tryz.ntmps87
    go_wp2_with fail
    go_ret
    exact ⟨rfl, Below.refl _ _⟩
  have d1 : decide ((s.size : Int) < 1) = false := decide_eq_false (by omega)
  by_cases h2 : 32 < s.size
  · have d2 : decide (32 < (s.size : Int)) = true := decide_eq_true (by omega)
    obtain rfl : R = false := by rw [HR.out, decide_eq_false (show ¬ s.size ≤ 32 by omega)]; simp
    go_enter Tryz.func87, Tryz.ntmps87
    go_wp2_with fail
    go_ret
    exact ⟨rfl, Below.refl _ _⟩
  have d2 : decide (32 < (s.size : Int)) = false := decide_eq_false (by omega)
  have HK := hid (show R = keyFrom s s.size 0 by rw [HR.out, decide_eq_true (show 1 ≤ s.size by omega), decide_eq_true (show s.size ≤ 32 by omega)]; simp)
  clear HR
  go_enter Tryz.func87, Tryz.ntmps87
  go_wp2
  go_loopw [4] (fun rv w' => ∃ (pos : Nat), w' = w.iter s pos ∧ Hid (R = keyFrom s (s.size - pos) pos)) (fun _ w' => s.size - w'.iterPos w.heap.size)
  case atStart => exact ⟨0, rfl, hid (by rw [HK.out]; rfl)⟩
  case round =>
    obtain ⟨pos, rfl, hE⟩ := hrel
    by_cases hp : pos < s.size
    · have hnx : ∀ ty, (Instr.next (.pointer (some ⟨w.heap.size, 0, none⟩)) true ty).run Tryz.prog (w.iter s pos) = _ := fun ty => run_next_any w s pos ty hp
      have HS := hid (show keyFrom s (s.size - pos) pos = (keyN (byL s pos) && keyFrom s (s.size - (pos + 1)) (pos + 1)) by
        obtain ⟨m, hm⟩ : ∃ m, s.size - pos = m + 1 := ⟨s.size - pos - 1, by omega⟩
        rw [hm, keyFrom_step s m pos hp]
        congr 2
        omega)
      have hrn : (Utf8.decode s pos).1 = runL s pos := rfl
      have hwn : (Utf8.decode s pos).2 = widL s pos := rfl
      by_cases hlo : byL s pos < 128
      · obtain ⟨e1, e2⟩ := runL_low s pos hlo
        cases hk : keyN (byL s pos) with
        | true =>
          have hk' := hk
          unfold keyN at hk'
          simp only [Bool.not_eq_true', Bool.or_eq_false_iff, decide_eq_false_iff_not] at hk'
          rw [hrn, hwn, e1, e2] at hnx
          have c1 : decide ((byL s pos : Int) < 32) = false := decide_eq_false (by omega)
          have c2 : decide (125 < (byL s pos : Int)) = false := decide_eq_false (by omega)
          have c3 : decide ((byL s pos : Int) = 61) = false := decide_eq_false (by omega)
          have c4 : ((byL s pos : Int) == 61) = false := by simp; omega
          have HN := hid (show R = keyFrom s (s.size - (pos + 1)) (pos + 1) by rw [hE.out, HS.out, hk]; rfl)
          clear HS hE hk hk' e1 e2 hrn hwn hlo
          generalize byL s pos = b at *
          go_wp2
          go_roundw
          case rel => exact ⟨pos + 1, rfl, HN⟩
          case measure => simp; omega
        | false =>
          obtain rfl : R = false := by rw [hE.out, HS.out, hk]; rfl
          have hk' := hk
          unfold keyN at hk'
          simp only [Bool.not_eq_false', Bool.or_eq_true, decide_eq_true_eq] at hk'
          rw [hrn, hwn, e1, e2] at hnx
          have hbi := below_iter w s (pos + 1)
          clear HS hE hk e1 e2 hrn hwn hlo HK
          generalize byL s pos = b at *
          by_cases c1 : b < 32
          · have c1' : decide ((b : Int) < 32) = true := decide_eq_true (by omega)
            go_wp2
            go_ret
            exact ⟨rfl, hbi⟩
          · have c1' : decide ((b : Int) < 32) = false := decide_eq_false (by omega)
            by_cases c2 : 125 < b
            · have c2' : decide (125 < (b : Int)) = true := decide_eq_true (by omega)
              go_wp2
              go_ret
              exact ⟨rfl, hbi⟩
            · have c2' : decide (125 < (b : Int)) = false := decide_eq_false (by omega)
              obtain rfl : b = 61 := by omega
              go_wp2
              go_ret
              exact ⟨rfl, hbi⟩
      · have e1 := runL_high s pos hlo
        have hk : keyN (byL s pos) = false := by unfold keyN; rw [decide_eq_true (show 125 < byL s pos by omega)]; simp
        obtain rfl : R = false := by rw [hE.out, HS.out, hk]; rfl
        rw [hrn, hwn] at hnx
        have hbi := below_iter w s (pos + widL s pos)
        clear HS hE hk hrn hwn hlo HK
        generalize runL s pos = r at *
        generalize widL s pos = wd at *
        have c1' : decide ((r : Int) < 32) = false := decide_eq_false (by omega)
        have c2' : decide (125 < (r : Int)) = true := decide_eq_true (by omega)
        go_wp2
        go_ret
        exact ⟨rfl, hbi⟩
    · have hnx : ∀ ty, (Instr.next (.pointer (some ⟨w.heap.size, 0, none⟩)) true ty).run Tryz.prog (w.iter s pos) = _ := fun ty => run_next_end w s pos ty hp
      obtain rfl : R = true := by rw [hE.out, keyFrom_end s _ pos hp]
      clear hE HK
      go_wp2
      go_ret
      exact ⟨rfl, below_iter w s pos⟩
set_option maxRecDepth 20000 in
set_option maxHeartbeats 1000000 in
theorem isval_any (s : ByteArray) (w : World) (hs : s.size ≤ 140737488355328) (hT : Tabs w) :
    Calls Tryz.prog 90 #[.string s] w fun e w' => e = .returned (.bool (valB s)) ∧ Below w.heap.size w w' := by
  obtain ⟨R, hR⟩ : ∃ R, R = valB s := ⟨_, rfl⟩
  rw [← hR]
  unfold valB at hR
  have hv := val_eq s s.size 0 (by omega)
  rw [List.drop_zero] at hv
  rw [hv] at hR
  have HR := hid hR
  clear hR hv
  by_cases h1 : 1024 < s.size
  · have d1 : decide (1024 < (s.size : Int)) = true := decide_eq_true (by omega)
    obtain rfl : R = false := by rw [HR.out, decide_eq_false (show ¬ s.size ≤ 1024 by omega)]; rfl
    go_enter Tryz.func90, Tryz.ntmps90
    go_wp2_with fail
    go_ret
    exact ⟨rfl, Below.refl _ _⟩
  have d1 : decide (1024 < (s.size : Int)) = false := decide_eq_false (by omega)
  have hV := valid_any s w (by omega) hT
  cases hv : Lib.validD s.data.toList with
  | false =>
    rw [hv] at hV HR
    obtain rfl : R = false := by rw [HR.out]; simp
    go_enter Tryz.func90, Tryz.ntmps90
    go_wp2_with fail
    refine hV.mono ?_
    rintro e w1 ⟨rfl, hb1⟩
    go_wp2_with fail
    go_ret
    exact ⟨rfl, hb1⟩
  | true =>
    rw [hv] at hV HR
    have HK := hid (show R = runFrom s s.size 0 by rw [HR.out, decide_eq_true (show s.size ≤ 1024 by omega)]; simp)
    clear HR hv
    go_enter Tryz.func90, Tryz.ntmps90
    go_wp2_with fail
    refine hV.mono ?_
    rintro e w1 ⟨rfl, hb1⟩
    clear hV hT
    go_wp2_with fail
    go_loopw [4] (fun rv w' => ∃ (pos : Nat), w' = w1.iter s pos ∧ Hid (R = runFrom s (s.size - pos) pos)) (fun _ w' => s.size - w'.iterPos w1.heap.size)
    case atStart => exact ⟨0, rfl, hid (by rw [HK.out]; rfl)⟩
    case round =>
      obtain ⟨pos, rfl, hE⟩ := hrel
      by_cases hp : pos < s.size
      · have hnx : ∀ ty, (Instr.next (.pointer (some ⟨w1.heap.size, 0, none⟩)) true ty).run Tryz.prog (w1.iter s pos) = _ := fun ty => run_next_any w1 s pos ty hp
        have hwd := widL_pos s pos hp
        have HS := hid (show runFrom s (s.size - pos) pos = if runL s pos < 32 then false else runFrom s (s.size - (pos + widL s pos)) (pos + widL s pos) by
          obtain ⟨m, hm⟩ : ∃ m, s.size - pos = m + 1 := ⟨s.size - pos - 1, by omega⟩
          rw [hm, runFrom_step s m pos hp]
          rw [runFrom_more s (s.size - (pos + widL s pos)) m _ (by omega) (by omega)])
        have hrn : (Utf8.decode s pos).1 = runL s pos := rfl
        have hwn : (Utf8.decode s pos).2 = widL s pos := rfl
        rw [hrn, hwn] at hnx
        have hbi := below_iter w1 s (pos + widL s pos)
        clear hrn hwn
        generalize runL s pos = r at *
        generalize widL s pos = wd at *
        by_cases c1 : r < 32
        · have c1' : decide ((r : Int) < 32) = true := decide_eq_true (by omega)
          obtain rfl : R = false := by rw [hE.out, HS.out, if_pos c1]
          clear HS hE HK
          go_wp2
          go_ret
          exact ⟨rfl, hb1.trans (hbi.mono hb1.size)⟩
        · have c1' : decide ((r : Int) < 32) = false := decide_eq_false (by omega)
          have HN := hid (show R = runFrom s (s.size - (pos + wd)) (pos + wd) by rw [hE.out, HS.out, if_neg c1])
          clear HS hE
          go_wp2
          go_roundw
          case rel => exact ⟨pos + wd, rfl, HN⟩
          case measure => simp; omega
      · have hnx : ∀ ty, (Instr.next (.pointer (some ⟨w1.heap.size, 0, none⟩)) true ty).run Tryz.prog (w1.iter s pos) = _ := fun ty => run_next_end w1 s pos ty hp
        obtain rfl : R = true := by rw [hE.out, runFrom_end s _ pos hp]
        have hbi := below_iter w1 s pos
        clear hE HK
        go_wp2
        go_ret
        exact ⟨rfl, hb1.trans (hbi.mono hb1.size)⟩
set_option maxHeartbeats 1000000 in
theorem rkey_any (s : ByteArray) (w : World) (hs : s.size ≤ 140737488355328) :
    Calls Tryz.prog 69 #[.string s] w fun e w' => e = .returned (.bool (keyB s)) ∧ w = w' := by
  obtain ⟨R, hR⟩ : ∃ R, R = keyB s := ⟨_, rfl⟩
  rw [← hR]
  unfold keyB at hR
  have HR := hid hR
  clear hR
  go_enter Tryz.func69, Tryz.ntmps69
  go_wp2_with fail
  go_loop [3] (fun i => ∃ pos : Nat, pos ≤ s.size ∧ i = .int .i64 (pos : Int) ∧ Hid (R = (keyFrom s (s.size - pos) pos && (decide (1 ≤ s.size) && decide (s.size ≤ 32))))) (fun i => s.size - (intOf i).toNat)
  case atStart => exact ⟨0, by omega, rfl, hid (by rw [HR.out]; rfl)⟩
  case round =>
    obtain ⟨pos, hps, rfl, hE⟩ := hrel
    clear HR
    by_cases hp : pos < s.size
    · have dk : decide ((pos : Int) < (s.size : Int)) = true := decide_eq_true (by omega)
      have hix := idx_at s pos hp
      have HS := hid (show keyFrom s (s.size - pos) pos = (keyN (byL s pos) && keyFrom s (s.size - (pos + 1)) (pos + 1)) by
        obtain ⟨m, hm⟩ : ∃ m, s.size - pos = m + 1 := ⟨s.size - pos - 1, by omega⟩
        rw [hm, keyFrom_step s m pos hp]
        congr 2
        omega)
      generalize hbb : byL s pos = b at *
      clear hbb
      by_cases c1 : b < 32
      · have c1' : decide ((b : Int) < 32) = true := decide_eq_true (by omega)
        obtain rfl : R = false := by rw [hE.out, HS.out]; unfold keyN; rw [decide_eq_true c1]; rfl
        go_wp2
        go_ret
        exact ⟨rfl, rfl⟩
      have c1' : decide ((b : Int) < 32) = false := decide_eq_false (by omega)
      by_cases c2 : 125 < b
      · have c2' : decide (125 < (b : Int)) = true := decide_eq_true (by omega)
        obtain rfl : R = false := by rw [hE.out, HS.out]; unfold keyN; rw [decide_eq_true c2]; simp
        go_wp2
        go_ret
        exact ⟨rfl, rfl⟩
      have c2' : decide (125 < (b : Int)) = false := decide_eq_false (by omega)
      by_cases c3 : b = 61
      · obtain rfl : R = false := by rw [hE.out, HS.out]; unfold keyN; rw [decide_eq_true c3]; simp
        subst c3
        go_wp2
        go_ret
        exact ⟨rfl, rfl⟩
      have c3' : decide ((b : Int) = 61) = false := decide_eq_false (by omega)
      have c3e : ((b : Int) == 61) = false := by simp; omega
      have HN := hid (show R = (keyFrom s (s.size - (pos + 1)) (pos + 1) && (decide (1 ≤ s.size) && decide (s.size ≤ 32))) by rw [hE.out, HS.out]; unfold keyN; rw [decide_eq_false c1, decide_eq_false c2, decide_eq_false c3]; rfl)
      clear HS hE c3
      go_wp2
      go_round
      case rel => exact ⟨pos + 1, by omega, by go_num, HN⟩
      case measure => simp [intOf]; omega
    · obtain rfl : pos = s.size := by omega
      have dk : decide ((s.size : Int) < (s.size : Int)) = false := decide_eq_false (by omega)
      have hE2 := hid (show R = (decide (1 ≤ s.size) && decide (s.size ≤ 32)) by rw [hE.out, keyFrom_end s _ _ (by omega)]; rfl)
      clear hE
      by_cases h1 : 1 ≤ s.size
      · have d1 : decide (1 ≤ (s.size : Int)) = true := decide_eq_true (by omega)
        have d2 : decide ((s.size : Int) ≤ 32) = R := by
          rw [hE2.out, decide_eq_true h1]
          simp only [Bool.true_and]
          by_cases h32 : s.size ≤ 32
          · rw [decide_eq_true h32, decide_eq_true (by omega)]
          · rw [decide_eq_false h32, decide_eq_false (by omega)]
        clear hE2
        cases R with
        | true =>
          go_wp2
          go_ret
          exact ⟨rfl, rfl⟩
        | false =>
          go_wp2
          go_ret
          exact ⟨rfl, rfl⟩
      · have d1 : decide (1 ≤ (s.size : Int)) = false := decide_eq_false (by omega)
        obtain rfl : R = false := by rw [hE2.out, decide_eq_false h1]; rfl
        go_wp2
        go_ret
        exact ⟨rfl, rfl⟩
set_option maxHeartbeats 1000000 in
theorem rval_any (s : ByteArray) (w : World) (hs : s.size ≤ 140737488355328) :
    Calls Tryz.prog 71 #[.string s] w fun e w' => e = .returned (.bool (valB s)) ∧ w = w' := by
  obtain ⟨R, hR⟩ : ∃ R, R = valB s := ⟨_, rfl⟩
  rw [← hR]
  unfold valB at hR
  have HR := hid hR
  clear hR
  by_cases h1 : 1024 < s.size
  · have d1 : decide (1024 < (s.size : Int)) = true := decide_eq_true (by omega)
    obtain rfl : R = false := by rw [HR.out, decide_eq_false (show ¬ s.size ≤ 1024 by omega)]; rfl
    go_enter Tryz.func71, Tryz.ntmps71
    go_wp2_with fail
    go_ret
    exact ⟨rfl, rfl⟩
  have d1 : decide (1024 < (s.size : Int)) = false := decide_eq_false (by omega)
  have HK := hid (show R = valFrom s s.size 0 by rw [HR.out, decide_eq_true (show s.size ≤ 1024 by omega)]; rfl)
  clear HR
  go_enter Tryz.func71, Tryz.ntmps71
  go_wp2_with fail
  go_loop [3, 4, 5, 6] (fun i k a b => ∃ pos K : Nat, K ≤ s.size ∧ K ≤ pos ∧ pos ≤ s.size + 4 ∧ i = .int .i64 (pos : Int) ∧ k = .int .i64 (K : Int) ∧ Hid (R = valFrom s (s.size - K) pos)) (fun _ k _ _ => s.size - (intOf k).toNat)
  case atStart => exact ⟨0, 0, by omega, by omega, by omega, rfl, rfl, hid (by rw [HK.out]; rfl)⟩
  case round =>
    obtain ⟨pos, K, hK, hKp, hps, rfl, rfl, hE⟩ := hrel
    clear HK
    by_cases hp : pos < s.size
    · have dk : decide ((K : Int) < (s.size : Int)) = true := decide_eq_true (by omega)
      have dp : decide ((pos : Int) < (s.size : Int)) = true := decide_eq_true (by omega)
      have hL := letter_any s pos w hp hs
      have hw4 : (letL s pos).1 ≤ 4 := by unfold letL; (repeat' split) <;> simp
      have HS := hid (show valFrom s (s.size - K) pos = if (letL s pos).1 = 0 ∨ (letL s pos).2 < 32 then false else valFrom s (s.size - (K + 1)) (pos + (letL s pos).1) by
        obtain ⟨m, hm⟩ : ∃ m, s.size - K = m + 1 := ⟨s.size - K - 1, by omega⟩
        rw [hm, valFrom_step s m pos hp, show s.size - (K + 1) = m by omega])
      generalize letL s pos = L at *
      obtain ⟨n, x⟩ := L
      simp only at hL hw4 HS
      go_wp2_with fail
      refine hL.mono ?_
      rintro e w1 ⟨rfl, rfl⟩
      by_cases c1 : n = 0
      · obtain rfl : R = false := by rw [hE.out, HS.out, if_pos (.inl c1)]
        subst c1
        clear HS hE hL
        go_wp2_with fail
        go_ret
        exact ⟨rfl, rfl⟩
      have c1' : decide ((n : Int) = 0) = false := decide_eq_false (by omega)
      have c1e : ((n : Int) == 0) = false := by simp; omega
      by_cases c2 : x < 32
      · have c2' : decide ((x : Int) < 32) = true := decide_eq_true (by omega)
        obtain rfl : R = false := by rw [hE.out, HS.out, if_pos (.inr c2)]
        clear HS hE hL c1
        go_wp2_with fail
        go_ret
        exact ⟨rfl, rfl⟩
      have c2' : decide ((x : Int) < 32) = false := decide_eq_false (by omega)
      have HN := hid (show R = valFrom s (s.size - (K + 1)) (pos + n) by rw [hE.out, HS.out, if_neg (by omega)])
      have hn1 : 1 ≤ n := by omega
      clear HS hE hL c1
      go_wp2_with fail
      go_round
      case rel => exact ⟨pos + n, K + 1, by omega, by omega, by omega, by go_num, by go_num, HN⟩
      case measure => simp [intOf]; omega
    · obtain rfl : R = true := by rw [hE.out, valFrom_end s _ pos hp]
      have dp : decide ((pos : Int) < (s.size : Int)) = false := decide_eq_false (by omega)
      clear hE
      by_cases hk : K < s.size
      · have dk : decide ((K : Int) < (s.size : Int)) = true := decide_eq_true (by omega)
        go_wp2_with fail
        go_ret
        exact ⟨rfl, rfl⟩
      · have dk : decide ((K : Int) < (s.size : Int)) = false := decide_eq_false (by omega)
        go_wp2_with fail
        go_ret
        exact ⟨rfl, rfl⟩
end Go.Proofs.YtkmhmehofipehaaGreatDoor
