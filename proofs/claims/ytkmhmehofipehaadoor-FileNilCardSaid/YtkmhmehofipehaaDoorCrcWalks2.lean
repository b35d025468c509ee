/- Contracts of the sums: the table's Next and Sum, the reference's. -/
import Derived.Test.YtkmhmehofipehaaDoorCrcWalks
import Derived.Test.YtkmhmehofipehaaDoorCrcPlain2
namespace Go.Proofs.YtkmhmehofipehaaDoor
set_option linter.unusedVariables false
open Go.RowKit
set_option maxHeartbeats 400000 in
theorem feed_any (g : Nat) (x : Int) (b : UInt8) (w : World) (ht : Tab w g) (h0 : 0 ≤ x) (h1 : x < 4294967296) :
    Calls Tryd.prog 106 #[.pointer (some ⟨g, 0, none⟩), .int .u32 x, .int .u8 (b.toNat : Int)] w fun e w' => e = .returned (.int .u32 (byteI x b)) ∧ w = w' := by
  have hx := xor8_range (x % 256) b.toNat (by omega) (by omega) (by omega) (byte_lt b)
  have hf := hid (feedI x b h0 h1)
  generalize hy : bits .xor .u8 (x % 256) (b.toNat : Int) = y at hx hf
  obtain ⟨Y, rfl⟩ := Int.eq_ofNat_of_zero_le hx.1
  have hc := ht.cell Y (by omega)
  clear ht
  go_enter Tryd.func106, Tryd.ntmps106
  go_wp2
  go_ret
  exact ⟨by rw [← hf.out]; rfl, rfl⟩
set_option maxHeartbeats 400000 in
theorem next_any (g : Nat) (s : Int) (A : Option Addr) (c : Nat) (l : List UInt8) (w : World) (ht : Tab w g) (h0 : 0 ≤ s) (h1 : s < 4294967296) (hl : SeesB w A l) (hlen : l.length ≤ 140737488355328) :
    Calls Tryd.prog 79 #[.pointer (some ⟨g, 0, none⟩), .int .u32 s, .slice A l.length c] w fun e w' => e = .returned (.int .u32 (nextI s l)) ∧ w = w' := by
  have hr := xor32_range s 4294967295 h0 h1 (by omega) (by omega)
  go_enter Tryd.func79, Tryd.ntmps79
  go_wp2
  go_loop [7, 16] (fun x i => ∃ k : Nat, k ≤ l.length ∧ i = .int .i64 k ∧ x = .int .u32 (bytesI (bits .xor .u32 s 4294967295) (l.take k))) (fun _ i => l.length - (intOf i).toNat)
  case atStart => exact ⟨0, by omega, rfl, rfl⟩
  case round =>
    obtain ⟨k, hk, rfl, rfl⟩ := hrel
    have hx := bytesI_range (l.take k) _ hr.1 hr.2
    by_cases hlt : k < l.length
    · obtain ⟨a, rfl, hc⟩ := hl.at hlt
      have hn := hid (bytesI_snoc (bits .xor .u32 s 4294967295) l k hlt)
      generalize hb : l[k] = b at hc hn
      go_wp2_with (go_at_call 106; refine (feed_any g _ b _ ht (by omega) (by omega)).mono ?_; rintro e w' ⟨rfl, rfl⟩)
      go_round
      case rel => exact ⟨k + 1, by omega, by go_num, by rw [hn.out]⟩
      case measure => simp [intOf]; omega
    · obtain rfl : k = l.length := by omega
      go_wp2
      go_ret
      exact ⟨by rw [nextI, ← List.take_length (l := l)]; rfl, rfl⟩
set_option maxHeartbeats 400000 in
theorem rstep_any (x : Int) (w : World) (h0 : 0 ≤ x) (h1 : x < 4294967296) :
    Calls Tryd.prog 108 #[.int .u32 x] w fun e w' => e = .returned (.int .u32 (stepI x)) ∧ w = w' := by
  by_cases h : x % 2 = 1
  · have h' : (x % 2 == 1) = true := beq_iff_eq.2 h
    go_enter Tryd.func108, Tryd.ntmps108
    go_wp2
    go_ret
    exact ⟨by rw [stepI, if_pos h]; rfl, rfl⟩
  · have h' : (x % 2 == 1) = false := beq_eq_false_iff_ne.2 h
    go_enter Tryd.func108, Tryd.ntmps108
    go_wp2
    go_ret
    exact ⟨by rw [stepI, if_neg h]; rfl, rfl⟩
set_option maxHeartbeats 400000 in
theorem eight_any (x : Int) (w : World) (h0 : 0 ≤ x) (h1 : x < 4294967296) :
    Calls Tryd.prog 91 #[.int .u32 x] w fun e w' => e = .returned (.int .u32 (stepsI 8 x)) ∧ w = w' := by
  go_enter Tryd.func91, Tryd.ntmps91
  go_wp2
  go_loop [0, 3] (fun y i => ∃ k : Nat, k ≤ 8 ∧ i = .int .i64 k ∧ y = .int .u32 (stepsI k x)) (fun _ i => 8 - (intOf i).toNat)
  case atStart => exact ⟨0, by omega, rfl, rfl⟩
  case round =>
    obtain ⟨k, hk, rfl, rfl⟩ := hrel
    have hx := stepsI_range k x h0 h1
    by_cases hlt : k < 8
    · go_wp2_with (go_at_call 108; refine (rstep_any _ _ (by omega) (by omega)).mono ?_; rintro e w' ⟨rfl, rfl⟩)
      go_round
      case rel => exact ⟨k + 1, by omega, by go_num, rfl⟩
      case measure => simp [intOf]; omega
    · obtain rfl : k = 8 := by omega
      go_wp2
      go_ret
      exact ⟨rfl, rfl⟩
set_option maxHeartbeats 400000 in
theorem rnext_any (s : Int) (A : Option Addr) (c : Nat) (l : List UInt8) (w : World) (h0 : 0 ≤ s) (h1 : s < 4294967296) (hl : SeesB w A l) (hlen : l.length ≤ 140737488355328) :
    Calls Tryd.prog 61 #[.int .u32 s, .slice A l.length c] w fun e w' => e = .returned (.int .u32 (nextI s l)) ∧ w = w' := by
  have hr := xor32_range s 4294967295 h0 h1 (by omega) (by omega)
  go_enter Tryd.func61, Tryd.ntmps61
  go_wp2
  go_loop [5, 6] (fun x i => ∃ k : Nat, k ≤ l.length ∧ i = .int .i64 k ∧ x = .int .u32 (bytesI (bits .xor .u32 s 4294967295) (l.take k))) (fun _ i => l.length - (intOf i).toNat)
  case atStart => exact ⟨0, by omega, rfl, rfl⟩
  case round =>
    obtain ⟨k, hk, rfl, rfl⟩ := hrel
    have hx := bytesI_range (l.take k) _ hr.1 hr.2
    by_cases hlt : k < l.length
    · obtain ⟨a, rfl, hc⟩ := hl.at hlt
      have hn := hid (bytesI_snoc (bits .xor .u32 s 4294967295) l k hlt)
      generalize hb : l[k] = b at hc hn
      have hbm : (b.toNat : Int) % 4294967296 = b.toNat := by have := byte_lt b; omega
      have hx2 := xor32_range _ (b.toNat : Int) hx.1 hx.2 (by omega) (by have := byte_lt b; omega)
      go_wp2_with (go_at_call 91; refine (eight_any _ _ (by omega) (by omega)).mono ?_; rintro e w' ⟨rfl, rfl⟩)
      go_round
      case rel => exact ⟨k + 1, by omega, by go_num, by rw [hn.out]; rfl⟩
      case measure => simp [intOf]; omega
    · obtain rfl : k = l.length := by omega
      go_wp2
      go_ret
      exact ⟨by rw [nextI, ← List.take_length (l := l)]; rfl, rfl⟩
set_option maxHeartbeats 400000 in
theorem rsum_any (A : Option Addr) (c : Nat) (l : List UInt8) (w : World) (hl : SeesB w A l) (hlen : l.length ≤ 140737488355328) :
    Calls Tryd.prog 35 #[.slice A l.length c] w fun e w' => e = .returned (.int .u32 (sumI l)) ∧ w = w' := by
  go_enter Tryd.func35, Tryd.ntmps35
  go_wp2_with (go_at_call 61; refine (rnext_any 0 _ _ _ _ (by omega) (by omega) hl hlen).mono ?_; rintro e w' ⟨rfl, rfl⟩)
  go_ret
  exact ⟨rfl, rfl⟩
set_option maxHeartbeats 400000 in
theorem sum_any (g : Nat) (A : Option Addr) (c : Nat) (l : List UInt8) (w : World) (ht : Tab w g) (hl : SeesB w A l) (hlen : l.length ≤ 140737488355328) :
    Calls Tryd.prog 48 #[.pointer (some ⟨g, 0, none⟩), .slice A l.length c] w fun e w' => e = .returned (.int .u32 (sumI l)) ∧ w = w' := by
  go_enter Tryd.func48, Tryd.ntmps48
  go_wp2_with (go_at_call 79; refine (next_any g 0 _ _ _ _ ht (by omega) (by omega) hl hlen).mono ?_; rintro e w' ⟨rfl, rfl⟩)
  go_ret
  exact ⟨rfl, rfl⟩
end Go.Proofs.YtkmhmehofipehaaDoor
