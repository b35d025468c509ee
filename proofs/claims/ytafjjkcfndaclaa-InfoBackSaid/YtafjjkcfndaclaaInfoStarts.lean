/- How bytes begin. -/
import Derived.Test.YtafjjkcfndaclaaInfoRight
import Derived.Test.YtafjjkcfndaclaaConv
import Derived.Test.YtafjjkcfndaclaaTaker
import Derived.WalkSpells
import Derived.Deep.RegionHeld3
import Derived.WalkLawsBesides
namespace Go.Proofs.Ytafjjkcfndaclaa
set_option linter.unusedVariables false
open Go.RowKit
def startsI (l : List UInt8) : Bool := decide (l.take 4 = ([68, 83, 67, 49] : List UInt8).take l.length)
def magicS (n : Nat) : ByteArray := ⟨((([68, 83, 67, 49] : List UInt8).take n)).toArray⟩
theorem magic_take (n : Nat) (h : n ≤ 4) : ((⟨#[68, 83, 67, 49]⟩ : ByteArray).extract 0 n).toList = ([68, 83, 67, 49] : List UInt8).take n := by
  obtain rfl | rfl | rfl | rfl | rfl : n = 0 ∨ n = 1 ∨ n = 2 ∨ n = 3 ∨ n = 4 := by omega
  all_goals (rw [ByteArray.toList_eq]; decide +kernel)
theorem beq_dec (l m : List UInt8) : (l == m) = decide (l = m) := by
  by_cases h : l = m <;> simp [h]
set_option maxHeartbeats 1000000 in
theorem starts_one (A : Option Addr) (c : Nat) (x : UInt8) (w : World) (hl : SeesB w A [x]) (hc : 1 ≤ c) :
    Calls Try.prog 33 #[.slice A 1 c] w fun e w' => e = .returned (.bool (startsI [x])) ∧ Below w.heap.size w w' := by
  have hcv : ∀ W, SeesB W A [x] → (convert 26 9 (.slice A 1 c)).run Try.prog W = .ok (.string ⟨#[x]⟩) W := fun W h => conv_bs A c [x] W h
  have f1 : (1 : Int) ≤ c := by omega
  have hld : SeesB w.drew A [x] := hl
  go_enter Try.func33, Try.ntmps33
  go_wp2_with fail
  go_region_held3 (fun w' => SeesB w' A [x]) (exact hl) (fail)
  go_wp2_with fail
  go_ret
  exact ⟨ret_bool (by first | (rw [magic_take 1 (by omega), beq_dec]; rfl) | (unfold startsI; rfl)), ⟨rfl, rfl, rfl, Nat.le_refl _, fun _ _ => rfl⟩⟩
set_option maxHeartbeats 1000000 in
theorem starts_two (A : Option Addr) (c : Nat) (x y : UInt8) (w : World) (hl : SeesB w A [x, y]) (hc : 2 ≤ c) :
    Calls Try.prog 33 #[.slice A 2 c] w fun e w' => e = .returned (.bool (startsI [x, y])) ∧ Below w.heap.size w w' := by
  have hcv : ∀ W, SeesB W A [x, y] → (convert 26 9 (.slice A 2 c)).run Try.prog W = .ok (.string ⟨#[x, y]⟩) W := fun W h => conv_bs A c [x, y] W h
  have f1 : (2 : Int) ≤ c := by omega
  have hld : SeesB w.drew A [x, y] := hl
  go_enter Try.func33, Try.ntmps33
  go_wp2_with fail
  go_region_held3 (fun w' => SeesB w' A [x, y]) (exact hl) (fail)
  go_wp2_with fail
  go_ret
  exact ⟨ret_bool (by first | (rw [magic_take 2 (by omega), beq_dec]; rfl) | (unfold startsI; rfl)), ⟨rfl, rfl, rfl, Nat.le_refl _, fun _ _ => rfl⟩⟩
set_option maxHeartbeats 1000000 in
theorem starts_three (A : Option Addr) (c : Nat) (x y z : UInt8) (w : World) (hl : SeesB w A [x, y, z]) (hc : 3 ≤ c) :
    Calls Try.prog 33 #[.slice A 3 c] w fun e w' => e = .returned (.bool (startsI [x, y, z])) ∧ Below w.heap.size w w' := by
  have hcv : ∀ W, SeesB W A [x, y, z] → (convert 26 9 (.slice A 3 c)).run Try.prog W = .ok (.string ⟨#[x, y, z]⟩) W := fun W h => conv_bs A c [x, y, z] W h
  have f1 : (3 : Int) ≤ c := by omega
  have hld : SeesB w.drew A [x, y, z] := hl
  go_enter Try.func33, Try.ntmps33
  go_wp2_with fail
  go_region_held3 (fun w' => SeesB w' A [x, y, z]) (exact hl) (fail)
  go_wp2_with fail
  go_ret
  exact ⟨ret_bool (by first | (rw [magic_take 3 (by omega), beq_dec]; rfl) | (unfold startsI; rfl)), ⟨rfl, rfl, rfl, Nat.le_refl _, fun _ _ => rfl⟩⟩
set_option maxHeartbeats 1000000 in
theorem starts_four (A : Option Addr) (c : Nat) (x y z u : UInt8) (w : World) (hl : SeesB w A [x, y, z, u]) (hc : 4 ≤ c) :
    Calls Try.prog 33 #[.slice A 4 c] w fun e w' => e = .returned (.bool (startsI [x, y, z, u])) ∧ Below w.heap.size w w' := by
  have hcv : ∀ W, SeesB W A [x, y, z, u] → (convert 26 9 (.slice A 4 c)).run Try.prog W = .ok (.string ⟨#[x, y, z, u]⟩) W := fun W h => conv_bs A c [x, y, z, u] W h
  have f1 : (4 : Int) ≤ c := by omega
  have hld : SeesB w.drew A [x, y, z, u] := hl
  go_enter Try.func33, Try.ntmps33
  go_wp2_with fail
  go_region_held3 (fun w' => SeesB w' A [x, y, z, u]) (exact hl) (fail)
  go_wp2_with fail
  go_ret
  exact ⟨ret_bool (by first | (rw [magic_take 4 (by omega), beq_dec]; rfl) | (unfold startsI; rfl)), ⟨rfl, rfl, rfl, Nat.le_refl _, fun _ _ => rfl⟩⟩
set_option maxHeartbeats 1000000 in
theorem starts_none (A : Option Addr) (c : Nat) (w : World) :
    Calls Try.prog 33 #[.slice A 0 c] w fun e w' => e = .returned (.bool (startsI [])) ∧ Below w.heap.size w w' := by
  have hcv : ∀ W, (convert 26 9 (.slice A 0 c)).run Try.prog W = .ok (.string ⟨#[]⟩) W := fun W => conv_bs A c [] W (Sees.nil _ _)
  have hcv2 : ∀ W d, (convert 26 9 (.slice A 0 d)).run Try.prog W = .ok (.string ⟨#[]⟩) W := fun W d => conv_bs A d [] W (Sees.nil _ _)
  have f1 : (0 : Int) ≤ c := by omega
  go_enter Try.func33, Try.ntmps33
  go_wp2_with fail
  go_region_held3 (fun w' => w'.heap.size = w.heap.size) (first | rfl | assumption) (fail)
  go_wp2_with fail
  go_ret
  exact ⟨ret_bool (by first | rfl | (rw [magic_take 0 (by omega), beq_dec]; rfl)), ⟨rfl, rfl, rfl, Nat.le_refl _, fun _ _ => rfl⟩⟩
set_option maxHeartbeats 1000000 in
theorem starts_long (A : Option Addr) (c : Nat) (l : List UInt8) (w : World) (hl : SeesB w A l) (hc : l.length ≤ c) (h4 : 5 ≤ l.length) :
    Calls Try.prog 33 #[.slice A l.length c] w fun e w' => e = .returned (.bool (startsI l)) ∧ Below w.heap.size w w' := by
  have hs4 : SeesB w A (l.take 4) := by unfold SeesB; rw [List.map_take]; exact Sees.take hl 4
  have hlen4 : (l.take 4).length = 4 := by rw [List.length_take]; omega
  have HST : Hid (decide (l.take 4 = [68, 83, 67, 49]) = startsI l) := hid (by unfold startsI; rw [List.take_of_length_le (l := [68, 83, 67, 49]) (by simp; omega)])
  generalize l.take 4 = m at *
  have hcv : ∀ W, SeesB W A m → (convert 26 9 (.slice A 4 c)).run Try.prog W = .ok (.string ⟨m.toArray⟩) W := fun W h => by
    have := conv_bs A c m W h
    rw [hlen4] at this
    exact this
  have f1 : (4 : Int) ≤ c := by omega
  have hmin : min (l.length : Int) 4 = 4 := by omega
  have dm1 : decide ((l.length : Int) ≤ 4) = false := by simp; omega
  have dm2 : decide ((l.length : Int) < 4) = false := by simp; omega
  have dm3 : decide (4 < (l.length : Int)) = true := by simp; omega
  have dm4 : decide ((4 : Int) ≤ (l.length : Int)) = true := by simp; omega
  have hld : SeesB w.drew A m := hs4
  have hm4 := hid hlen4
  clear hlen4
  go_enter Try.func33, Try.ntmps33
  go_wp2_with fail
  go_region_held3 (fun w' => SeesB w' A m) (exact hs4) (fail)
  go_wp2_with fail
  go_ret
  exact ⟨ret_bool (by rw [magic_take 4 (by omega), beq_dec]; exact HST.out), ⟨rfl, rfl, rfl, Nat.le_refl _, fun _ _ => rfl⟩⟩
theorem starts_any (A : Option Addr) (c : Nat) (l : List UInt8) (w : World) (hl : SeesB w A l) (hc : l.length ≤ c) :
    Calls Try.prog 33 #[.slice A l.length c] w fun e w' => e = .returned (.bool (startsI l)) ∧ Below w.heap.size w w' := by
  match l, hl, hc with
  | [], _, _ => exact starts_none A c w
  | [x], hl, hc => exact starts_one A c x w hl hc
  | [x, y], hl, hc => exact starts_two A c x y w hl hc
  | [x, y, z], hl, hc => exact starts_three A c x y z w hl hc
  | [x, y, z, u], hl, hc => exact starts_four A c x y z u w hl hc
  | x :: y :: z :: u :: v :: l, hl, hc => exact starts_long A c _ w hl hc (by simp)
end Go.Proofs.Ytafjjkcfndaclaa
