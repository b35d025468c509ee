/- Contracts of crc.Step, crc.Make. -/
import Derived.Test.YtkmhmehofipehaaDoorProg
import Derived.Test.YtkmhmehofipehaaDoorCrcPlain
import Derived.Test.YtkmhmehofipehaaDoorKit
import Derived.WalkKit
import Derived.WalkSpells
import Derived.WalkLawsBesides
namespace Go.Proofs.YtkmhmehofipehaaDoor
set_option linter.unusedVariables false
open Go.RowKit
set_option maxHeartbeats 400000 in
theorem step_any (x : Int) (w : World) (h0 : 0 ≤ x) (h1 : x < 4294967296) :
    Calls Tryd.prog 21 #[.int .u32 x] w fun e w' => e = .returned (.int .u32 (stepI x)) ∧ w = w' := by
  have ha := and1_u32 x h0 h1
  by_cases h : x % 2 = 1
  · have h' : (x % 2 == 1) = true := beq_iff_eq.2 h
    go_enter Tryd.func21, Tryd.ntmps21
    go_wp2
    go_ret
    exact ⟨by rw [stepI, if_pos h]; rfl, rfl⟩
  · have h' : (x % 2 == 1) = false := beq_eq_false_iff_ne.2 h
    go_enter Tryd.func21, Tryd.ntmps21
    go_wp2
    go_ret
    exact ⟨by rw [stepI, if_neg h]; rfl, rfl⟩
def zeros256 : Array Value := Array.replicate 256 (.int .u32 0)
theorem zeroTable (w : World) : (zeroValue 72).run Tryd.prog w = .ok (.agg zeros256) w := by kernel_rfl
/-- block g is the table, as far as place k -/
def TabTo (w : World) (g k : Nat) : Prop :=
  ∃ cs : Array Value, w.heap[g]? = some (.cells cs 72 (0, 0)) ∧ cs.size = 256 ∧ ∀ j : Nat, j < k → cs[j]? = some (.int .u32 (stepsI 8 j))
def Tab (w : World) (g : Nat) : Prop := TabTo w g 256
theorem TabTo.next {w : World} {g k : Nat} (h : TabTo w g k) (hk : k < 256) : TabTo (w.setCell ⟨g, k, none⟩ (.int .u32 (stepsI 8 k))) g (k + 1) := by
  obtain ⟨cs, hcs, hsz, hv⟩ := h
  refine ⟨_, heap_setCell_same _ _ _ _ _ _ hcs, by simpa using hsz, fun j hj => ?_⟩
  by_cases hjk : j = k
  · subst hjk; simp [hsz, hk]
  · rw [Array.getElem?_setIfInBounds_ne (fun h => hjk h.symm)]; exact hv j (by omega)
theorem Tab.cell {w : World} {g : Nat} (h : Tab w g) (j : Nat) (hj : j < 256) : w.cell? ⟨g, j, none⟩ = some (.int .u32 (stepsI 8 j)) := by
  obtain ⟨cs, hcs, hsz, hv⟩ := h
  rw [cell_of_row w g j cs _ _ hcs]; exact hv j hj
theorem Tab.lt {w : World} {g : Nat} (h : Tab w g) : g < w.heap.size := by
  obtain ⟨cs, hcs, _⟩ := h
  exact (Array.getElem?_eq_some_iff.1 hcs).1
theorem Tab.keep {w w' : World} {g B : Nat} (h : Tab w g) (hb : Below B w w') (hg : g < B) : Tab w' g := by
  obtain ⟨cs, hcs, hx⟩ := h
  exact ⟨cs, (hb.block g hg).trans hcs, hx⟩
set_option maxHeartbeats 400000 in
set_option maxRecDepth 20000 in
theorem make_any (w : World) :
    Calls Tryd.prog 11 #[] w fun e w' => e = .returned (.pointer (some ⟨w.heap.size, 0, none⟩)) ∧ Below w.heap.size w w' ∧ Tab w' w.heap.size := by
  have hz := zeroTable
  go_enter Tryd.func11, Tryd.ntmps11
  go_wp2
  go_loopw [6] (fun i wr => ∃ k : Nat, k ≤ 256 ∧ i = .int .i64 k ∧ Below w.heap.size w wr ∧ TabTo wr w.heap.size k)
    (fun i _ => 256 - (intOf i).toNat)
  case atStart => exact ⟨0, by omega, rfl, (Below.refl _ _).alloc (Nat.le_refl _) _, ⟨zeros256, heap_alloc_new _ _, by decide +kernel, fun j hj => absurd hj (by omega)⟩⟩
  case round =>
    obtain ⟨k, hk, rfl, hb, ht⟩ := hrel
    have HT := hid ht
    obtain ⟨cs, hcs, hsz, hv⟩ := ht
    clear hv
    by_cases hlt : k < 256
    · obtain ⟨v0, hc⟩ : ∃ v0, wr.cell? ⟨w.heap.size, k, none⟩ = some v0 := ⟨_, (cell_of_row wr _ k cs _ _ hcs).trans (Array.getElem?_eq_getElem (by omega))⟩
      have hf : wr.frozen? ⟨w.heap.size, k, none⟩ = false := frozen_of_row wr _ k cs _ hcs
      clear hcs hsz
      have hd : decide ((k : Int) < 256) = true := by simp; omega
      go_wp2
      go_loop [3, 11] (fun x j => ∃ n : Nat, n ≤ 8 ∧ j = .int .i64 n ∧ x = .int .u32 (stepsI n k)) (fun _ j => 8 - (intOf j).toNat)
      case atStart => exact ⟨0, by omega, rfl, rfl⟩
      case round =>
        obtain ⟨n, hn, rfl, rfl⟩ := hrel
        have hr := stepsI_range n k (by omega) (by omega)
        by_cases hln : n < 8
        · go_wp2_with (go_at_call 21; refine (step_any _ _ (by omega) (by omega)).mono ?_; rintro e w' ⟨rfl, rfl⟩)
          go_round
          case rel => exact ⟨n + 1, by omega, by go_num, rfl⟩
          case measure => simp [intOf]; omega
        · obtain rfl : n = 8 := by omega
          go_wp2
          go_roundw
          case rel => exact ⟨k + 1, by omega, by go_num, hb.setCell (Nat.le_refl _) _, HT.out.next hlt⟩
          case measure => simp [intOf]; omega
    · obtain rfl : k = 256 := by omega
      clear hcs hsz
      go_wp2
      go_ret
      exact ⟨rfl, hb, HT.out⟩
end Go.Proofs.YtkmhmehofipehaaDoor
