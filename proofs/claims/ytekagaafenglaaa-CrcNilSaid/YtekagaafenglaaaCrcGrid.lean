/- Grids of steps: eight, of, twice, skip. -/
import Derived.Test.YtekagaafenglaaaCrcWalks2
import Derived.Deep.WholeRow
namespace Go.Proofs.Ytekagaafenglaaa
set_option linter.unusedVariables false
open Go.RowKit
def GridCs (n : Nat) (cs : Array Value) : Prop := cs.size = 32 ∧ ∀ i : Nat, i < 32 → cs[i]? = some (.int .u32 ((stepsN n (2 ^ i) : Nat) : Int))
/-- block g is the grid of n steps -/
def Grid (w : World) (g n : Nat) : Prop := ∃ cs, w.heap[g]? = some (.cells cs 44 (0, 0)) ∧ GridCs n cs
theorem Grid.cell {w : World} {g n : Nat} (h : Grid w g n) (i : Nat) (hi : i < 32) : w.cell? ⟨g, i, none⟩ = some (.int .u32 ((stepsN n (2 ^ i) : Nat) : Int)) := by
  obtain ⟨cs, h1, h2, h3⟩ := h
  rw [cell_of_row w g i cs _ _ h1]; exact h3 i hi
theorem stepsN_zero (n : Nat) : stepsN n 0 = 0 := by
  induction n with
  | zero => rfl
  | succ n ih => rw [stepsN, ih]; rfl
theorem mod_succ_xor (x k : Nat) : x % 2 ^ (k + 1) = (if x / 2 ^ k % 2 = 1 then x % 2 ^ k ^^^ 2 ^ k else x % 2 ^ k) := by
  apply Nat.eq_of_testBit_eq
  intro i
  have hb : x.testBit k = decide (x / 2 ^ k % 2 = 1) := by rw [Nat.testBit_eq_decide_div_mod_eq]
  split
  · rename_i h
    rw [Nat.testBit_xor, Nat.testBit_mod_two_pow, Nat.testBit_mod_two_pow, Nat.testBit_two_pow]
    by_cases h1 : i = k
    · subst h1; simp [hb, h]
    · by_cases h2 : i < k
      · have : i < k + 1 := by omega
        have h3 : ¬ k = i := by omega
        simp [h2, this, h3]
      · have : ¬ i < k + 1 := by omega
        have h3 : ¬ k = i := by omega
        simp [h2, this, h3]
  · rename_i h
    rw [Nat.testBit_mod_two_pow, Nat.testBit_mod_two_pow]
    by_cases h1 : i = k
    · subst h1; simp [hb, h]
    · by_cases h2 : i < k
      · have : i < k + 1 := by omega
        simp [h2, this]
      · have : ¬ i < k + 1 := by omega
        simp [h2, this]
theorem bit_test (x k : Nat) (hx : x < 4294967296) : (bits .and .u32 ((x : Int) / 2 ^ k) 1 == 1) = decide (x / 2 ^ k % 2 = 1) := by
  have e : ((x : Int) / 2 ^ k) = ((x / 2 ^ k : Nat) : Int) := by simp
  have hl : x / 2 ^ k < 4294967296 := Nat.lt_of_le_of_lt (Nat.div_le_self _ _) hx
  rw [e]
  generalize x / 2 ^ k = y at hl
  rw [and1_u32 _ (by omega) (by omega)]
  rw [Bool.eq_iff_iff]; simp; omega
theorem of_yes {n x k : Nat} (hx : x < 4294967296) (hk : k < 32) (h : (bits .and .u32 ((x : Int) / 2 ^ k) 1 == 1) = true) :
    Value.int .u32 (bits .xor .u32 ((stepsN n (x % 2 ^ k) : Nat) : Int) ((stepsN n (2 ^ k) : Nat) : Int)) = .int .u32 ((stepsN n (x % 2 ^ (k + 1)) : Nat) : Int) := by
  rw [bit_test x k hx] at h
  have h2 : x % 2 ^ k < 4294967296 := Nat.lt_of_le_of_lt (Nat.mod_le _ _) hx
  have h3 : 2 ^ k < 2 ^ 32 := Nat.pow_lt_pow_right (by omega) hk
  rw [xor32_nat _ _ (stepsN_lt _ _ h2) (stepsN_lt _ _ (by omega)), mod_succ_xor, if_pos (by simpa using h), stepsN_xor]
theorem of_no {n x k : Nat} (hx : x < 4294967296) (h : (bits .and .u32 ((x : Int) / 2 ^ k) 1 == 1) = false) :
    Value.int .u32 ((stepsN n (x % 2 ^ k) : Nat) : Int) = .int .u32 ((stepsN n (x % 2 ^ (k + 1)) : Nat) : Int) := by
  rw [bit_test x k hx] at h
  rw [mod_succ_xor, if_neg (by simpa using h)]
set_option maxHeartbeats 400000 in
set_option maxRecDepth 20000 in
theorem of_any (g n : Nat) (x : Nat) (w : World) (hg : Grid w g n) (hx : x < 4294967296) :
    Calls Try.prog 24 #[.pointer (some ⟨g, 0, none⟩), .int .u32 (x : Int)] w fun e w' => e = .returned (.int .u32 ((stepsN n x : Nat) : Int)) ∧ w = w' := by
  go_enter Try.func24, Try.ntmps24
  go_wp2
  go_loop [5, 7] (fun o i => ∃ k : Nat, k ≤ 32 ∧ i = .int .i64 k ∧ o = .int .u32 ((stepsN n (x % 2 ^ k) : Nat) : Int)) (fun _ i => 32 - (intOf i).toNat)
  case atStart => exact ⟨0, by omega, rfl, by rw [Nat.pow_zero, Nat.mod_one, stepsN_zero]; rfl⟩
  case round =>
    obtain ⟨k, hk, rfl, rfl⟩ := hrel
    by_cases hlt : k < 32
    · have hc := hg.cell k hlt
      go_wp2
      · exact ⟨⟨k + 1, by omega, by go_num, of_yes hx hlt ‹_›⟩, by simp [intOf]; omega⟩
      · exact ⟨⟨k + 1, by omega, by go_num, of_no hx ‹_›⟩, by simp [intOf]; omega⟩
    · obtain rfl : k = 32 := by omega
      have hxm := hid (Nat.mod_eq_of_lt hx : x % 2 ^ 32 = x)
      generalize x % 2 ^ 32 = y at hxm
      go_wp2
      go_ret
      exact ⟨by rw [hxm.out]; rfl, rfl⟩
theorem stepsN_add (a b x : Nat) : stepsN a (stepsN b x) = stepsN (a + b) x := by
  induction a with
  | zero => rw [Nat.zero_add]; rfl
  | succ a ih => rw [show a + 1 + b = (a + b) + 1 by omega, stepsN, stepsN, ih]
/-- block g is the grid of n steps, as far as place k -/
def GridTo (w : World) (g n k : Nat) : Prop :=
  ∃ cs : Array Value, w.heap[g]? = some (.cells cs 44 (0, 0)) ∧ cs.size = 32 ∧ ∀ i : Nat, i < k → cs[i]? = some (.int .u32 ((stepsN n (2 ^ i) : Nat) : Int))
theorem GridTo.next {w : World} {g n k : Nat} (h : GridTo w g n k) (hk : k < 32) : GridTo (w.setCell ⟨g, k, none⟩ (.int .u32 ((stepsN n (2 ^ k) : Nat) : Int))) g n (k + 1) := by
  obtain ⟨cs, hcs, hsz, hv⟩ := h
  refine ⟨_, heap_setCell_same _ _ _ _ _ _ hcs, by simpa using hsz, fun j hj => ?_⟩
  by_cases hjk : j = k
  · subst hjk; simp [hsz, hk]
  · rw [Array.getElem?_setIfInBounds_ne (fun h => hjk h.symm)]; exact hv j (by omega)
theorem Grid.keep {w w' : World} {g n B : Nat} (h : Grid w g n) (hb : Below B w w') (hg : g < B) : Grid w' g n := by
  obtain ⟨cs, hcs, hx⟩ := h
  exact ⟨cs, (hb.block g hg).trans hcs, hx⟩
def zeros32 : Array Value := Array.replicate 32 (.int .u32 0)
theorem zeroGrid (w : World) : (zeroValue 44).run Try.prog w = .ok (.agg zeros32) w := by kernel_rfl
set_option maxHeartbeats 400000 in
set_option maxRecDepth 20000 in
theorem eightg_any (w : World) :
    Calls Try.prog 23 #[] w fun e w' => ∃ cs, e = .returned (.agg cs) ∧ GridCs 8 cs ∧ Below w.heap.size w w' := by
  have hz := zeroGrid
  go_enter Try.func23, Try.ntmps23
  go_wp2
  go_loopw [4] (fun i wr => ∃ k : Nat, k ≤ 32 ∧ i = .int .i64 k ∧ Below w.heap.size w wr ∧ wr.heap[w.heap.size]? = some (.cells zeros32 44 (0, 0)) ∧ GridTo wr (w.heap.size + 1) 8 k)
    (fun i _ => 32 - (intOf i).toNat)
  case atStart => exact ⟨0, by omega, rfl, ((Below.refl _ _).alloc (Nat.le_refl _) _).alloc (by simp) _, heap_alloc2_old _ _ _, ⟨zeros32, heap_alloc2_new _ _ _, by decide +kernel, fun j hj => absurd hj (by omega)⟩⟩
  case round =>
    obtain ⟨k, hk, rfl, hb, hr, ht⟩ := hrel
    have HT := hid ht
    have HR := hid hr
    obtain ⟨cs, hcs, hsz, hv⟩ := ht
    clear hr
    by_cases hlt : k < 32
    · clear hv
      obtain ⟨v0, hc⟩ : ∃ v0, wr.cell? ⟨w.heap.size + 1, k, none⟩ = some v0 := ⟨_, (cell_of_row wr _ k cs _ _ hcs).trans (Array.getElem?_eq_getElem (by omega))⟩
      have hf : wr.frozen? ⟨w.heap.size + 1, k, none⟩ = false := frozen_of_row wr _ k cs _ hcs
      clear hcs hsz
      have hd : decide ((k : Int) < 32) = true := by simp; omega
      obtain ⟨p, hp⟩ : ∃ p : Nat, p = 2 ^ k := ⟨_, rfl⟩
      have hp32 : p < 4294967296 := by have h2 : 2 ^ k < 2 ^ 32 := Nat.pow_lt_pow_right (by omega) hlt; omega
      have hpi : (2 : Int) ^ k % 4294967296 = (p : Int) := by
        have e : (2 : Int) ^ k = (p : Int) := by rw [hp]; simp
        rw [e]; omega
      have HP := hid hp
      clear hp
      go_wp2
      rw [hpi]
      go_loop [3, 9] (fun x j => ∃ m : Nat, m ≤ 8 ∧ j = .int .i64 m ∧ x = .int .u32 ((stepsN m p : Nat) : Int)) (fun _ j => 8 - (intOf j).toNat)
      case atStart => exact ⟨0, by omega, rfl, rfl⟩
      case round =>
        obtain ⟨m, hm, rfl, rfl⟩ := hrel
        have hr := stepsN_lt m p hp32
        have hst := hid (stepI_nat _ hr)
        by_cases hln : m < 8
        · go_wp2_with (go_at_call 11; refine (step_any _ _ (by omega) (by omega)).mono ?_; rintro e w' ⟨rfl, rfl⟩)
          go_round
          case rel => exact ⟨m + 1, by omega, by go_num, by rw [hst.out]; rfl⟩
          case measure => simp [intOf]; omega
        · obtain rfl : m = 8 := by omega
          go_wp2
          go_roundw
          case rel => exact ⟨k + 1, by omega, by go_num, hb.setCell (Nat.le_succ _) _, (heap_setCell_other _ _ _ _ (by simp)).trans HR.out, by rw [HP.out]; exact HT.out.next hlt⟩
          case measure => simp [intOf]; omega
    · obtain rfl : k = 32 := by omega
      have hne : (cs.all (·.oneCell')) = true := by
        rw [Array.all_eq_true]
        intro i hi
        have := hv i (by omega)
        rw [Array.getElem?_eq_getElem hi] at this
        injection this with this
        rw [this]; rfl
      have hG : GridCs 8 cs := ⟨hsz, hv⟩
      have HC := hid hcs
      have HV := hid hv
      clear hv hcs
      go_wp2_with (first
        | (refine wpList_load_row rfl 44 (.tmp 1) rfl (w.heap.size + 1) rfl _ cs (0, 0) _ HC.out Try.underlying44 rfl (by rw [hsz]; kernel_rfl) ?_)
        | (refine wpList_store_row rfl 44 (.tmp 0) (.tmp 18) rfl rfl w.heap.size rfl cs rfl _ _ HR.out (by rw [hsz]; kernel_rfl) (by rw [hsz]; decide +kernel) hne ?_))
      exact bodyPost_ret (v := .agg cs) (results_cell_row rfl _ _ w.heap.size _ cs (0, 0) _ rfl (setRow_heap _ _ _ _ _ _ HR.out) Try.underlying44 rfl (by rw [hsz]; kernel_rfl)) rfl ⟨cs, rfl, hG, below_setRow hb (Nat.le_refl _) _⟩
/-! twice -/
theorem GridCs.one {n : Nat} {cs : Array Value} (h : GridCs n cs) : (cs.all (·.oneCell')) = true := by
  rw [Array.all_eq_true]
  intro i hi
  have := h.2 i (by have := h.1; omega)
  rw [Array.getElem?_eq_getElem hi] at this
  injection this with this
  rw [this]; rfl
set_option maxHeartbeats 400000 in
set_option maxRecDepth 20000 in
theorem twice_any (g n : Nat) (w : World) (hg : Grid w g n) (hgl : g < w.heap.size) :
    Calls Try.prog 25 #[.pointer (some ⟨g, 0, none⟩)] w fun e w' => ∃ cs, e = .returned (.agg cs) ∧ GridCs (n + n) cs ∧ Below w.heap.size w w' := by
  have hz := zeroGrid
  go_enter Try.func25, Try.ntmps25
  go_wp2
  go_loopw [5] (fun i wr => ∃ k : Nat, k ≤ 32 ∧ i = .int .i64 k ∧ Below w.heap.size w wr ∧ wr.heap[w.heap.size]? = some (.cells zeros32 44 (0, 0)) ∧ GridTo wr (w.heap.size + 1) (n + n) k)
    (fun i _ => 32 - (intOf i).toNat)
  case atStart => exact ⟨0, by omega, rfl, ((Below.refl _ _).alloc (Nat.le_refl _) _).alloc (by simp) _, heap_alloc2_old _ _ _, ⟨zeros32, heap_alloc2_new _ _ _, by decide +kernel, fun j hj => absurd hj (by omega)⟩⟩
  case round =>
    obtain ⟨k, hk, rfl, hb, hr, ht⟩ := hrel
    have HT := hid ht
    have HR := hid hr
    obtain ⟨cs, hcs, hsz, hv⟩ := ht
    clear hr
    have hgr := hg.keep hb hgl
    by_cases hlt : k < 32
    · clear hv
      obtain ⟨v0, hc⟩ : ∃ v0, wr.cell? ⟨w.heap.size + 1, k, none⟩ = some v0 := ⟨_, (cell_of_row wr _ k cs _ _ hcs).trans (Array.getElem?_eq_getElem (by omega))⟩
      have hf : wr.frozen? ⟨w.heap.size + 1, k, none⟩ = false := frozen_of_row wr _ k cs _ hcs
      clear hcs hsz
      have hd : decide ((k : Int) < 32) = true := by simp; omega
      have hcg := hgr.cell k hlt
      have hp32 : 2 ^ k < 2 ^ 32 := Nat.pow_lt_pow_right (by omega) hlt
      have hs32 := stepsN_lt n (2 ^ k) (by omega)
      have HS := hid (stepsN_add n n (2 ^ k))
      generalize hy : stepsN n (2 ^ k) = y at hcg HS hs32
      clear hy hp32
      go_wp2_with (go_at_call 24; refine (of_any g n y _ hgr (by omega)).mono ?_; rintro e w' ⟨rfl, rfl⟩)
      go_roundw
      case rel => exact ⟨k + 1, by omega, by go_num, hb.setCell (Nat.le_succ _) _, (heap_setCell_other _ _ _ _ (by simp)).trans HR.out, by rw [HS.out]; exact HT.out.next hlt⟩
      case measure => simp [intOf]; omega
    · obtain rfl : k = 32 := by omega
      have hG : GridCs (n + n) cs := ⟨hsz, hv⟩
      have hne := hG.one
      have HC := hid hcs
      clear hv hcs
      go_wp2_with (first
        | (refine wpList_load_row rfl 44 (.tmp 3) rfl (w.heap.size + 1) rfl _ cs (0, 0) _ HC.out Try.underlying44 rfl (by rw [hsz]; kernel_rfl) ?_)
        | (refine wpList_store_row rfl 44 (.tmp 2) (.tmp 18) rfl rfl w.heap.size rfl cs rfl _ _ HR.out (by rw [hsz]; kernel_rfl) (by rw [hsz]; decide +kernel) hne ?_))
      exact bodyPost_ret (v := .agg cs) (results_cell_row rfl _ _ w.heap.size _ cs (0, 0) _ rfl (setRow_heap _ _ _ _ _ _ HR.out) Try.underlying44 rfl (by rw [hsz]; kernel_rfl)) rfl ⟨cs, rfl, hG, below_setRow hb (Nat.le_refl _) _⟩
end Go.Proofs.Ytekagaafenglaaa
