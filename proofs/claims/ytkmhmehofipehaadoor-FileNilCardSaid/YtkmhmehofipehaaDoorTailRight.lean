/- Contracts: rising, Right, of the program and of the reference. -/
import Derived.Test.YtkmhmehofipehaaDoorInts
import Derived.Test.YtkmhmehofipehaaDoorProg
import Derived.Test.YtkmhmehofipehaaDoorKit
import Derived.WalkSpells
import Derived.WalkLawsBesides
namespace Go.Proofs.YtkmhmehofipehaaDoor
set_option linter.unusedVariables false
open Go.RowKit
def fallB (x last en : Int) : Bool := decide (x ≤ last) || decide (en ≤ x)
def risesB (last en : Int) : List Int → Bool
  | [] => true
  | x :: l => !fallB x last en && risesB x en l
def One (w : World) (g : Nat) (z : Int) : Prop := w.heap[g]? = some (.cells #[.int .i64 z] 3 (0, 0))
theorem One.cell {w : World} {g : Nat} {z : Int} (h : One w g z) : w.cell? ⟨g, 0, none⟩ = some (.int .i64 z) := cell_of_row w g 0 _ _ _ h
theorem One.frozen {w : World} {g : Nat} {z : Int} (h : One w g z) : w.frozen? ⟨g, 0, none⟩ = false := frozen_of_row w g 0 _ _ h
theorem One.set {w : World} {g : Nat} {z : Int} (h : One w g z) (y : Int) : One (w.setCell ⟨g, 0, none⟩ (.int .i64 y)) g y := by
  have := heap_setCell_same w g 0 _ _ (.int .i64 y) h
  exact this
theorem One.other {w : World} {g : Nat} {z : Int} (h : One w g z) (p : Addr) (hp : g ≠ p.block) (u : Value) : One (w.setCell p u) g z := (heap_setCell_other w p g u hp).trans h
set_option maxHeartbeats 400000 in
theorem fall_any (x last en : Int) (g0 g1 : Nat) (w : World) (h0 : One w g0 en) (h1 : One w g1 last) :
    Calls Tryd.prog 105 #[.int .i64 x, .pointer (some ⟨g1, 0, none⟩), .pointer (some ⟨g0, 0, none⟩)] w fun e w' => e = .returned (.bool (fallB x last en)) ∧ w.setCell ⟨g1, 0, none⟩ (.int .i64 x) = w' := by
  have hc0 := h0.cell
  have hc1 := h1.cell
  have hf := h1.frozen
  clear h0 h1
  by_cases hx : x ≤ last
  · have hd : decide (x ≤ last) = true := by simpa using hx
    go_enter Tryd.func105, Tryd.ntmps105
    go_wp2
    go_ret
    exact ⟨by rw [fallB, hd]; rfl, rfl⟩
  · have hd : decide (x ≤ last) = false := by simpa using hx
    go_enter Tryd.func105, Tryd.ntmps105
    go_wp2
    go_ret
    exact ⟨by rw [fallB, hd]; rfl, rfl⟩
def IdxPost (w : World) (g1 : Nat) (b : Bool) (e : Ending) (w' : World) : Prop := ∃ r : Int, e = .returned (.int .i64 r) ∧ decide (0 ≤ r) = !b ∧ Below g1 w w'
set_option maxHeartbeats 400000 in
theorem index_any (A : Option Addr) (c : Nat) (l : List Int) (last en : Int) (g0 g1 : Nat) (w : World) (hl : SeesI w A l) (hlen : l.length ≤ 9223372036854775807) (h0 : One w g0 en) (h1 : One w g1 last) (hg : g0 < g1) (hA : ∀ a, A = some a → 0 < l.length → a.block < g1) :
    Calls Tryd.prog 114 #[.slice A l.length c, .func (.func 105) #[] #[.pointer (some ⟨g1, 0, none⟩), .pointer (some ⟨g0, 0, none⟩)]] w (IdxPost w g1 (risesB last en l)) := by
  go_enter Tryd.func114, Tryd.ntmps114
  go_wp2
  go_loopw [8] (fun i wr => ∃ k : Nat, k ≤ l.length ∧ i = .int .i64 k ∧ Below g1 w wr ∧ One wr g0 en ∧ ∃ la : Int, One wr g1 la ∧ risesB last en l = risesB la en (l.drop k)) (fun i _ => l.length - (intOf i).toNat)
  case atStart => exact ⟨0, by omega, rfl, Below.refl _ _, h0, last, h1, rfl⟩
  case round =>
    obtain ⟨k, hk, rfl, hb, ho0, la, ho1, hr⟩ := hrel
    have HR := hid hr
    clear hr
    by_cases hlt : k < l.length
    · obtain ⟨a, rfl, hc⟩ := hl.at hlt
      have hab := hA a rfl (by omega)
      have hcw : wr.cell? (a.add k) = some (.int .i64 l[k]) := (hb.cell (by rw [addr_block]; exact hab)).trans hc
      have hstep : risesB la en (l.drop k) = (!fallB l[k] la en && risesB l[k] en (l.drop (k + 1))) := by rw [List.drop_eq_getElem_cons hlt]; rfl
      have HS := hid hstep
      clear hstep hc
      generalize l[k] = x at hcw HS
      have hd : decide ((k : Int) < l.length) = true := by simp; omega
      by_cases hf : fallB x la en = true
      · go_wp2_with (fail)
        refine (fall_any _ _ _ _ _ _ ho0 ho1).mono ?_
        rintro e w2 ⟨rfl, rfl⟩
        go_wp2_with fail
        go_ret
        exact ⟨k, rfl, by rw [HR.out, HS.out, hf]; simp, hb.setCell (Nat.le_refl _) _⟩
      · have hf' : fallB x la en = false := by simpa using hf
        go_wp2_with (fail)
        refine (fall_any _ _ _ _ _ _ ho0 ho1).mono ?_
        rintro e w2 ⟨rfl, rfl⟩
        go_wp2_with fail
        go_roundw
        case rel => exact ⟨k + 1, by omega, by go_num, hb.setCell (Nat.le_refl _) _, ho0.other _ (by simp; omega) _, x, ho1.set _, by rw [HR.out, HS.out, hf']; rfl⟩
        case measure => simp [intOf]; omega
    · obtain rfl : k = l.length := by omega
      go_wp2_with fail
      go_ret
      exact ⟨-1, rfl, by rw [HR.out, List.drop_length]; rfl, hb⟩
def BoolPost (w : World) (B : Nat) (b : Bool) (e : Ending) (w' : World) : Prop := e = .returned (.bool b) ∧ Below B w w'
set_option maxHeartbeats 400000 in
theorem contains_any (A : Option Addr) (c : Nat) (l : List Int) (last en : Int) (g0 g1 : Nat) (w : World) (hl : SeesI w A l) (hlen : l.length ≤ 9223372036854775807) (h0 : One w g0 en) (h1 : One w g1 last) (hg : g0 < g1) (hA : ∀ a, A = some a → 0 < l.length → a.block < g1) :
    Calls Tryd.prog 104 #[.slice A l.length c, .func (.func 105) #[] #[.pointer (some ⟨g1, 0, none⟩), .pointer (some ⟨g0, 0, none⟩)]] w (BoolPost w g1 (!risesB last en l)) := by
  go_enter Tryd.func104, Tryd.ntmps104
  go_wp2_with fail
  refine (index_any A c l last en g0 g1 w hl hlen h0 h1 hg hA).mono ?_
  rintro e w1 ⟨r, rfl, hr, hb⟩
  have HR := hid hr
  clear hr
  go_wp2_with fail
  go_ret
  exact ⟨by rw [← HR.out]; rfl, hb⟩
set_option maxHeartbeats 400000 in
theorem rising_any (A : Option Addr) (c : Nat) (l : List Int) (en : Int) (w : World) (hl : SeesI w A l) (hlen : l.length ≤ 9223372036854775807) :
    Calls Tryd.prog 73 #[.slice A l.length c, .int .i64 en] w (BoolPost w w.heap.size (risesB (-1) en l)) := by
  have hb : Below w.heap.size w ((w.alloc (.cells #[.int .i64 en] 3)).alloc (.cells #[.int .i64 (-1)] 3)) := ((Below.refl _ w).alloc (Nat.le_refl _) _).alloc (by simp) _
  have hl2 := hl.below hb
  have h0 : One ((w.alloc (.cells #[.int .i64 en] 3)).alloc (.cells #[.int .i64 (-1)] 3)) w.heap.size en := heap_alloc2_old _ _ _
  have h1 : One ((w.alloc (.cells #[.int .i64 en] 3)).alloc (.cells #[.int .i64 (-1)] 3)) (w.heap.size + 1) (-1) := heap_alloc2_new _ _ _
  have hA : ∀ a, A = some a → 0 < l.length → a.block < w.heap.size + 1 := by
    intro a ha h0
    obtain ⟨a', ha', hc⟩ := hl.at h0
    rw [ha] at ha'; injection ha' with ha'; subst ha'
    have := block_lt_of_cell hc
    rw [addr_block] at this; omega
  go_enter Tryd.func73, Tryd.ntmps73
  go_wp2_with fail
  refine (contains_any A c l _ _ _ _ _ hl2 hlen h0 h1 (by omega) hA).mono ?_
  rintro e w1 ⟨rfl, hb1⟩
  go_wp2_with fail
  go_ret
  exact ⟨by simp, hb.trans (hb1.mono (Nat.le_succ _))⟩
def rightB (count : Int) (l : List Int) : Bool := decide (0 ≤ count) && (decide (count ≤ 4294967295) && (decide (l.length ≤ 16777216) && risesB (-1) 1099511627776 l))
def TailV (count sum : Int) (A : Option Addr) (n c : Nat) : Value := .agg #[.int .i64 count, .int .u32 sum, .slice A n c]
set_option maxHeartbeats 400000 in
theorem right_any (count sum : Int) (A : Option Addr) (c : Nat) (l : List Int) (w : World) (hl : SeesI w A l) (hlen : l.length ≤ 9223372036854775807) :
    Calls Tryd.prog 44 #[.agg #[.int .i64 count, .int .u32 sum, .slice A l.length c]] w (BoolPost w w.heap.size (rightB count l)) := by
  go_enter Tryd.func44, Tryd.ntmps44
  go_wp2_with fail
  · have h1 : 0 ≤ count := by assumption
    have h2 : count ≤ 4294967295 := by assumption
    have h3 : (l.length : Int) ≤ 16777216 := by assumption
    have hb : Below w.heap.size w (w.alloc (.cells #[.int .i64 count, .int .u32 sum, .slice A l.length c] 43)) := (Below.refl _ w).alloc (Nat.le_refl _) _
    refine (rising_any A c l 1099511627776 _ (hl.below hb) hlen).mono ?_
    rintro e w1 ⟨rfl, hb1⟩
    go_wp2_with fail
    go_ret
    exact ⟨by rw [rightB]; simp [h1, h2, show l.length ≤ 16777216 by omega], hb.trans (hb1.mono (by simp))⟩
  all_goals
    go_ret
    exact ⟨by rw [rightB]; simp; omega, (Below.refl _ w).alloc (Nat.le_refl _) _⟩
theorem right_is (count sum : Int) (A : Option Addr) (c : Nat) (l : List Int) (w : World) (hl : SeesI w A l) (hlen : l.length ≤ 9223372036854775807) (v : Bool) (hv : rightB count l = v) :
    Calls Tryd.prog 44 #[.agg #[.int .i64 count, .int .u32 sum, .slice A l.length c]] w fun e w' => e = .returned (.bool v) ∧ Below w.heap.size w w' :=
  hv ▸ right_any count sum A c l w hl hlen
end Go.Proofs.YtkmhmehofipehaaDoor
