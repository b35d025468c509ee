/- A head read: the reference's Get, where the bytes are enough. -/
import Derived.Test.YtkmhmehofipehaaDoorK6
import Derived.Deep.DeepCutAuto
import Derived.Laws.StructEq
import Derived.WalkSpells
import Derived.WalkLawsBesides
import Derived.Test.YtkmhmehofipehaaDoorK4
import Derived.Deep.RegionHeld3
namespace Go.Proofs.YtkmhmehofipehaaDoor
set_option linter.unusedVariables false
open Go.RowKit
/-- the worlds of the region that makes the head: 0 ahead of the cell, 1 with it, 2 with the values -/
def RefS (w : World) (g : Nat) (new : Array Value) (b : Nat) (w' : World) : Prop :=
  Below w.heap.size w w' ∧ w'.heap[w.heap.size]? = some (.cells #[.int .i64 0, .int .i64 0, .int .i64 0, .int .i64 0, .int .i64 0, .bool false, .int .u32 0, .int .i64 0] 52 (0, 0)) ∧ w.heap.size < g ∧ (b = 0 → w'.heap.size = g) ∧ (b = 1 → w'.heap[g]? = some (.cells #[.int .i64 0, .int .i64 0, .int .i64 0, .int .i64 0, .int .i64 0, .bool false, .int .u32 0, .int .i64 0] 52 (0, 0))) ∧ (b = 2 → w'.heap[g]? = some (.cells new 52 (0, 0)))
theorem RefS.alloc {w w' : World} {g : Nat} {new : Array Value} (h : RefS w g new 0 w') : RefS w g new 1 (w'.alloc (.cells #[.int .i64 0, .int .i64 0, .int .i64 0, .int .i64 0, .int .i64 0, .bool false, .int .u32 0, .int .i64 0] 52)) := by
  obtain ⟨h1, h2, h3, h4, _⟩ := h
  have hb : Below w'.heap.size w' (w'.alloc (.cells #[.int .i64 0, .int .i64 0, .int .i64 0, .int .i64 0, .int .i64 0, .bool false, .int .u32 0, .int .i64 0] 52)) := (Below.refl _ _).alloc (Nat.le_refl _) _
  exact ⟨h1.trans (hb.mono h1.size), (hb.block _ (Array.getElem?_eq_some_iff.1 h2).1).trans h2, h3, fun h => by omega, fun _ => by rw [← h4 rfl]; exact heap_alloc_new _ _, fun h => by omega⟩
theorem RefS.store {w w' : World} {g : Nat} {new : Array Value} (h : RefS w g new 1 w') : RefS w g new 2 (w'.setRow g new) := by
  obtain ⟨h1, h2, h3, _, h5, _⟩ := h
  exact ⟨below_setRow h1 (Nat.le_of_lt h3) new, (setRow_other w' g w.heap.size new (by omega)).trans h2, h3, fun h => by omega, fun h => by omega, fun _ => setRow_heap w' g _ new _ _ (h5 rfl)⟩
set_option maxRecDepth 40000 in
set_option maxHeartbeats 8000000 in
theorem hrget_long (A : Option Addr) (c : Nat) (l : List UInt8) (w : World) (hl : SeesB w A l) (hc : l.length ≤ c) (hcm : c ≤ maxLen) (hlen : l.length ≤ 140737488355328) (hn : 32 ≤ l.length) (hx : ((l[0].toNat : Int) != 222) = false) (hy : ((l[1].toNat : Int) != 92) = false) (hs : startsH l = true) :
    Calls Tryd.prog 54 #[.slice A l.length c] w (GetHPost w (getH l)) := by
  obtain ⟨R, hR⟩ : ∃ R, R = getH l := ⟨_, rfl⟩
  rw [← hR]
  have HR := hid hR
  have HST := hid hs
  clear hR hs
  have hb : Below w.heap.size w (w.alloc (.cells #[.int .i64 0, .int .i64 0, .int .i64 0, .int .i64 0, .int .i64 0, .bool false, .int .u32 0, .int .i64 0] 52)) := (Below.refl _ w).alloc (Nat.le_refl _) _
  have hrow := heap_alloc_new w (.cells #[.int .i64 0, .int .i64 0, .int .i64 0, .int .i64 0, .int .i64 0, .bool false, .int .u32 0, .int .i64 0] 52)
  obtain ⟨a, rfl, _⟩ := hl.at (show 0 < l.length by omega)
  obtain ⟨a0, ha0, b0⟩ := (hl.below hb).at (show 0 < l.length by omega)
  injection ha0 with ha0
  subst ha0
  have q0 : (w.alloc (.cells #[.int .i64 0, .int .i64 0, .int .i64 0, .int .i64 0, .int .i64 0, .bool false, .int .u32 0, .int .i64 0] 52)).cell? a = some (.int .u8 (l[0].toNat : Int)) := b0
  clear b0
  obtain ⟨a1, ha1, b1⟩ := (hl.below hb).at (show 1 < l.length by omega)
  injection ha1 with ha1
  subst ha1
  have q1 : (w.alloc (.cells #[.int .i64 0, .int .i64 0, .int .i64 0, .int .i64 0, .int .i64 0, .bool false, .int .u32 0, .int .i64 0] 52)).cell? { block := a.block, off := a.off + 1 } = some (.int .u8 (l[1].toNat : Int)) := b1
  clear b1
  have d0 : decide (0 < (l.length : Int)) = true := by simp; omega
  have d0' : (0 : Int) < (l.length : Int) := by omega
  have d1 : decide (1 < (l.length : Int)) = true := by simp; omega
  have d1' : (1 : Int) < (l.length : Int) := by omega
  have d2 : decide ((l.length : Int) < 32) = false := by simp; omega
  have g1 : (28 : Int) ≤ c := by omega
  have g2 : ¬ c = 28 := by omega
  have g3 : (28 : Int) ≤ l.length := by omega
  have g4 : (l.length : Int) ≤ c := by omega
  have h28 : (l.take 28).length = 28 := by rw [List.length_take]; omega
  have hsr := sumI_range (l.take 28)
  obtain ⟨S, hS⟩ := Int.eq_ofNat_of_zero_le hsr.1
  have hsum := fun W (hl : SeesB W (some a) (l.take 28)) => rsum_any (some a) c (l.take 28) W hl (by omega)
  rw [h28, hS] at hsum
  rw [hS] at hsr
  have hS4 : S < 4294967296 := by omega
  have HSUM := hid hsum
  have HS := hid hS
  have hmid : Hid (∀ b, okH l = b → S = fldH l 28 4 → R = if b = false then (32, HeadV.zero) else (0, saidH l)) := hid (fun b hb h28 => by
    rw [HR.out]
    unfold getH
    rw [if_neg (by rw [HST.out]; simp), if_neg (by omega), if_neg (by rw [HS.out, h28]; simp), hb])
  have hmid2 : Hid (S ≠ fldH l 28 4 → R = (33, HeadV.zero)) := hid (fun h28 => by
    rw [HR.out]
    unfold getH
    rw [if_neg (by rw [HST.out]; simp), if_neg (by omega), if_pos (by rw [HS.out]; omega)])
  unfold saidH at hmid
  have e2 : (l[2].toNat : Int) = (fldH l 2 1 : Nat) := by unfold fldH; rw [List.drop_eq_getElem_cons (by omega), List.take_succ_cons]; simp [valLE]
  have e3 : (l[3].toNat : Int) = (fldH l 3 1 : Nat) := by unfold fldH; rw [List.drop_eq_getElem_cons (by omega), List.take_succ_cons]; simp [valLE]
  have v2 : fldH l 2 1 < 256 := fldH_lt l 2 1
  have v3 : fldH l 3 1 < 256 := fldH_lt l 3 1
  have v4 : fldH l 4 4 < 4294967296 := fldH_lt l 4 4
  have v8 : fldH l 8 4 < 4294967296 := fldH_lt l 8 4
  have v12 : fldH l 12 4 < 4294967296 := fldH_lt l 12 4
  have v16 : fldH l 16 4 < 4294967296 := fldH_lt l 16 4
  have v20 : fldH l 20 4 < 4294967296 := fldH_lt l 20 4
  have v24 : fldH l 24 4 < 4294967296 := fldH_lt l 24 4
  have v28 : fldH l 28 4 < 4294967296 := fldH_lt l 28 4
  have hok : okH l = (decide (fldH l 3 1 ≤ 1) && rightH (fldH l 2 1 : Nat) (fldH l 4 4 : Nat) (fldH l 8 4 : Nat) (fldH l 12 4 : Nat) (fldH l 16 4 : Nat) (fldH l 3 1 == 1) (fldH l 20 4 : Nat) (fldH l 24 4 : Nat)) := rfl
  have HAT28 : Hid (∀ W, SeesB W (some a) l → Calls Tryd.prog 55 #[.slice (some a) l.length c, .int .i64 28] W fun e w2 => e = .returned (.int .i64 (fldH l 28 4 : Nat)) ∧ W = w2) := hid (fun W hl => hrat_any a c l 28 W hl (by omega) hc hcm)
  have HAT4 : Hid (∀ W, SeesB W (some a) l → Calls Tryd.prog 55 #[.slice (some a) l.length c, .int .i64 4] W fun e w2 => e = .returned (.int .i64 (fldH l 4 4 : Nat)) ∧ W = w2) := hid (fun W hl => hrat_any a c l 4 W hl (by omega) hc hcm)
  have HAT8 : Hid (∀ W, SeesB W (some a) l → Calls Tryd.prog 55 #[.slice (some a) l.length c, .int .i64 8] W fun e w2 => e = .returned (.int .i64 (fldH l 8 4 : Nat)) ∧ W = w2) := hid (fun W hl => hrat_any a c l 8 W hl (by omega) hc hcm)
  have HAT12 : Hid (∀ W, SeesB W (some a) l → Calls Tryd.prog 55 #[.slice (some a) l.length c, .int .i64 12] W fun e w2 => e = .returned (.int .i64 (fldH l 12 4 : Nat)) ∧ W = w2) := hid (fun W hl => hrat_any a c l 12 W hl (by omega) hc hcm)
  have HAT16 : Hid (∀ W, SeesB W (some a) l → Calls Tryd.prog 55 #[.slice (some a) l.length c, .int .i64 16] W fun e w2 => e = .returned (.int .i64 (fldH l 16 4 : Nat)) ∧ W = w2) := hid (fun W hl => hrat_any a c l 16 W hl (by omega) hc hcm)
  have HAT20 : Hid (∀ W, SeesB W (some a) l → Calls Tryd.prog 55 #[.slice (some a) l.length c, .int .i64 20] W fun e w2 => e = .returned (.int .i64 (fldH l 20 4 : Nat)) ∧ W = w2) := hid (fun W hl => hrat_any a c l 20 W hl (by omega) hc hcm)
  have HAT24 : Hid (∀ W, SeesB W (some a) l → Calls Tryd.prog 55 #[.slice (some a) l.length c, .int .i64 24] W fun e w2 => e = .returned (.int .i64 (fldH l 24 4 : Nat)) ∧ W = w2) := hid (fun W hl => hrat_any a c l 24 W hl (by omega) hc hcm)
  generalize fldH l 2 1 = f0 at *
  generalize fldH l 3 1 = L at *
  generalize fldH l 28 4 = su at *
  generalize fldH l 4 4 = f1 at *
  generalize fldH l 8 4 = f2 at *
  generalize fldH l 12 4 = f3 at *
  generalize fldH l 16 4 = f4 at *
  generalize fldH l 20 4 = f6 at *
  generalize fldH l 24 4 = f7 at *
  obtain ⟨lst, hlst⟩ : ∃ b, b = (L == 1) := ⟨_, rfl⟩
  have el : ((L : Int) == 1) = lst := by rw [hlst, Bool.eq_iff_iff]; simp; omega
  rw [← hlst] at hok hmid
  have HOK := hid hok
  clear hsum hS hsr h28 hlst hok HR HST
  go_enter Tryd.func54, Tryd.ntmps54
  go_upto_region 5 with (fail)
  generalize w.alloc (.cells #[.int .i64 0, .int .i64 0, .int .i64 0, .int .i64 0, .int .i64 0, .bool false, .int .u32 0, .int .i64 0] 52) = w0 at *
  have hlt0 : w.heap.size < w0.heap.size := (Array.getElem?_eq_some_iff.1 hrow).1
  have hlw := hl.below hb
  have hl28 : SeesB w0 (some a) (l.take 28) := by unfold SeesB; rw [List.map_take]; exact Sees.take hlw 28
  clear q0 q1 d0 d0' d1 d1' d2 hx hy
  by_cases heq : S = su
  · have dd : ((S : Int) != (su : Int)) = false := by rw [heq]; simp
    have HEQ := hid heq
    clear heq
    go_wp2_with (first | (go_at_call 35; refine (HSUM.out _ hl28).mono ?_; rintro e wb ⟨rfl, rfl⟩) | (go_at_call 55; refine (HAT28.out _ hlw).mono ?_; rintro e wb ⟨rfl, rfl⟩))
    have q2 : ∀ W, Below w.heap.size w W → W.cell? { block := a.block, off := a.off + 2 } = some (.int .u8 (f0 : Nat)) := fun W hW => by
      obtain ⟨x, hx, hc⟩ := (hl.below hW).at (show 2 < l.length by omega)
      injection hx with hx; subst hx
      rw [← e2]; exact hc
    have q3 : ∀ W, Below w.heap.size w W → W.cell? { block := a.block, off := a.off + 3 } = some (.int .u8 (L : Nat)) := fun W hW => by
      obtain ⟨x, hx, hc⟩ := (hl.below hW).at (show 3 < l.length by omega)
      injection hx with hx; subst hx
      rw [← e3]; exact hc
    have y2 : (2 : Int) < l.length := by omega
    have y3 : (3 : Int) < l.length := by omega
    have z0 : IntKind.i64.wrap (f0 : Int) = (f0 : Int) := by rw [IntKind.wrap_i64]; omega
    have z6 : IntKind.u32.wrap (f6 : Int) = (f6 : Int) := by rw [IntKind.wrap_u32]; omega
    clear hl28 dd HSUM HAT28 hS4 v2 v3 g1 g2 g3 g4 e2 e3 hlw
    refine wp_region_held3 (RefS w w0.heap.size #[.int .i64 (f0 : Nat), .int .i64 (f1 : Nat), .int .i64 (f2 : Nat), .int .i64 (f3 : Nat), .int .i64 (f4 : Nat), .bool lst, .int .u32 (f6 : Nat), .int .i64 (f7 : Nat)]) 22 23 (by decide) (by decide) (by decide) (by kernel_rfl) (by kernel_rfl) (by kernel_rfl) ⟨hb.drew, hrow, hlt0, fun _ => rfl, fun h => by omega, fun h => by omega⟩ ?_
    apply held3_yes (by rfl) (by decide)
    · intro b w' h
      go_simp
      first | exact rfl | exact ⟨rfl, h⟩
    (try simp only [Act.put, List.setIfInBounds_toArray, List.set_cons_zero, List.set_cons_succ])
    apply held3_yes (by rfl) (by decide)
    · intro b w' h
      go_simp
      first | exact rfl | exact ⟨rfl, h⟩
    (try simp only [Act.put, List.setIfInBounds_toArray, List.set_cons_zero, List.set_cons_succ])
    apply held3_yes (by rfl) (by decide)
    · intro b w' h
      have k2 := q2 w' h.1
      go_simp
      first | exact rfl | exact ⟨rfl, h⟩
    (try simp only [Act.put, List.setIfInBounds_toArray, List.set_cons_zero, List.set_cons_succ])
    apply held3_yes (by rfl) (by decide)
    · intro b w' h
      go_simp
      first | exact rfl | exact ⟨rfl, h⟩
    (try simp only [Act.put, List.setIfInBounds_toArray, List.set_cons_zero, List.set_cons_succ])
    apply held3_yes (by rfl) (by decide)
    · intro b w' h
      go_simp
      first | exact rfl | exact ⟨rfl, h⟩
    (try simp only [Act.put, List.setIfInBounds_toArray, List.set_cons_zero, List.set_cons_succ])
    apply held3_yes (v := .int .i64 (f1 : Nat)) (by rfl) (by decide)
    · intro b w' h
      have hlk := hl.below h.1
      go_simp
      exact (HAT4.out _ hlk).mono (fun e w'' ⟨he, hb⟩ => ⟨he, hb ▸ h⟩)
    (try simp only [Act.put, List.setIfInBounds_toArray, List.set_cons_zero, List.set_cons_succ])
    apply held3_yes (by rfl) (by decide)
    · intro b w' h
      go_simp
      first | exact rfl | exact ⟨rfl, h⟩
    (try simp only [Act.put, List.setIfInBounds_toArray, List.set_cons_zero, List.set_cons_succ])
    apply held3_yes (v := .int .i64 (f2 : Nat)) (by rfl) (by decide)
    · intro b w' h
      have hlk := hl.below h.1
      go_simp
      exact (HAT8.out _ hlk).mono (fun e w'' ⟨he, hb⟩ => ⟨he, hb ▸ h⟩)
    (try simp only [Act.put, List.setIfInBounds_toArray, List.set_cons_zero, List.set_cons_succ])
    apply held3_yes (by rfl) (by decide)
    · intro b w' h
      go_simp
      first | exact rfl | exact ⟨rfl, h⟩
    (try simp only [Act.put, List.setIfInBounds_toArray, List.set_cons_zero, List.set_cons_succ])
    apply held3_yes (v := .int .i64 (f3 : Nat)) (by rfl) (by decide)
    · intro b w' h
      have hlk := hl.below h.1
      go_simp
      exact (HAT12.out _ hlk).mono (fun e w'' ⟨he, hb⟩ => ⟨he, hb ▸ h⟩)
    (try simp only [Act.put, List.setIfInBounds_toArray, List.set_cons_zero, List.set_cons_succ])
    apply held3_yes (by rfl) (by decide)
    · intro b w' h
      go_simp
      first | exact rfl | exact ⟨rfl, h⟩
    (try simp only [Act.put, List.setIfInBounds_toArray, List.set_cons_zero, List.set_cons_succ])
    apply held3_yes (v := .int .i64 (f4 : Nat)) (by rfl) (by decide)
    · intro b w' h
      have hlk := hl.below h.1
      go_simp
      exact (HAT16.out _ hlk).mono (fun e w'' ⟨he, hb⟩ => ⟨he, hb ▸ h⟩)
    (try simp only [Act.put, List.setIfInBounds_toArray, List.set_cons_zero, List.set_cons_succ])
    apply held3_yes (by rfl) (by decide)
    · intro b w' h
      go_simp
      first | exact rfl | exact ⟨rfl, h⟩
    (try simp only [Act.put, List.setIfInBounds_toArray, List.set_cons_zero, List.set_cons_succ])
    apply held3_yes (by rfl) (by decide)
    · intro b w' h
      go_simp
      first | exact rfl | exact ⟨rfl, h⟩
    (try simp only [Act.put, List.setIfInBounds_toArray, List.set_cons_zero, List.set_cons_succ])
    apply held3_yes (by rfl) (by decide)
    · intro b w' h
      have k3 := q3 w' h.1
      go_simp
      first | exact rfl | exact ⟨rfl, h⟩
    (try simp only [Act.put, List.setIfInBounds_toArray, List.set_cons_zero, List.set_cons_succ])
    apply held3_yes (by rfl) (by decide)
    · intro b w' h
      go_simp
      first | exact rfl | exact ⟨rfl, h⟩
    (try simp only [Act.put, List.setIfInBounds_toArray, List.set_cons_zero, List.set_cons_succ])
    apply held3_yes (by rfl) (by decide)
    · intro b w' h
      go_simp
      first | exact rfl | exact ⟨rfl, h⟩
    (try simp only [Act.put, List.setIfInBounds_toArray, List.set_cons_zero, List.set_cons_succ])
    apply held3_yes (v := .int .i64 (f6 : Nat)) (by rfl) (by decide)
    · intro b w' h
      have hlk := hl.below h.1
      go_simp
      exact (HAT20.out _ hlk).mono (fun e w'' ⟨he, hb⟩ => ⟨he, hb ▸ h⟩)
    (try simp only [Act.put, List.setIfInBounds_toArray, List.set_cons_zero, List.set_cons_succ])
    apply held3_yes (by rfl) (by decide)
    · intro b w' h
      go_simp
      first | exact rfl | exact ⟨rfl, h⟩
    (try simp only [Act.put, List.setIfInBounds_toArray, List.set_cons_zero, List.set_cons_succ])
    apply held3_yes (by rfl) (by decide)
    · intro b w' h
      go_simp
      first | exact rfl | exact ⟨rfl, h⟩
    (try simp only [Act.put, List.setIfInBounds_toArray, List.set_cons_zero, List.set_cons_succ])
    apply held3_yes (v := .int .i64 (f7 : Nat)) (by rfl) (by decide)
    · intro b w' h
      have hlk := hl.below h.1
      go_simp
      exact (HAT24.out _ hlk).mono (fun e w'' ⟨he, hb⟩ => ⟨he, hb ▸ h⟩)
    (try simp only [Act.put, List.setIfInBounds_toArray, List.set_cons_zero, List.set_cons_succ])
    apply held3_yes (by rfl) (by decide)
    · intro b w' h
      go_simp
      first | exact rfl | exact ⟨rfl, h⟩
    (try simp only [Act.put, List.setIfInBounds_toArray, List.set_cons_zero, List.set_cons_succ])
    apply held3_at (v := .pointer (some ⟨w0.heap.size, 0, none⟩)) (by rfl) rfl
    · intro w' h
      have hz := h.2.2.2.1 rfl
      rw [← hz]
      go_simp
      first | exact ⟨rfl, by rw [hz]; exact h.alloc⟩ | exact h.alloc
    (try simp only [Act.put, List.setIfInBounds_toArray, List.set_cons_zero, List.set_cons_succ])
    refine held3_at2 (by rfl) rfl (fun w' h => held_store_row 52 _ _ rfl w0.heap.size (by rfl) _ (by rfl) _ _ (h.2.2.2.2.1 rfl) (by kernel_rfl) (by rfl) (by simp [Value.oneCell']) h.store) ?_
    (try simp only [Act.put])
    refine held3_nil ?_
    rintro w9 ⟨hbw9, hrow9, _, _, _, hr9⟩
    have hr := hr9 rfl
    have hlt9 : w.heap.size < w9.heap.size := (Array.getElem?_eq_some_iff.1 hrow9).1
    have k3 := q3 w9 hbw9
    clear hr9 q2 q3 hrow hb hl z0 z6
    generalize w0.heap.size = g at *
    have hRt := fun W => hrright_any (f0 : Nat) (f1 : Nat) (f2 : Nat) (f3 : Nat) (f4 : Nat) lst (f6 : Nat) (f7 : Nat) W
    by_cases h1 : L ≤ 1
    · have d1 : decide (1 < (L : Int)) = false := by simp; omega
      rw [decide_eq_true h1] at HOK
      generalize rightH (f0 : Nat) (f1 : Nat) (f2 : Nat) (f3 : Nat) (f4 : Nat) lst (f6 : Nat) (f7 : Nat) = rb at *
      have HRT := hid hRt
      clear hRt h1
      have k0 : w9.cell? ⟨g, 0, none⟩ = some (.int .i64 (f0 : Nat)) := by rw [cell_of_row _ _ _ _ _ _ hr]; rfl
      have k1 : w9.cell? ⟨g, 1, none⟩ = some (.int .i64 (f1 : Nat)) := by rw [cell_of_row _ _ _ _ _ _ hr]; rfl
      have k2 : w9.cell? ⟨g, 2, none⟩ = some (.int .i64 (f2 : Nat)) := by rw [cell_of_row _ _ _ _ _ _ hr]; rfl
      have k3' : w9.cell? ⟨g, 3, none⟩ = some (.int .i64 (f3 : Nat)) := by rw [cell_of_row _ _ _ _ _ _ hr]; rfl
      have k4 : w9.cell? ⟨g, 4, none⟩ = some (.int .i64 (f4 : Nat)) := by rw [cell_of_row _ _ _ _ _ _ hr]; rfl
      have k5 : w9.cell? ⟨g, 5, none⟩ = some (.bool lst) := by rw [cell_of_row _ _ _ _ _ _ hr]; rfl
      have k6 : w9.cell? ⟨g, 6, none⟩ = some (.int .u32 (f6 : Nat)) := by rw [cell_of_row _ _ _ _ _ _ hr]; rfl
      have k7 : w9.cell? ⟨g, 7, none⟩ = some (.int .i64 (f7 : Nat)) := by rw [cell_of_row _ _ _ _ _ _ hr]; rfl
      go_wp2_with fail
      clear k0 k1 k2 k3' k4 k5 k6 k7
      refine (HRT.out _).mono ?_
      rintro e w10 ⟨rfl, hb10⟩
      have hbw10 := hbw9.trans (hb10.mono hbw9.size)
      have hrow10 := (hb10.block w.heap.size hlt9).trans hrow9
      have hr10 := (hb10.block g (Array.getElem?_eq_some_iff.1 hr).1).trans hr
      cases rb with
      | false =>
        obtain rfl := by have := hmid.out false (by rw [HOK.out]; rfl) HEQ.out; rwa [if_pos rfl] at this
        clear hmid hmid2 HOK hr hrow9 hbw9 hb10
        go_wp2_with first | (refine wpList_store_row rfl 52 (.tmp 2) (.tmp 69) rfl rfl w.heap.size rfl #[.int .i64 0, .int .i64 0, .int .i64 0, .int .i64 0, .int .i64 0, .bool false, .int .u32 0, .int .i64 0] rfl 52 #[.int .i64 0, .int .i64 0, .int .i64 0, .int .i64 0, .int .i64 0, .bool false, .int .u32 0, .int .i64 0] hrow10 (by kernel_rfl) rfl (by simp [Value.oneCell']) ?_)
        exact bodyPost_ret (v := .tuple #[.agg #[.int .i64 0, .int .i64 0, .int .i64 0, .int .i64 0, .int .i64 0, .bool false, .int .u32 0, .int .i64 0], .int .i64 32]) (results_row_tmp (fn := Tryd.f54) (p := 2) (u := 3) (ty := 52) rfl _ _ w.heap.size _ _ _ _ rfl (setRow_heap _ _ _ _ _ _ hrow10) Tryd.underlying52 rfl (by kernel_rfl)) rfl ⟨rfl, below_setRow hbw10 (Nat.le_refl _) _⟩
      | true =>
        obtain rfl := by have := hmid.out true (by rw [HOK.out]; rfl) HEQ.out; rwa [if_neg (by simp)] at this
        clear hmid hmid2 HOK hr hrow9 hbw9 hb10
        go_wp2_with first | (refine wpList_load_row rfl 52 _ rfl g rfl 52 #[.int .i64 (f0 : Nat), .int .i64 (f1 : Nat), .int .i64 (f2 : Nat), .int .i64 (f3 : Nat), .int .i64 (f4 : Nat), .bool lst, .int .u32 (f6 : Nat), .int .i64 (f7 : Nat)] (0, 0) _ hr10 Tryd.underlying52 rfl (by kernel_rfl) ?_) | (refine wpList_store_row rfl 52 (.tmp 2) (.tmp 70) rfl rfl w.heap.size rfl #[.int .i64 (f0 : Nat), .int .i64 (f1 : Nat), .int .i64 (f2 : Nat), .int .i64 (f3 : Nat), .int .i64 (f4 : Nat), .bool lst, .int .u32 (f6 : Nat), .int .i64 (f7 : Nat)] rfl 52 #[.int .i64 0, .int .i64 0, .int .i64 0, .int .i64 0, .int .i64 0, .bool false, .int .u32 0, .int .i64 0] hrow10 (by kernel_rfl) rfl (by simp [Value.oneCell']) ?_)
        exact bodyPost_ret (v := .tuple #[.agg #[.int .i64 (f0 : Nat), .int .i64 (f1 : Nat), .int .i64 (f2 : Nat), .int .i64 (f3 : Nat), .int .i64 (f4 : Nat), .bool lst, .int .u32 (f6 : Nat), .int .i64 (f7 : Nat)], .int .i64 0]) (results_row_tmp (fn := Tryd.f54) (p := 2) (u := 3) (ty := 52) rfl _ _ w.heap.size _ _ _ _ rfl (setRow_heap _ _ _ _ _ _ hrow10) Tryd.underlying52 rfl (by kernel_rfl)) rfl ⟨rfl, below_setRow hbw10 (Nat.le_refl _) _⟩
    · have d1 : decide (1 < (L : Int)) = true := by simp; omega
      obtain rfl := by have := hmid.out false (by rw [HOK.out, decide_eq_false h1]; rfl) HEQ.out; rwa [if_pos rfl] at this
      clear hmid hmid2 HOK hRt h1
      go_wp2_with first | (refine wpList_load_row rfl 52 _ rfl g rfl 52 #[.int .i64 (f0 : Nat), .int .i64 (f1 : Nat), .int .i64 (f2 : Nat), .int .i64 (f3 : Nat), .int .i64 (f4 : Nat), .bool lst, .int .u32 (f6 : Nat), .int .i64 (f7 : Nat)] (0, 0) _ hr Tryd.underlying52 rfl (by kernel_rfl) ?_) | (refine wpList_store_row rfl 52 (.tmp 2) (.tmp 69) rfl rfl w.heap.size rfl #[.int .i64 0, .int .i64 0, .int .i64 0, .int .i64 0, .int .i64 0, .bool false, .int .u32 0, .int .i64 0] rfl 52 #[.int .i64 0, .int .i64 0, .int .i64 0, .int .i64 0, .int .i64 0, .bool false, .int .u32 0, .int .i64 0] hrow9 (by kernel_rfl) rfl (by simp [Value.oneCell']) ?_)
      exact bodyPost_ret (v := .tuple #[.agg #[.int .i64 0, .int .i64 0, .int .i64 0, .int .i64 0, .int .i64 0, .bool false, .int .u32 0, .int .i64 0], .int .i64 32]) (results_row_tmp (fn := Tryd.f54) (p := 2) (u := 3) (ty := 52) rfl _ _ w.heap.size _ _ _ _ rfl (setRow_heap _ _ _ _ _ _ hrow9) Tryd.underlying52 rfl (by kernel_rfl)) rfl ⟨rfl, below_setRow hbw9 (Nat.le_refl _) _⟩
  · have dd : ((S : Int) != (su : Int)) = true := by simp; omega
    obtain rfl := hmid2.out heq
    clear hmid hmid2 heq HOK
    go_wp2_with (first | (go_at_call 35; refine (HSUM.out _ hl28).mono ?_; rintro e wb ⟨rfl, rfl⟩) | (go_at_call 55; refine (HAT28.out _ hlw).mono ?_; rintro e wb ⟨rfl, rfl⟩) | (refine wpList_store_row rfl 52 (.tmp 2) (.tmp 37) rfl rfl w.heap.size rfl #[.int .i64 0, .int .i64 0, .int .i64 0, .int .i64 0, .int .i64 0, .bool false, .int .u32 0, .int .i64 0] rfl 52 #[.int .i64 0, .int .i64 0, .int .i64 0, .int .i64 0, .int .i64 0, .bool false, .int .u32 0, .int .i64 0] hrow (by kernel_rfl) rfl (by simp [Value.oneCell']) ?_))
    exact bodyPost_ret (v := .tuple #[.agg #[.int .i64 0, .int .i64 0, .int .i64 0, .int .i64 0, .int .i64 0, .bool false, .int .u32 0, .int .i64 0], .int .i64 33]) (results_row_tmp (fn := Tryd.f54) (p := 2) (u := 3) (ty := 52) rfl _ _ w.heap.size _ _ _ _ rfl (setRow_heap _ _ _ _ _ _ hrow) Tryd.underlying52 rfl (by kernel_rfl)) rfl ⟨rfl, below_setRow hb (Nat.le_refl _) _⟩
end Go.Proofs.YtkmhmehofipehaaDoor
/- Both ways to read a head, at any bytes; a head is like itself. -/
namespace Go.Proofs.YtkmhmehofipehaaDoor
set_option linter.unusedVariables false
open Go.RowKit
theorem eq_head (k idx len stp bnd : Int) (lst : Bool) (lnk siz : Int) (w : World) : (Op.equalIn 10000 52 (.agg #[.int .i64 k, .int .i64 idx, .int .i64 len, .int .i64 stp, .int .i64 bnd, .bool lst, .int .u32 lnk, .int .i64 siz]) (.agg #[.int .i64 k, .int .i64 idx, .int .i64 len, .int .i64 stp, .int .i64 bnd, .bool lst, .int .u32 lnk, .int .i64 siz])).run Tryd.prog w = .ok true w := by
  have u3 := Tryd.underlying3
  have a3 := Tryd.isAgg3
  have z3 := Tryd.sizeOf3
  have u4 := Tryd.underlying4
  have a4 := Tryd.isAgg4
  have z4 := Tryd.sizeOf4
  have u5 := Tryd.underlying28
  have a5 := Tryd.isAgg28
  have z5 := Tryd.sizeOf28
  have hS : Tryd.prog.underlying 52 = some (.struct (Tryd.prog.fieldsOf 52)) := by kernel_rfl
  have hp : Tryd.prog.stoodInHeld 52 = false := by kernel_rfl
  rw [show (10000 : Nat) = 9999 + 1 from rfl, run_equalIn_agg w 9999 52 _ _ hS hp]
  simp only [Program.fieldsOf, Tryd.underlying52]
  go_simp
theorem hget_any (t : Nat) (A : Option Addr) (c : Nat) (l : List UInt8) (w : World) (ht : Tab w t) (hl : SeesB w A l) (hc : l.length ≤ c) (hcm : c ≤ maxLen) (hlen : l.length ≤ 140737488355328) :
    Calls Tryd.prog 67 #[.pointer (some ⟨t, 0, none⟩), .slice A l.length c] w (GetHPost w (getH l)) := by
  cases hs : startsH l with
  | false =>
    rw [show getH l = (30, HeadV.zero) by unfold getH; rw [if_pos hs]]
    exact hget_sync t A c l w hl hs
  | true =>
    by_cases hn : l.length < 32
    · rw [show getH l = (10, HeadV.zero) by unfold getH; rw [if_neg (by rw [hs]; simp), if_pos hn]]
      exact hget_end t A c l w hl hs hn
    · exact hget_long t A c l w ht hl hc hcm hlen hs (by omega)
theorem hrget_any (A : Option Addr) (c : Nat) (l : List UInt8) (w : World) (hl : SeesB w A l) (hc : l.length ≤ c) (hcm : c ≤ maxLen) (hlen : l.length ≤ 140737488355328) :
    Calls Tryd.prog 54 #[.slice A l.length c] w (GetHPost w (getH l)) := by
  by_cases h0 : 0 < l.length
  · have g0 : l[0]?.getD 222 = l[0] := by rw [List.getElem?_eq_getElem h0]; rfl
    have b0 := byte_eq l[0] 222 (by omega)
    cases hx : (l[0] == UInt8.ofNat 222) with
    | false =>
      rw [hx] at b0
      have hs : startsH l = false := by unfold startsH; rw [g0, show (l[0] == 222) = false from hx]; rfl
      rw [show getH l = (30, HeadV.zero) by unfold getH; rw [if_pos hs]]
      exact hrget_sync0 A c l w hl h0 b0
    | true =>
      rw [hx] at b0
      by_cases h1 : 1 < l.length
      · have g1 : l[1]?.getD 92 = l[1] := by rw [List.getElem?_eq_getElem h1]; rfl
        have b1 := byte_eq l[1] 92 (by omega)
        cases hy : (l[1] == UInt8.ofNat 92) with
        | false =>
          rw [hy] at b1
          have hs : startsH l = false := by unfold startsH; rw [g0, g1, show (l[0] == 222) = true from hx, show (l[1] == 92) = false from hy]; rfl
          rw [show getH l = (30, HeadV.zero) by unfold getH; rw [if_pos hs]]
          exact hrget_sync1 A c l w hl h1 b0 b1
        | true =>
          rw [hy] at b1
          have hs : startsH l = true := by unfold startsH; rw [g0, g1, show (l[0] == 222) = true from hx, show (l[1] == 92) = true from hy]; rfl
          by_cases hn : l.length < 32
          · rw [show getH l = (10, HeadV.zero) by unfold getH; rw [if_neg (by rw [hs]; simp), if_pos hn]]
            exact hrget_end2 A c l w hl h1 b0 b1 hn
          · exact hrget_long A c l w hl hc hcm hlen (by omega) b0 b1 hs
      · have g1 : l[1]?.getD 92 = 92 := by rw [List.getElem?_eq_none (by omega)]; rfl
        have hs : startsH l = true := by unfold startsH; rw [g0, g1, show (l[0] == 222) = true from hx]; rfl
        rw [show getH l = (10, HeadV.zero) by unfold getH; rw [if_neg (by rw [hs]; simp), if_pos (by omega)]]
        exact hrget_end1 A c l w hl h0 h1 b0
  · have e0 : l.length = 0 := by omega
    have hs : startsH l = true := by obtain rfl := List.length_eq_zero_iff.1 e0; rfl
    rw [show getH l = (10, HeadV.zero) by unfold getH; rw [if_neg (by rw [hs]; simp), if_pos (by omega)]]
    exact hrget_end0 A c l w hl e0
end Go.Proofs.YtkmhmehofipehaaDoor
/- Rows in a region that draws its order. -/
namespace Go.Proofs.YtkmhmehofipehaaDoor
set_option linter.unusedVariables false
open Go.RowKit
theorem run_load_rowop {P : Program} {o : Oper} {a : Act} {w : World} (ty : TypeId) (x : Operand) (ho : o.op = .load ty x) (g : Nat) (hx : a.eval x = .pointer (some ⟨g, 0, none⟩)) (cs : Array Value) (t : TypeId) (fr : Nat × Nat) (hg : w.heap[g]? = some (.cells cs t fr))
    (d : TypeDesc) (hu : P.underlying ty = some d) (hd : (match d with | .struct _ | .array _ _ => true | _ => false) = true) (hi : (P.info? ty).map (·.size) = some cs.size) : (execOp a.eval o).run P w = .ok (.value (.agg cs)) w := by
  have hr := run_loadVar_row w g t ty cs fr d hg hu hd hi
  unfold execOp
  simp only [ho, hx, Instr.loadAt, Instr.sureAddr, Sem.run_bind, Sem.run_pure, Result.andThen_ok, hr]
theorem wpAnyH_takeD {P : Program} {ops : Array Oper} {Q : Exit → Act → World → Prop} {md : Region.Mode} {S : World → Prop} {i : Nat} {oi : Oper} {d : Option Tmp} {v : Value} {fuel : Nat} {listed : Array Bool} {a : Act} {w : World} (hi : ops[i]? = some oi) (hd : oi.dst = d)
    (hs : Region.noSelect ops = true) (hf : Region.free md ops listed i = true) (hr : (Region.ready md ops listed).contains i = true)
    (hQ : ∀ c a w, Q (.panic c) (a.put d v) w → Q (.panic c) a w) (hy : YieldsIf P ops S oi v a) (hS : S w)
    (h : wpAnyH P md ops Q S fuel (listed.setIfInBounds i true) (a.put d v) w) : wpAnyH P md ops Q S (fuel + 1) listed a w := by
  subst hd
  exact wpAnyH_take hi hs hf hr hQ hy hS h
/-- what is seen in other blocks is seen behind a store of a row -/
theorem SeesB.setRowFar {w : World} {A : Option Addr} {l : List UInt8} (h : SeesB w A l) (q : Nat) (new : Array Value) (hne : ∀ a, A = some a → a.block ≠ q) : SeesB (w.setRow q new) A l := by
  intro i v hv
  obtain ⟨a, ha, hc⟩ := h i v hv
  refine ⟨a, ha, (World.cell?_of_block (w := w) ?_).trans hc⟩
  exact setRow_other w q _ new (by rw [addr_block]; exact hne a ha)
end Go.Proofs.YtkmhmehofipehaaDoor
/- A block opened: the program's Open. -/
namespace Go.Proofs.YtkmhmehofipehaaDoor
set_option linter.unusedVariables false
open Go.RowKit
def openH (l : List UInt8) : Int × HeadV × List UInt8 × Int :=
  if (getH l).1 ≠ 0 then ((getH l).1, HeadV.zero, [], 0) else if l.length < 36 + fldH l 24 4 then (10, HeadV.zero, [], 0)
  else if sumI (l.take (32 + fldH l 24 4)) ≠ (fldH l (32 + fldH l 24 4) 4 : Int) then (33, HeadV.zero, [], 0)
  else (0, (getH l).2, (l.drop 32).take (fldH l 24 4), sumI (l.take (32 + fldH l 24 4)))
def OpenPost (w : World) (r : Int × HeadV × List UInt8 × Int) (e : Ending) (w' : World) : Prop :=
  ∃ (A : Option Addr) (c : Nat), e = .returned (.tuple #[.agg r.2.1.cells, .slice A r.2.2.1.length c, .int .u32 r.2.2.2, .int .i64 r.1]) ∧ SeesB w' A r.2.2.1 ∧ r.2.2.1.length ≤ c ∧ c ≤ maxLen ∧ Below w.heap.size w w'
theorem getH_ok {l : List UInt8} (h : (getH l).1 = 0) : startsH l = true ∧ 32 ≤ l.length ∧ sumI (l.take 28) = (fldH l 28 4 : Int) ∧ okH l = true ∧ (getH l).2 = saidH l := by
  unfold getH at h ⊢
  split at h
  · exact absurd h (by decide)
  · split at h
    · exact absurd h (by decide)
    · split at h
      · exact absurd h (by decide)
      · split at h
        · exact absurd h (by decide)
        · rename_i h1 h2 h3 h4
          rw [if_neg h1, if_neg h2, if_neg h3, if_neg h4]
          exact ⟨by simpa using h1, by omega, by simpa using h3, by simpa using h4, rfl⟩
set_option maxHeartbeats 2000000 in
theorem hopen_err (t : Nat) (A : Option Addr) (c : Nat) (l : List UInt8) (w : World) (ht : Tab w t) (hl : SeesB w A l) (hc : l.length ≤ c) (hcm : c ≤ maxLen) (hlen : l.length ≤ 140737488355328) (he : (getH l).1 ≠ 0) :
    Calls Tryd.prog 41 #[.pointer (some ⟨t, 0, none⟩), .slice A l.length c] w (OpenPost w ((getH l).1, HeadV.zero, [], 0)) := by
  have HG := hid (fun W (ht : Tab W t) (hl : SeesB W A l) => hget_any t A c l W ht hl hc hcm hlen)
  have d1 : ((getH l).1 != 0) = true := by simpa using he
  generalize getH l = r at *
  obtain ⟨er, k, idx, len, stp, bnd, lst, lnk, siz⟩ := r
  unfold GetHPost HeadV.cells at HG
  simp only at HG d1
  clear he
  have hb : Below w.heap.size w (w.alloc (.cells #[.int .i64 0, .int .i64 0, .int .i64 0, .int .i64 0, .int .i64 0, .bool false, .int .u32 0, .int .i64 0] 52)) := (Below.refl _ w).alloc (Nat.le_refl _) _
  have hrow := heap_alloc_new w (.cells #[.int .i64 0, .int .i64 0, .int .i64 0, .int .i64 0, .int .i64 0, .bool false, .int .u32 0, .int .i64 0] 52)
  go_enter Tryd.func41, Tryd.ntmps41
  go_wp2_with fail
  generalize w.alloc (.cells #[.int .i64 0, .int .i64 0, .int .i64 0, .int .i64 0, .int .i64 0, .bool false, .int .u32 0, .int .i64 0] 52) = w0 at *
  have hlt0 : w.heap.size < w0.heap.size := (Array.getElem?_eq_some_iff.1 hrow).1
  refine (HG.out w0 (ht.keep hb ht.lt) (hl.below hb)).mono ?_
  rintro e w1 ⟨rfl, hb1⟩
  have hbw1 := hb.trans (hb1.mono hb.size)
  have hrow1 := (hb1.block w.heap.size hlt0).trans hrow
  have hlt1 := Nat.lt_of_lt_of_le hlt0 hb1.size
  have hb2 : Below w1.heap.size w1 (w1.alloc (.cells #[.int .i64 k, .int .i64 idx, .int .i64 len, .int .i64 stp, .int .i64 bnd, .bool lst, .int .u32 lnk, .int .i64 siz] 52)) := (Below.refl _ _).alloc (Nat.le_refl _) _
  have hr2 := heap_alloc_new w1 (.cells #[.int .i64 k, .int .i64 idx, .int .i64 len, .int .i64 stp, .int .i64 bnd, .bool lst, .int .u32 lnk, .int .i64 siz] 52)
  have hbw2 := hbw1.trans (hb2.mono hbw1.size)
  have hrow2 := (hb2.block w.heap.size hlt1).trans hrow1
  have hlt1w := hlt1
  clear hb hrow hb1 hbw1 hrow1 hb2 hlt1 HG
  go_wp2_with first | (refine wpList_store_row rfl 52 (.tmp 4) (.tmp 20) rfl rfl w.heap.size rfl #[.int .i64 0, .int .i64 0, .int .i64 0, .int .i64 0, .int .i64 0, .bool false, .int .u32 0, .int .i64 0] rfl 52 #[.int .i64 0, .int .i64 0, .int .i64 0, .int .i64 0, .int .i64 0, .bool false, .int .u32 0, .int .i64 0] hrow2 (by kernel_rfl) rfl (by simp [Value.oneCell']) ?_)
  exact bodyPost_ret (v := .tuple #[.agg #[.int .i64 0, .int .i64 0, .int .i64 0, .int .i64 0, .int .i64 0, .bool false, .int .u32 0, .int .i64 0], .slice none 0 0, .int .u32 0, .int .i64 er]) (results_row_tmp3 (fn := Tryd.f41) (p := 4) (u := 5) (x := 6) (y := 7) (ty := 52) rfl _ _ w.heap.size _ _ _ _ rfl (setRow_heap _ _ _ _ _ _ hrow2) Tryd.underlying52 rfl (by kernel_rfl)) rfl ⟨none, 0, rfl, Sees.nil _ _, Nat.le_refl _, Nat.zero_le _, below_setRow hbw2 (Nat.le_refl _) _⟩
set_option maxRecDepth 40000 in
set_option maxHeartbeats 8000000 in
theorem hopen_ok (t : Nat) (A : Option Addr) (c : Nat) (l : List UInt8) (w : World) (ht : Tab w t) (hl : SeesB w A l) (hc : l.length ≤ c) (hcm : c ≤ maxLen) (hlen : l.length ≤ 140737488355328) (he : (getH l).1 = 0) :
    Calls Tryd.prog 41 #[.pointer (some ⟨t, 0, none⟩), .slice A l.length c] w (OpenPost w (openH l)) := by
  obtain ⟨_, h32, _, _, hsd⟩ := getH_ok he
  obtain ⟨R, hR⟩ : ∃ R, R = openH l := ⟨_, rfl⟩
  rw [← hR]
  have hgl : getH l = (0, saidH l) := Prod.ext he hsd
  have hR2 : R = if l.length < 36 + fldH l 24 4 then (10, HeadV.zero, [], 0) else if sumI (l.take (32 + fldH l 24 4)) ≠ (fldH l (32 + fldH l 24 4) 4 : Int) then (33, HeadV.zero, [], 0) else (0, saidH l, (l.drop 32).take (fldH l 24 4), sumI (l.take (32 + fldH l 24 4))) := by
    rw [hR]; unfold openH; rw [if_neg (by simpa using he), hsd]
  have HR := hid hR2
  obtain ⟨a, rfl, _⟩ := hl.at (show 0 < l.length by omega)
  have HG := hid (fun W (ht : Tab W t) (hl : SeesB W (some a) l) => hget_any t (some a) c l W ht hl hc hcm hlen)
  rw [hgl] at HG
  unfold GetHPost saidH HeadV.cells at HG
  unfold saidH at HR
  simp only at HG
  have hn : fldH l 24 4 < 4294967296 := fldH_lt l 24 4
  generalize fldH l 24 4 = n at *
  generalize ((fldH l 2 1 : Nat) : Int) = k at *
  generalize ((fldH l 4 4 : Nat) : Int) = idx at *
  generalize ((fldH l 8 4 : Nat) : Int) = len at *
  generalize ((fldH l 12 4 : Nat) : Int) = stp at *
  generalize ((fldH l 16 4 : Nat) : Int) = bnd at *
  generalize (fldH l 3 1 == 1) = lst at *
  generalize ((fldH l 20 4 : Nat) : Int) = lnk at *
  clear hR hR2 hgl hsd he
  by_cases hlong : l.length < 36 + n
  · have d2 : decide ((l.length : Int) < 32 + (n : Int) + 4) = true := decide_eq_true (by omega)
    obtain rfl : R = (10, HeadV.zero, [], 0) := by rw [HR.out, if_pos hlong]
    clear hlong HR
    have hb : Below w.heap.size w (w.alloc (.cells #[.int .i64 0, .int .i64 0, .int .i64 0, .int .i64 0, .int .i64 0, .bool false, .int .u32 0, .int .i64 0] 52)) := (Below.refl _ w).alloc (Nat.le_refl _) _
    have hrow := heap_alloc_new w (.cells #[.int .i64 0, .int .i64 0, .int .i64 0, .int .i64 0, .int .i64 0, .bool false, .int .u32 0, .int .i64 0] 52)
    go_enter Tryd.func41, Tryd.ntmps41
    go_wp2_with fail
    generalize w.alloc (.cells #[.int .i64 0, .int .i64 0, .int .i64 0, .int .i64 0, .int .i64 0, .bool false, .int .u32 0, .int .i64 0] 52) = w0 at *
    have hlt0 : w.heap.size < w0.heap.size := (Array.getElem?_eq_some_iff.1 hrow).1
    refine (HG.out w0 (ht.keep hb ht.lt) (hl.below hb)).mono ?_
    rintro e w1 ⟨rfl, hb1⟩
    have hbw1 := hb.trans (hb1.mono hb.size)
    have hrow1 := (hb1.block w.heap.size hlt0).trans hrow
    have hlt1 := Nat.lt_of_lt_of_le hlt0 hb1.size
    have hb2 : Below w1.heap.size w1 (w1.alloc (.cells #[.int .i64 k, .int .i64 idx, .int .i64 len, .int .i64 stp, .int .i64 bnd, .bool lst, .int .u32 lnk, .int .i64 (n : Nat)] 52)) := (Below.refl _ _).alloc (Nat.le_refl _) _
    have hr2 := heap_alloc_new w1 (.cells #[.int .i64 k, .int .i64 idx, .int .i64 len, .int .i64 stp, .int .i64 bnd, .bool lst, .int .u32 lnk, .int .i64 (n : Nat)] 52)
    have hbw2 := hbw1.trans (hb2.mono hbw1.size)
    have hrow2 := (hb2.block w.heap.size hlt1).trans hrow1
    have hlt1w := hlt1
    clear hb hrow hb1 hbw1 hrow1 hb2 hlt1 HG
    have k7 : (w1.alloc (.cells #[.int .i64 k, .int .i64 idx, .int .i64 len, .int .i64 stp, .int .i64 bnd, .bool lst, .int .u32 lnk, .int .i64 (n : Nat)] 52)).cell? ⟨w1.heap.size, 7, none⟩ = some (.int .i64 (n : Nat)) := by rw [cell_of_row _ _ _ _ _ _ hr2]; rfl
    go_wp2_with first | (refine wpList_store_row rfl 52 (.tmp 4) (.tmp 30) rfl rfl w.heap.size rfl #[.int .i64 0, .int .i64 0, .int .i64 0, .int .i64 0, .int .i64 0, .bool false, .int .u32 0, .int .i64 0] rfl 52 #[.int .i64 0, .int .i64 0, .int .i64 0, .int .i64 0, .int .i64 0, .bool false, .int .u32 0, .int .i64 0] hrow2 (by kernel_rfl) rfl (by simp [Value.oneCell']) ?_)
    exact bodyPost_ret (v := .tuple #[.agg #[.int .i64 0, .int .i64 0, .int .i64 0, .int .i64 0, .int .i64 0, .bool false, .int .u32 0, .int .i64 0], .slice none 0 0, .int .u32 0, .int .i64 10]) (results_row_tmp3 (fn := Tryd.f41) (p := 4) (u := 5) (x := 6) (y := 7) (ty := 52) rfl _ _ w.heap.size _ _ _ _ rfl (setRow_heap _ _ _ _ _ _ hrow2) Tryd.underlying52 rfl (by kernel_rfl)) rfl ⟨none, 0, rfl, Sees.nil _ _, Nat.le_refl _, Nat.zero_le _, below_setRow hbw2 (Nat.le_refl _) _⟩
  have d2 : decide ((l.length : Int) < 32 + (n : Int) + 4) = false := decide_eq_false (by omega)
  have hst : (l.take (32 + n)).length = 32 + n := by rw [List.length_take]; omega
  have hsr := sumI_range (l.take (32 + n))
  obtain ⟨S, hS⟩ := Int.eq_ofNat_of_zero_le hsr.1
  have hsum := fun W (ht : Tab W t) (hl : SeesB W (some a) (l.take (32 + n))) => sum_any t (some a) c (l.take (32 + n)) W ht hl (by omega)
  rw [hst, hS] at hsum
  rw [hS] at hsr
  have hS4 : S < 4294967296 := by omega
  have hdl : (l.drop (32 + n)).length = l.length - (32 + n) := by simp
  have htk := fun W (h : SeesB W (some (a.add (32 + n))) (l.drop (32 + n))) => take_any (some (a.add (32 + n))) (c - (32 + n)) (l.drop (32 + n)) W h (by omega)
  rw [hdl] at htk
  have hu := fun g W (hT : Tk W g 0 0 (l.drop (32 + n))) => takerU_any g 0 0 4 (l.drop (32 + n)) W hT (by omega)
  rw [show takeU (0, 0) (l.drop (32 + n)) 4 = ((0, 4), ((l.drop (32 + n)).drop 0).take 4) from takeU_at 0 4 (l.drop (32 + n)) (by omega) (by omega)] at hu
  unfold UPost at hu
  rw [show valLE (((l.drop (32 + n)).drop 0).take 4) = fldH l (32 + n) 4 from rfl] at hu
  have v5 : fldH l (32 + n) 4 < 4294967296 := fldH_lt l (32 + n) 4
  obtain ⟨p, hp⟩ : ∃ p, p = (l.drop 32).take n := ⟨_, rfl⟩
  have hpl : p.length = n := by rw [hp]; simp; omega
  have hmid : Hid (S ≠ fldH l (32 + n) 4 → R = (33, HeadV.zero, [], 0)) := hid (fun h => by rw [HR.out, if_neg hlong, if_pos (by rw [hS]; omega)])
  have hmid2 : Hid (S = fldH l (32 + n) 4 → R = (0, ⟨k, idx, len, stp, bnd, lst, lnk, n⟩, p, (S : Int))) := hid (fun h => by rw [HR.out, if_neg hlong, if_neg (by rw [hS, h]; simp), hS, hp])
  have htr := fun W (h : SeesB W (some { block := a.block, off := a.off + 32 }) p) => take_any (some { block := a.block, off := a.off + 32 }) (c - 32) p W h (by omega)
  rw [hpl] at htr
  have hra := fun g W (hT : Tk W g 0 0 p) => traw_any g 0 0 (n : Nat) p W hT (by omega) (by omega)
  rw [show takeRaw (0, 0) p (n : Nat) = ((0, n), p) by
    unfold takeRaw tnext
    rw [if_neg (by simp), if_neg (by omega), Int.toNat_natCast, if_neg (by omega), List.drop_zero, ← hpl, List.take_length, Nat.zero_add]] at hra
  generalize fldH l (32 + n) 4 = su at *
  have HSUM := hid hsum
  have HTK := hid htk
  have HU := hid hu
  have HTR := hid htr
  have HRA := hid hra
  have HPL := hid hpl
  have g1 : (32 : Int) + n ≤ c := by omega
  have g2 : ¬ c = 32 + n := by omega
  have g3 : (32 : Int) + n ≤ l.length := by omega
  have g4 : (l.length : Int) ≤ c := by omega
  have g5 : ¬ c = 32 := by omega
  have g6 : (0 : Int) ≤ 32 + n := by omega
  have g7 : (32 : Int) ≤ 32 + n := by omega
  clear hu hsum hS hsr hst hdl htk HR hra htr hpl hlong
  have hb : Below w.heap.size w (w.alloc (.cells #[.int .i64 0, .int .i64 0, .int .i64 0, .int .i64 0, .int .i64 0, .bool false, .int .u32 0, .int .i64 0] 52)) := (Below.refl _ w).alloc (Nat.le_refl _) _
  have hrow := heap_alloc_new w (.cells #[.int .i64 0, .int .i64 0, .int .i64 0, .int .i64 0, .int .i64 0, .bool false, .int .u32 0, .int .i64 0] 52)
  go_enter Tryd.func41, Tryd.ntmps41
  go_wp2_with fail
  generalize w.alloc (.cells #[.int .i64 0, .int .i64 0, .int .i64 0, .int .i64 0, .int .i64 0, .bool false, .int .u32 0, .int .i64 0] 52) = w0 at *
  have hlt0 : w.heap.size < w0.heap.size := (Array.getElem?_eq_some_iff.1 hrow).1
  refine (HG.out w0 (ht.keep hb ht.lt) (hl.below hb)).mono ?_
  rintro e w1 ⟨rfl, hb1⟩
  have hbw1 := hb.trans (hb1.mono hb.size)
  have hrow1 := (hb1.block w.heap.size hlt0).trans hrow
  have hlt1 := Nat.lt_of_lt_of_le hlt0 hb1.size
  have hb2 : Below w1.heap.size w1 (w1.alloc (.cells #[.int .i64 k, .int .i64 idx, .int .i64 len, .int .i64 stp, .int .i64 bnd, .bool lst, .int .u32 lnk, .int .i64 (n : Nat)] 52)) := (Below.refl _ _).alloc (Nat.le_refl _) _
  have hr2 := heap_alloc_new w1 (.cells #[.int .i64 k, .int .i64 idx, .int .i64 len, .int .i64 stp, .int .i64 bnd, .bool lst, .int .u32 lnk, .int .i64 (n : Nat)] 52)
  have hbw2 := hbw1.trans (hb2.mono hbw1.size)
  have hrow2 := (hb2.block w.heap.size hlt1).trans hrow1
  have hlt1w := hlt1
  clear hb hrow hb1 hbw1 hrow1 hb2 hlt1 HG
  have k7 : (w1.alloc (.cells #[.int .i64 k, .int .i64 idx, .int .i64 len, .int .i64 stp, .int .i64 bnd, .bool lst, .int .u32 lnk, .int .i64 (n : Nat)] 52)).cell? ⟨w1.heap.size, 7, none⟩ = some (.int .i64 (n : Nat)) := by rw [cell_of_row _ _ _ _ _ _ hr2]; rfl
  have hlt2 : w.heap.size < (w1.alloc (.cells #[.int .i64 k, .int .i64 idx, .int .i64 len, .int .i64 stp, .int .i64 bnd, .bool lst, .int .u32 lnk, .int .i64 (n : Nat)] 52)).heap.size := (Array.getElem?_eq_some_iff.1 hrow2).1
  have hlw := hl.below hbw2
  have htw := ht.keep hbw2 ht.lt
  have hls : SeesB (w1.alloc (.cells #[.int .i64 k, .int .i64 idx, .int .i64 len, .int .i64 stp, .int .i64 bnd, .bool lst, .int .u32 lnk, .int .i64 (n : Nat)] 52)) (some a) (l.take (32 + n)) := by unfold SeesB; rw [List.map_take]; exact Sees.take hlw (32 + n)
  have hld : SeesB (w1.alloc (.cells #[.int .i64 k, .int .i64 idx, .int .i64 len, .int .i64 stp, .int .i64 bnd, .bool lst, .int .u32 lnk, .int .i64 (n : Nat)] 52)) (some (a.add (32 + n))) (l.drop (32 + n)) := by have := hlw.cutTo (32 + n) (l.length - (32 + n)); rwa [List.take_of_length_le (by simp)] at this
  go_wp2_with fail
  generalize w1.alloc (.cells #[.int .i64 k, .int .i64 idx, .int .i64 len, .int .i64 stp, .int .i64 bnd, .bool lst, .int .u32 lnk, .int .i64 (n : Nat)] 52) = w2 at *
  refine (HSUM.out _ htw hls).mono ?_
  rintro e w3 ⟨rfl, rfl⟩
  go_wp2_with fail
  have hlt1 : w1.heap.size < w2.heap.size := (Array.getElem?_eq_some_iff.1 hr2).1
  refine (HTK.out _ hld).mono ?_
  rintro e w3 ⟨g, rfl, hg, hT3, hb3⟩
  have hbw3 := hbw2.trans (hb3.mono hbw2.size)
  have hrow3 := (hb3.block w.heap.size hlt2).trans hrow2
  have hr3 := (hb3.block w1.heap.size hlt1).trans hr2
  have hlt3 := Nat.lt_of_lt_of_le hlt2 hb3.size
  have hlt13 := Nat.lt_of_lt_of_le hlt1 hb3.size
  clear hb3 hbw2 hrow2 hr2 k7 hld hls htw hlw HTK HSUM
  go_wp2_with fail
  refine (HU.out g _ hT3).mono ?_
  rintro e w4 ⟨rfl, hT4, hB4⟩
  have hbw4 := But.below hbw3 hB4 (fun b h => by have h2 : b = g := h; omega) hbw3.size
  have hrow4 := (hB4.block w.heap.size hlt3 (fun h => by have h2 : w.heap.size = g := h; omega)).trans hrow3
  have hr4 := (hB4.block w1.heap.size hlt13 (fun h => by have h2 : w1.heap.size = g := h; omega)).trans hr3
  have hlt4 := Nat.lt_of_lt_of_le hlt3 hB4.size
  have hlt14 := Nat.lt_of_lt_of_le hlt13 hB4.size
  clear hT3 hB4 hT4 hbw3 hrow3 hr3 HU hlt3 hlt13 hg
  by_cases heq : S = su
  · have dd : ((S : Int) != (su : Int)) = false := by rw [heq]; simp
    obtain rfl := hmid2.out heq
    have hl4 := hl.below hbw4
    have hlp : SeesB w4.drew (some { block := a.block, off := a.off + 32 }) p := by rw [hp]; exact hl4.cutTo 32 n
    have hr5 : w4.drew.heap[w1.heap.size]? = some (.cells #[.int .i64 k, .int .i64 idx, .int .i64 len, .int .i64 stp, .int .i64 bnd, .bool lst, .int .u32 lnk, .int .i64 (n : Nat)] 52 (0, 0)) := hr4
    have hrow5 : w4.drew.heap[w.heap.size]? = some (.cells #[.int .i64 0, .int .i64 0, .int .i64 0, .int .i64 0, .int .i64 0, .bool false, .int .u32 0, .int .i64 0] 52 (0, 0)) := hrow4
    have hbw5 : Below w.heap.size w w4.drew := hbw4.drew
    have hlt5 : w.heap.size < w4.drew.heap.size := hlt4
    have hlt15 : w1.heap.size < w4.drew.heap.size := hlt14
    have hw1 : w.heap.size ≤ w1.heap.size := Nat.le_of_lt hlt1w
    clear heq hmid hmid2 hp hl4 hl
    go_wp2_with fail
    refine wp_region_held_drew (S := fun w' => w'.heap[w1.heap.size]? = some (.cells #[.int .i64 k, .int .i64 idx, .int .i64 len, .int .i64 stp, .int .i64 bnd, .bool lst, .int .u32 lnk, .int .i64 (n : Nat)] 52 (0, 0))) (by kernel_rfl) hr5 (fun hHeld => ?_)
    refine wpAnyH_takeD (i := 0) (d := some 45) (v := (.agg #[.int .i64 k, .int .i64 idx, .int .i64 len, .int .i64 stp, .int .i64 bnd, .bool lst, .int .u32 lnk, .int .i64 (n : Nat)])) rfl rfl (by kernel_rfl) (by kernel_rfl) (by kernel_rfl) (fun _ _ _ h => h) (Or.inl ⟨by rfl, ?hy0⟩) hHeld ?rest0
    case hy0 =>
      intro wS hS
      exact run_load_rowop 52 (.tmp 8) rfl w1.heap.size (by rfl) #[.int .i64 k, .int .i64 idx, .int .i64 len, .int .i64 stp, .int .i64 bnd, .bool lst, .int .u32 lnk, .int .i64 (n : Nat)] _ _ hS _ Tryd.underlying52 rfl (by kernel_rfl)
    (try simp only [Act.put, List.setIfInBounds_toArray, List.set_cons_zero, List.set_cons_succ])
    refine wpAnyH_takeD (i := 1) (d := some 46) (v := ?v1) rfl rfl (by kernel_rfl) (by kernel_rfl) (by kernel_rfl) (fun _ _ _ h => h) (Or.inl ⟨by rfl, ?hy1⟩) hHeld ?rest1
    case hy1 =>
      intro wS hS
      go_simp
      all_goals with_reducible rfl
    (try simp only [Act.put, List.setIfInBounds_toArray, List.set_cons_zero, List.set_cons_succ])
    refine wpAnyH_takeD (i := 2) (d := some 47) (v := ?v2) rfl rfl (by kernel_rfl) (by kernel_rfl) (by kernel_rfl) (fun _ _ _ h => h) (Or.inl ⟨by rfl, ?hy2⟩) hHeld ?rest2
    case hy2 =>
      intro wS hS
      go_simp
      all_goals with_reducible rfl
    (try simp only [Act.put, List.setIfInBounds_toArray, List.set_cons_zero, List.set_cons_succ])
    refine wpAnyH_takeD (i := 3) (d := some 48) (v := ?v3) rfl rfl (by kernel_rfl) (by kernel_rfl) (by kernel_rfl) (fun _ _ _ h => h) (Or.inl ⟨by rfl, ?hy3⟩) hHeld ?rest3
    case hy3 =>
      intro wS hS
      go_simp
      all_goals with_reducible rfl
    (try simp only [Act.put, List.setIfInBounds_toArray, List.set_cons_zero, List.set_cons_succ])
    refine wpAnyH_takeD (i := 5) (d := some 50) (v := ?v5) rfl rfl (by kernel_rfl) (by kernel_rfl) (by kernel_rfl) (fun _ _ _ h => h) (Or.inl ⟨by rfl, ?hy5⟩) hHeld ?rest5
    case hy5 =>
      intro wS hS
      go_simp
      all_goals with_reducible rfl
    (try simp only [Act.put, List.setIfInBounds_toArray, List.set_cons_zero, List.set_cons_succ])
    refine wpAnyH_takeD (i := 6) (d := some 51) (v := ?v6) rfl rfl (by kernel_rfl) (by kernel_rfl) (by kernel_rfl) (fun _ _ _ h => h) (Or.inl ⟨by rfl, ?hy6⟩) hHeld ?rest6
    case hy6 =>
      intro wS hS
      have k7 : wS.cell? ⟨w1.heap.size, 7, none⟩ = some (.int .i64 (n : Nat)) := by rw [cell_of_row _ _ _ _ _ _ hS]; rfl
      go_simp
      all_goals with_reducible rfl
    (try simp only [Act.put, List.setIfInBounds_toArray, List.set_cons_zero, List.set_cons_succ])
    refine wpAnyH_takeD (i := 8) (d := some 53) (v := ?v8) rfl rfl (by kernel_rfl) (by kernel_rfl) (by kernel_rfl) (fun _ _ _ h => h) (Or.inl ⟨by rfl, ?hy8⟩) hHeld ?rest8
    case hy8 =>
      intro wS hS
      go_simp
      all_goals with_reducible rfl
    (try simp only [Act.put, List.setIfInBounds_toArray, List.set_cons_zero, List.set_cons_succ])
    refine wpAnyH_ready (rs := [4]) (by kernel_rfl) (by simp) (AllReadyH.cons rfl (fun K hK => ?_) AllReadyH.nil)
    rw [if_pos (by rfl)]
    go_simp
    rw [show (32 + (n : Int)).toNat - 32 = n by omega]
    refine (HTR.out _ hlp).mono ?_
    rintro e w6 ⟨g2, rfl, hg2, hT6, hb6⟩
    have hbw6 := hbw5.trans (hb6.mono hbw5.size)
    have hrow6 := (hb6.block w.heap.size hlt5).trans hrow5
    have hr6 := (hb6.block w1.heap.size hlt15).trans hr5
    have hlt6 := Nat.lt_of_lt_of_le hlt5 hb6.size
    have hlt16 := Nat.lt_of_lt_of_le hlt15 hb6.size
    go_wp2_with fail
    refine hK.out _ _ hr6 (fun hHeld => ?_)
    clear hK K
    (try simp only [Act.put, List.setIfInBounds_toArray, List.set_cons_zero, List.set_cons_succ])
    refine wpAnyH_ready (rs := [7]) (by kernel_rfl) (by simp) (AllReadyH.cons rfl (fun K hK => ?_) AllReadyH.nil)
    rw [if_pos (by rfl)]
    go_simp
    refine (HRA.out g2 _ hT6).mono ?_
    rintro e w7 ⟨A7, c7, rfl, hs7, hA7, hp7, hc7, hT7, hB7⟩
    have hbw7 := But.below hbw6 hB7 (fun b h => by have h2 : b = g2 := h; omega) hbw6.size
    have hrow7 := (hB7.block w.heap.size hlt6 (fun h => by have h2 : w.heap.size = g2 := h; omega)).trans hrow6
    have hr7 := (hB7.block w1.heap.size hlt16 (fun h => by have h2 : w1.heap.size = g2 := h; omega)).trans hr6
    have hs8 := hs7.setRowFar w.heap.size #[.int .i64 k, .int .i64 idx, .int .i64 len, .int .i64 stp, .int .i64 bnd, .bool lst, .int .u32 lnk, .int .i64 (n : Nat)] (fun a ha => by have := (hA7 a ha).1; omega)
    have hrow8 := setRow_heap w7 w.heap.size _ #[.int .i64 k, .int .i64 idx, .int .i64 len, .int .i64 stp, .int .i64 bnd, .bool lst, .int .u32 lnk, .int .i64 (n : Nat)] _ _ hrow7
    have hr8 := (setRow_other w7 w.heap.size w1.heap.size #[.int .i64 k, .int .i64 idx, .int .i64 len, .int .i64 stp, .int .i64 bnd, .bool lst, .int .u32 lnk, .int .i64 (n : Nat)] (by omega)).trans hr7
    have hbw8 := below_setRow hbw7 (Nat.le_refl _) #[.int .i64 k, .int .i64 idx, .int .i64 len, .int .i64 stp, .int .i64 bnd, .bool lst, .int .u32 lnk, .int .i64 (n : Nat)]
    simp only at hp7 hs7 hs8
    go_wp2_with fail
    refine hK.out _ _ hr7 (fun hHeld => ?_)
    clear hK K
    (try simp only [Act.put, List.setIfInBounds_toArray, List.set_cons_zero, List.set_cons_succ])
    refine wpAnyH_ready (rs := [9]) (by kernel_rfl) (by simp) (AllReadyH.cons rfl (fun K hK => ?_) AllReadyH.nil)
    rw [if_pos (by rfl)]
    refine wp_store_row 52 (.tmp 4) (.tmp 45) rfl rfl w.heap.size rfl #[.int .i64 k, .int .i64 idx, .int .i64 len, .int .i64 stp, .int .i64 bnd, .bool lst, .int .u32 lnk, .int .i64 (n : Nat)] rfl 52 #[.int .i64 0, .int .i64 0, .int .i64 0, .int .i64 0, .int .i64 0, .bool false, .int .u32 0, .int .i64 0] hrow7 (by kernel_rfl) rfl (by simp [Value.oneCell']) ?_
    refine hK.out _ _ hr8 (fun hHeld => ?_)
    clear hK K
    (try simp only [Act.put, List.setIfInBounds_toArray, List.set_cons_zero, List.set_cons_succ])
    refine wpAnyH_takeD (i := 10) (d := some 5) (v := ?v10) rfl rfl (by kernel_rfl) (by kernel_rfl) (by kernel_rfl) (fun _ _ _ h => h) (Or.inl ⟨by rfl, ?hy10⟩) hHeld ?rest10
    case hy10 =>
      intro wS hS
      go_simp
      all_goals with_reducible rfl
    (try simp only [Act.put, List.setIfInBounds_toArray, List.set_cons_zero, List.set_cons_succ])
    refine wpAnyH_takeD (i := 11) (d := some 6) (v := ?v11) rfl rfl (by kernel_rfl) (by kernel_rfl) (by kernel_rfl) (fun _ _ _ h => h) (Or.inl ⟨by rfl, ?hy11⟩) hHeld ?rest11
    case hy11 =>
      intro wS hS
      go_simp
      all_goals with_reducible rfl
    (try simp only [Act.put, List.setIfInBounds_toArray, List.set_cons_zero, List.set_cons_succ])
    refine wpAnyH_takeD (i := 12) (d := some 7) (v := ?v12) rfl rfl (by kernel_rfl) (by kernel_rfl) (by kernel_rfl) (fun _ _ _ h => h) (Or.inl ⟨by rfl, ?hy12⟩) hHeld ?rest12
    case hy12 =>
      intro wS hS
      go_simp
      all_goals with_reducible rfl
    (try simp only [Act.put, List.setIfInBounds_toArray, List.set_cons_zero, List.set_cons_succ])
    refine wpAnyH_done (by kernel_rfl) ?_ _
    go_wp2_with fail
    exact bodyPost_ret (v := .tuple #[.agg #[.int .i64 k, .int .i64 idx, .int .i64 len, .int .i64 stp, .int .i64 bnd, .bool lst, .int .u32 lnk, .int .i64 (n : Nat)], .slice A7 p.length c7, .int .u32 (S : Int), .int .i64 0]) (results_row_tmp3 (fn := Tryd.f41) (p := 4) (u := 5) (x := 6) (y := 7) (ty := 52) rfl _ _ w.heap.size _ _ _ _ rfl hrow8 Tryd.underlying52 rfl (by kernel_rfl)) rfl ⟨A7, c7, rfl, hs8, hp7, hc7, hbw8⟩
  · have dd : ((S : Int) != (su : Int)) = true := by simp; omega
    obtain rfl := hmid.out heq
    clear heq hmid hmid2
    go_wp2_with first | (refine wpList_store_row rfl 52 (.tmp 4) (.tmp 44) rfl rfl w.heap.size rfl #[.int .i64 0, .int .i64 0, .int .i64 0, .int .i64 0, .int .i64 0, .bool false, .int .u32 0, .int .i64 0] rfl 52 #[.int .i64 0, .int .i64 0, .int .i64 0, .int .i64 0, .int .i64 0, .bool false, .int .u32 0, .int .i64 0] hrow4 (by kernel_rfl) rfl (by simp [Value.oneCell']) ?_)
    exact bodyPost_ret (v := .tuple #[.agg #[.int .i64 0, .int .i64 0, .int .i64 0, .int .i64 0, .int .i64 0, .bool false, .int .u32 0, .int .i64 0], .slice none 0 0, .int .u32 0, .int .i64 33]) (results_row_tmp3 (fn := Tryd.f41) (p := 4) (u := 5) (x := 6) (y := 7) (ty := 52) rfl _ _ w.heap.size _ _ _ _ rfl (setRow_heap _ _ _ _ _ _ hrow4) Tryd.underlying52 rfl (by kernel_rfl)) rfl ⟨none, 0, rfl, Sees.nil _ _, Nat.le_refl _, Nat.zero_le _, below_setRow hbw4 (Nat.le_refl _) _⟩
end Go.Proofs.YtkmhmehofipehaaDoor
