/- slices.Concat of two slices of bytes. -/
import Derived.Test.YtkmhmehofipehaaDoorPutU
import Derived.Lib.AppendZerosOnto
namespace Go.Proofs.YtkmhmehofipehaaDoor
set_option linter.unusedVariables false
open Go.RowKit
theorem grow_info : (Tryd.prog.info? 5).map (fun i => (i.zero, i.size, i.bytes)) = some (some (.int .u8 0), 1, 1) := by kernel_rfl
def GrowPost (w : World) (e : Ending) (w' : World) : Prop := ∃ c : Nat, e = .returned (.slice (some ⟨w.heap.size, 0, none⟩) 0 c) ∧ w'.ownsRow w.heap.size 5 1 (.slice (some ⟨w.heap.size, 0, none⟩) 0 c) 0 [] ∧ Below w.heap.size w w'
set_option maxRecDepth 20000 in
set_option maxHeartbeats 1000000 in
theorem grow_none (n : Nat) (w : World) (h0 : 0 < n) (hn : n ≤ 70368744177664) :
    Calls Tryd.prog 66 #[.slice none 0 0, .int .i64 (n : Int)] w (GrowPost w) := by
  obtain ⟨i, hi, hz, hs, hb⟩ := info_parts grow_info
  have hold : (Builtin.firstCells i.size 0 (.slice none 0 0)).run Tryd.prog w.drew = .ok ([] : List Value).toArray w.drew := by rw [hs]; rfl
  have hrz := fun ty => Lib.run_append_grow_zeros (P := Tryd.prog) w 32 3 ty 5 i (.int .u8 0) .i64 .i64 Tryd.underlying32 Tryd.underlying3 hi hz none 0 0 [] hold n h0 (by omega) (by omega) (by omega) (by rw [hb]; omega) (growslice_fits (by omega) (by rw [hb]; omega))
  simp only [Nat.zero_add] at hrz
  have hG := grownCap_ge w n 0 5
  have hG2 := grownCap_le_maxLen w n 0 5 (by unfold maxLen; omega)
  generalize grownCap w n 0 5 = G at *
  obtain ⟨X, hX⟩ : ∃ X, X = (#[] ++ Builtin.zeroCells (Value.int .u8 0).cells n ++ Builtin.zeroCells (Value.int .u8 0).cells (G - n) : Array Value) := ⟨_, rfl⟩
  have hXs : X.size = G := by
    rw [hX]
    simp [size_zeroCells]
    have : (Value.int .u8 0).cells.size = 1 := rfl
    rw [this]; omega
  have hf : GrowPost w (.returned (.slice (some ⟨w.heap.size, 0, none⟩) 0 G)) (w.drew.alloc (.cells X 5)) :=
    ⟨G, rfl, ⟨by simp, .inr ⟨w.heap.size, G, X, rfl, Nat.le_refl _, heap_alloc_new w.drew _, by omega, hG2, by omega, by simp⟩⟩, ((Below.refl _ w).drew).alloc (Nat.le_refl _) _⟩
  rw [show ([] : List Value).toArray ++ Builtin.zeroCells (Value.int .u8 0).cells n ++ Builtin.zeroCells (Value.int .u8 0).cells (G - n) = X from hX.symm] at hrz
  generalize w.drew.alloc (.cells X 5) = w1 at *
  have d0 : decide ((n : Int) < 0) = false := decide_eq_false (by omega)
  have d1 : decide (0 < (n : Int)) = true := decide_eq_true (by omega)
  have hz1 : wrap64 (n : Int) = (n : Int) := by unfold wrap64; omega
  clear hX hG2 hold
  go_enter Tryd.func66, Tryd.ntmps66
  go_wp2_with (at_builtin; refine Lib.wpList_append_run _ rfl _ _ _ _ rfl _ _ rfl rfl _ _ (hrz _) ?_)
  all_goals (go_ret; exact hf)
/-- two slices of bytes that lie side by side -/
def TwoB (w : World) (g : Nat) (A B : Option Addr) (la ca lb cb : Nat) : Prop := w.cell? ⟨g, 0, none⟩ = some (.slice A la ca) ∧ w.cell? ⟨g, 1, none⟩ = some (.slice B lb cb)
set_option maxRecDepth 20000 in
set_option maxHeartbeats 2000000 in
theorem concat_two (g : Nat) (A B : Option Addr) (ca cb : Nat) (a b : List UInt8) (w : World) (hg : w.heap[g]? = some (.cells #[.slice A a.length ca, .slice B b.length cb] 32 (0, 0))) (ha : SeesB w A a) (hb : SeesB w B b) (h0 : 0 < a.length + b.length) (hlen : a.length + b.length ≤ 70368744177664) :
    Calls Tryd.prog 40 #[.slice (some ⟨g, 0, none⟩) 2 2] w (ClonePost w (a ++ b)) := by
  have c0 : w.cell? ⟨g, 0, none⟩ = some (.slice A a.length ca) := by rw [cell_of_row _ _ _ _ _ _ hg]; rfl
  have c1 : w.cell? ⟨g, 1, none⟩ = some (.slice B b.length cb) := by rw [cell_of_row _ _ _ _ _ _ hg]; rfl
  have hlt : g < w.heap.size := (Array.getElem?_eq_some_iff.1 hg).1
  clear hg
  obtain ⟨la, hla⟩ : ∃ la, la = a.length := ⟨_, rfl⟩
  obtain ⟨lb, hlb⟩ : ∃ lb, lb = b.length := ⟨_, rfl⟩
  rw [← hla] at c0 h0 hlen
  rw [← hlb] at c1 h0 hlen
  have HA := hid hla
  have HB := hid hlb
  obtain ⟨ab, hab⟩ : ∃ ab, ab = a ++ b := ⟨_, rfl⟩
  have hl2 : la + lb = ab.length := by rw [hab, hla, hlb, List.length_append]
  have hmm : (a ++ b).map byteV = a.map byteV ++ b.map byteV := List.map_append
  rw [← hab] at hmm ⊢
  have HM := hid hmm
  have HL := hid hl2
  have HAL := hid (show (a.map byteV).length = la by rw [hla, List.length_map])
  have HBL := hid (show (b.map byteV).length = lb by rw [hlb, List.length_map])
  have HO := hid (show ∀ u ∈ a.map byteV, u.oneCell' = true by simp [byteV, Value.oneCell'])
  have HP := hid (show ∀ u ∈ b.map byteV, u.oneCell' = true by simp [byteV, Value.oneCell'])
  clear hla hlb hab hl2 hmm
  go_enter Tryd.func40, Tryd.ntmps40
  go_wp2_with fail
  go_loop [3, 11] (fun x i => ∃ k n : Nat, k ≤ 2 ∧ i = .int .i64 (k : Int) ∧ x = .int .i64 (n : Int) ∧ Hid ((k = 0 → n = 0) ∧ (k = 1 → n = la) ∧ (k = 2 → n = la + lb))) (fun _ i => 2 - (intOf i).toNat)
  case atStart => exact ⟨0, 0, by omega, rfl, rfl, hid ⟨fun _ => rfl, fun h => by omega, fun h => by omega⟩⟩
  case round =>
    obtain ⟨k, n, hk, rfl, rfl, hP⟩ := hrel
    have hcase : k = 0 ∨ k = 1 ∨ k = 2 := by omega
    rcases hcase with hh | hh | hh
    · obtain rfl : n = 0 := hP.out.1 hh
      subst hh
      clear hP
      have dn : decide ((la : Int) < 0) = false := decide_eq_false (by omega)
      go_wp2_with fail
      go_round
      case rel => exact ⟨1, la, by omega, by go_num, by go_num, hid ⟨fun h => by omega, fun _ => rfl, fun h => by omega⟩⟩
      case measure => simp [intOf]
    · obtain rfl : n = la := hP.out.2.1 hh
      subst hh
      clear hP
      have dn : decide ((n : Int) + (lb : Int) < 0) = false := decide_eq_false (by omega)
      go_wp2_with fail
      go_round
      case rel => exact ⟨2, n + lb, by omega, by go_num, by go_num, hid ⟨fun h => by omega, fun h => by omega, fun _ => rfl⟩⟩
      case measure => simp [intOf]
    · obtain rfl : n = la + lb := hP.out.2.2 hh
      subst hh
      clear hP
      go_wp2_with fail
      refine (grow_none (la + lb) w h0 hlen).mono ?_
      rintro e w1 ⟨c, rfl, ho, hb1⟩
      have c0' := (hb1.cell (p := ⟨g, 0, none⟩) hlt).trans c0
      have c1' := (hb1.cell (p := ⟨g, 1, none⟩) hlt).trans c1
      have HC0 := hid c0
      have HC1 := hid c1
      have HSA := hid ha
      have HSB := hid hb
      clear c0 c1 ha hb c0' c1'
      go_wp2_with fail
      go_loopw [6, 27] (fun x i wr => ∃ k : Nat, k ≤ 2 ∧ i = .int .i64 (k : Int) ∧ ∃ (m : List UInt8) (N : Nat) (A' : Option Addr) (c' : Nat), Hid ((k = 0 → m = [] ∧ N = 0) ∧ (k = 1 → m = a ∧ N = la) ∧ (k = 2 → m = ab ∧ N = la + lb)) ∧ x = .slice A' N c' ∧ wr.ownsRow w.heap.size 5 1 (.slice A' N c') N (m.map byteV) ∧ Below w.heap.size w wr) (fun _ i _ => 2 - (intOf i).toNat)
      case atStart => exact ⟨0, by omega, rfl, [], 0, _, _, hid ⟨fun _ => ⟨rfl, rfl⟩, fun h => by omega, fun h => by omega⟩, rfl, ho, hb1⟩
      case round =>
        obtain ⟨k, hk, rfl, m, N, A', c', hP, rfl, ho', hb'⟩ := hrel
        have hcase : k = 0 ∨ k = 1 ∨ k = 2 := by omega
        rcases hcase with hh | hh | hh
        · obtain ⟨rfl, rfl⟩ := hP.out.1 hh
          subst hh
          clear hP hb1 ho
          have c0 := (hb'.cell (p := ⟨g, 0, none⟩) hlt).trans HC0.out
          have hsa := HSA.out.below hb'
          go_wp2_with (at_builtin; refine wpList_app rfl (.tmp 31) (.tmp 32) _ rfl elB rfl ho' A la ca rfl (a.map byteV) hsa (by rw [HAL.out]; omega) HO.out la (by omega) (a.map byteV) rfl (by unfold maxLen; omega) (by omega) hb'.size ?_; intro A2 c2 w2 hown hgr hat hbel)
          exact ⟨⟨1, by omega, by go_num, a, la, A2, c2, hid ⟨fun h => by omega, fun _ => ⟨rfl, rfl⟩, fun h => by omega⟩, rfl, hown, hb'.trans hbel⟩, by simp [intOf]⟩
        · obtain ⟨rfl, rfl⟩ := hP.out.2.1 hh
          subst hh
          clear hP hb1 ho
          have c1 := (hb'.cell (p := ⟨g, 1, none⟩) hlt).trans HC1.out
          have hsb := HSB.out.below hb'
          go_wp2_with (at_builtin; refine wpList_app rfl (.tmp 31) (.tmp 32) _ rfl elB rfl ho' B lb cb rfl (b.map byteV) hsb (by rw [HBL.out]; omega) HP.out (N + lb) rfl (ab.map byteV) HM.out.symm (by unfold maxLen; omega) (by omega) hb'.size ?_; intro A2 c2 w2 hown hgr hat hbel)
          exact ⟨⟨2, by omega, by go_num, ab, N + lb, A2, c2, hid ⟨fun h => by omega, fun h => by omega, fun _ => ⟨rfl, rfl⟩⟩, rfl, hown, hb'.trans hbel⟩, by simp [intOf]⟩
        · obtain ⟨rfl, rfl⟩ := hP.out.2.2 hh
          subst hh
          clear hP hb1 ho
          go_wp2_with fail
          have hf : ClonePost w m (.returned (.slice A' (la + lb) c')) wr := ⟨_, rfl, A', c', by rw [← HL.out], by rw [← HL.out]; exact ho', hb'⟩
          go_ret
          exact hf
end Go.Proofs.YtkmhmehofipehaaDoor
