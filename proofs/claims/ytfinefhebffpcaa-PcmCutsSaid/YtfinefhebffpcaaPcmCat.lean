/- slices.Grow, slices.Concat and slices.Clone of whole numbers. -/
import Derived.Test.YtfinefhebffpcaaPcmWeave
import Derived.Lib.AppendZerosOnto
namespace Go.Proofs.Ytfinefhebffpcaa
set_option linter.unusedVariables false
open Go.RowKit
theorem growI_info : (Try.prog.info? 3).map (fun i => (i.zero, i.size, i.bytes)) = some (some (.int .i64 0), 1, 8) := by kernel_rfl
def GrowPostI (w : World) (e : Ending) (w' : World) : Prop := ∃ (A : Option Addr) (c : Nat), e = .returned (.slice A 0 c) ∧ w'.ownsRow w.heap.size 3 1 (.slice A 0 c) 0 [] ∧ Below w.heap.size w w'
set_option maxRecDepth 20000 in
set_option maxHeartbeats 1000000 in
theorem growI_zero (w : World) :
    Calls Try.prog 54 #[.slice none 0 0, .int .i64 0] w (GrowPostI w) := by
  go_enter Try.func54, Try.ntmps54
  go_wp2_with fail
  go_ret
  exact ⟨none, 0, rfl, own_nil _ _ _ _, Below.refl _ _⟩
set_option maxRecDepth 20000 in
set_option maxHeartbeats 1000000 in
theorem growI_some (n : Nat) (w : World) (h0 : 0 < n) (hn : n ≤ 8796093022208) :
    Calls Try.prog 54 #[.slice none 0 0, .int .i64 (n : Int)] w (GrowPostI w) := by
  obtain ⟨i, hi, hz, hs, hb⟩ := info_parts growI_info
  have hold : (Builtin.firstCells i.size 0 (.slice none 0 0)).run Try.prog w.drew = .ok ([] : List Value).toArray w.drew := by rw [hs]; rfl
  have hrz := fun ty => Lib.run_append_grow_zeros (P := Try.prog) w 34 3 ty 3 i (.int .i64 0) .i64 .i64 Try.underlying34 Try.underlying3 hi hz none 0 0 [] hold n h0 (by omega) (by omega) (by omega) (by rw [hb]; omega) (growslice_fits (by omega) (by rw [hb]; omega))
  simp only [Nat.zero_add] at hrz
  have hG := grownCap_ge w n 0 3
  have hG2 := grownCap_le_maxLen w n 0 3 (by unfold maxLen; omega)
  generalize grownCap w n 0 3 = G at *
  obtain ⟨X, hX⟩ : ∃ X, X = (#[] ++ Builtin.zeroCells (Value.int .i64 0).cells n ++ Builtin.zeroCells (Value.int .i64 0).cells (G - n) : Array Value) := ⟨_, rfl⟩
  have hXs : X.size = G := by
    rw [hX]
    simp [size_zeroCells]
    have : (Value.int .i64 0).cells.size = 1 := rfl
    rw [this]; omega
  have hf : GrowPostI w (.returned (.slice (some ⟨w.heap.size, 0, none⟩) 0 G)) (w.drew.alloc (.cells X 3)) :=
    ⟨_, G, rfl, ⟨by simp, .inr ⟨w.heap.size, G, X, rfl, Nat.le_refl _, heap_alloc_new w.drew _, by omega, hG2, by omega, by simp⟩⟩, ((Below.refl _ w).drew).alloc (Nat.le_refl _) _⟩
  rw [show ([] : List Value).toArray ++ Builtin.zeroCells (Value.int .i64 0).cells n ++ Builtin.zeroCells (Value.int .i64 0).cells (G - n) = X from hX.symm] at hrz
  generalize w.drew.alloc (.cells X 3) = w1 at *
  have d0 : decide ((n : Int) < 0) = false := decide_eq_false (by omega)
  have d1 : decide (0 < (n : Int)) = true := decide_eq_true (by omega)
  have hz1 : wrap64 (n : Int) = (n : Int) := by unfold wrap64; omega
  clear hX hG2 hold
  go_enter Try.func54, Try.ntmps54
  go_wp2_with (at_builtin; refine Lib.wpList_append_run _ rfl _ _ _ _ rfl _ _ rfl rfl _ _ (hrz _) ?_)
  all_goals (go_ret; exact hf)
theorem growI_any (n : Nat) (w : World) (hn : n ≤ 8796093022208) :
    Calls Try.prog 54 #[.slice none 0 0, .int .i64 (n : Int)] w (GrowPostI w) := by
  rcases Nat.eq_zero_or_pos n with rfl | h0
  · exact growI_zero w
  · exact growI_some n w h0 hn
/-- what a call leaves that answers a slice of its own -/
def CatPost (w : World) (l : List Int) (e : Ending) (w' : World) : Prop := ∃ v, e = .returned v ∧ NewI w l v w'
set_option maxRecDepth 20000 in
set_option maxHeartbeats 2000000 in
theorem concatI_two (g : Nat) (A B : Option Addr) (ca cb : Nat) (a b : List Int) (w : World) (hg : w.heap[g]? = some (.cells #[.slice A a.length ca, .slice B b.length cb] 34 (0, 0))) (ha : SeesI w A a) (hb : SeesI w B b) (hlen : a.length + b.length ≤ 8796093022208) :
    Calls Try.prog 45 #[.slice (some ⟨g, 0, none⟩) 2 2] w (CatPost w (a ++ b)) := by
  have c0 : w.cell? ⟨g, 0, none⟩ = some (.slice A a.length ca) := by rw [cell_of_row _ _ _ _ _ _ hg]; rfl
  have c1 : w.cell? ⟨g, 1, none⟩ = some (.slice B b.length cb) := by rw [cell_of_row _ _ _ _ _ _ hg]; rfl
  have hlt : g < w.heap.size := (Array.getElem?_eq_some_iff.1 hg).1
  clear hg
  obtain ⟨la, hla⟩ : ∃ la, la = a.length := ⟨_, rfl⟩
  obtain ⟨lb, hlb⟩ : ∃ lb, lb = b.length := ⟨_, rfl⟩
  rw [← hla] at c0 hlen
  rw [← hlb] at c1 hlen
  have HA := hid hla
  have HB := hid hlb
  obtain ⟨ab, hab⟩ : ∃ ab, ab = a ++ b := ⟨_, rfl⟩
  have hl2 : la + lb = ab.length := by rw [hab, hla, hlb, List.length_append]
  have hmm : (a ++ b).map intV = a.map intV ++ b.map intV := List.map_append
  rw [← hab] at hmm ⊢
  have HM := hid hmm
  have HL := hid hl2
  have HAL := hid (show (a.map intV).length = la by rw [hla, List.length_map])
  have HBL := hid (show (b.map intV).length = lb by rw [hlb, List.length_map])
  have HO := hid (ints_one a)
  have HP := hid (ints_one b)
  clear hla hlb hab hl2 hmm
  go_enter Try.func45, Try.ntmps45
  go_wp2_with fail
  go_loop [3, 11] (fun x i => ∃ k n : Nat, k ≤ 2 ∧ i = .int .i64 (k : Int) ∧ x = .int .i64 (n : Int) ∧ Hid ((k = 0 → n = 0) ∧ (k = 1 → n = la) ∧ (k = 2 → n = la + lb))) (fun _ i => 2 - (intOf i).toNat)
  case atStart => exact ⟨0, 0, by omega, rfl, rfl, hid ⟨fun _ => rfl, fun h => by omega, fun h => by omega⟩⟩
  case round =>
    obtain ⟨k, n, hk, rfl, rfl, hP⟩ := hrel
    have hcase : k = 0 ∨ k = 1 ∨ k = 2 := by omega
    rcases hcase with hh | hh | hh
    · obtain rfl : n = 0 := hP.out.1 hh
      subst hh
      clear hP
      have dn : decide ((la : Int) < 0) = false := decide_eq_false (by omega)
      go_wp2_with fail
      go_round
      case rel => exact ⟨1, la, by omega, by go_num, by go_num, hid ⟨fun h => by omega, fun _ => rfl, fun h => by omega⟩⟩
      case measure => simp [intOf]
    · obtain rfl : n = la := hP.out.2.1 hh
      subst hh
      clear hP
      have dn : decide ((n : Int) + (lb : Int) < 0) = false := decide_eq_false (by omega)
      go_wp2_with fail
      go_round
      case rel => exact ⟨2, n + lb, by omega, by go_num, by go_num, hid ⟨fun h => by omega, fun h => by omega, fun _ => rfl⟩⟩
      case measure => simp [intOf]
    · obtain rfl : n = la + lb := hP.out.2.2 hh
      subst hh
      clear hP
      go_wp2_with fail
      refine (growI_any (la + lb) w hlen).mono ?_
      rintro e w1 ⟨A0, c, rfl, ho, hb1⟩
      have HC0 := hid c0
      have HC1 := hid c1
      have HSA := hid ha
      have HSB := hid hb
      clear c0 c1 ha hb
      go_wp2_with fail
      go_loopw [6, 27] (fun x i wr => ∃ k : Nat, k ≤ 2 ∧ i = .int .i64 (k : Int) ∧ ∃ (m : List Int) (N : Nat) (A' : Option Addr) (c' : Nat), Hid ((k = 0 → m = [] ∧ N = 0) ∧ (k = 1 → m = a ∧ N = la) ∧ (k = 2 → m = ab ∧ N = la + lb)) ∧ x = .slice A' N c' ∧ wr.ownsRow w.heap.size 3 1 (.slice A' N c') N (m.map intV) ∧ Below w.heap.size w wr) (fun _ i _ => 2 - (intOf i).toNat)
      case atStart => exact ⟨0, by omega, rfl, [], 0, _, _, hid ⟨fun _ => ⟨rfl, rfl⟩, fun h => by omega, fun h => by omega⟩, rfl, ho, hb1⟩
      case round =>
        obtain ⟨k, hk, rfl, m, N, A', c', hP, rfl, ho', hb'⟩ := hrel
        have hcase : k = 0 ∨ k = 1 ∨ k = 2 := by omega
        rcases hcase with hh | hh | hh
        · obtain ⟨rfl, rfl⟩ := hP.out.1 hh
          subst hh
          clear hP hb1 ho
          have c0 := (hb'.cell (p := ⟨g, 0, none⟩) hlt).trans HC0.out
          have hsa := HSA.out.below hb'
          go_wp2_with (at_builtin; refine wpList_app rfl (.tmp 31) (.tmp 32) _ rfl elI rfl ho' A la ca rfl (a.map intV) hsa (by rw [HAL.out]; omega) HO.out la (by omega) (a.map intV) rfl (by unfold maxLen; omega) (by omega) hb'.size ?_; intro A2 c2 w2 hown hgr hat hbel)
          exact ⟨⟨1, by omega, by go_num, a, la, A2, c2, hid ⟨fun h => by omega, fun _ => ⟨rfl, rfl⟩, fun h => by omega⟩, rfl, hown, hb'.trans hbel⟩, by simp [intOf]⟩
        · obtain ⟨rfl, rfl⟩ := hP.out.2.1 hh
          subst hh
          clear hP hb1 ho
          have c1 := (hb'.cell (p := ⟨g, 1, none⟩) hlt).trans HC1.out
          have hsb := HSB.out.below hb'
          go_wp2_with (at_builtin; refine wpList_app rfl (.tmp 31) (.tmp 32) _ rfl elI rfl ho' B lb cb rfl (b.map intV) hsb (by rw [HBL.out]; omega) HP.out (N + lb) rfl (ab.map intV) HM.out.symm (by unfold maxLen; omega) (by omega) hb'.size ?_; intro A2 c2 w2 hown hgr hat hbel)
          exact ⟨⟨2, by omega, by go_num, ab, N + lb, A2, c2, hid ⟨fun h => by omega, fun h => by omega, fun _ => ⟨rfl, rfl⟩⟩, rfl, hown, hb'.trans hbel⟩, by simp [intOf]⟩
        · obtain ⟨rfl, rfl⟩ := hP.out.2.2 hh
          subst hh
          clear hP hb1 ho
          go_wp2_with fail
          have hf : CatPost w m (.returned (.slice A' (la + lb) c')) wr := ⟨_, rfl, A', c', by rw [← HL.out], by rw [← HL.out]; exact ho', hb'⟩
          go_ret
          exact hf
theorem eql_nilI (A : Option Addr) (n c : Nat) (w : World) : (binOp .eql 34 (.slice A n c) (.slice none 0 0)).run Try.prog w = .ok (.bool A.isNone) w :=
  Lib.run_eql_slice_nil w _ _ A n c 0 0 Try.underlying34
set_option maxHeartbeats 1000000 in
theorem cloneI_some (a : Addr) (c : Nat) (l : List Int) (w : World) (hl : SeesI w (some a) l) (hlen : l.length ≤ 8796093022208) :
    Calls Try.prog 48 #[.slice (some a) l.length c] w (CatPost w l) := by
  have hnil := eql_nilI (some a) l.length c
  have hb0 : Below w.heap.size w (w.alloc (.cells #[] 3)) := (Below.refl _ _).alloc (Nat.le_refl _) _
  have ho : (w.alloc (.cells #[] 3)).ownsRow w.heap.size 3 1 (.slice (some ⟨w.heap.size, 0, none⟩) 0 0) 0 [] :=
    ⟨rfl, .inr ⟨w.heap.size, 0, #[], rfl, Nat.le_refl _, heap_alloc_new _ _, Nat.le_refl _, by unfold maxLen; omega, rfl, rfl⟩⟩
  have hl0 := hl.below hb0
  go_enter Try.func48, Try.ntmps48
  go_wp2_with (at_builtin; refine wpList_app rfl (.tmp 5) (.tmp 6) _ rfl elI rfl ho (some a) l.length c rfl (l.map intV) hl0 (by simp) (ints_one l) l.length (by omega) (l.map intV) rfl (by unfold maxLen; omega) (by omega) hb0.size ?_; intro A' c' w' hown hgr hat hb1)
  go_ret
  exact ⟨_, rfl, A', c', rfl, hown, hb0.trans hb1⟩
set_option maxHeartbeats 1000000 in
theorem cloneI_none (n c : Nat) (w : World) :
    Calls Try.prog 48 #[.slice none n c] w (CatPost w []) := by
  have hnil := eql_nilI none n c
  go_enter Try.func48, Try.ntmps48
  go_wp2
  go_ret
  exact ⟨_, rfl, none, 0, rfl, own_nil _ _ _ _, Below.refl _ _⟩
theorem cloneI_any (A : Option Addr) (c : Nat) (l : List Int) (w : World) (hl : SeesI w A l) (hlen : l.length ≤ 8796093022208) :
    Calls Try.prog 48 #[.slice A l.length c] w (CatPost w l) := by
  cases A with
  | some a => exact cloneI_some a c l w hl hlen
  | none =>
    have : l = [] := by
      cases l with
      | nil => rfl
      | cons x l => obtain ⟨a, ha, _⟩ := hl 0 (intV x) rfl; cases ha
    subst this
    exact cloneI_none _ _ _
end Go.Proofs.Ytfinefhebffpcaa
