/- slices.Concat of two slices of bytes. -/
import Derived.Test.YtkmhmehofipehaaDoorFileBuildsM23
import Derived.Lib.AppendZerosOnto
import Derived.Test.YtkmhmehofipehaaDoorFileBuildsM26
import Derived.Test.YtkmhmehofipehaaDoorFileBuildsM4
import Derived.Deep.RegionHeld3
namespace Go.Proofs.YtkmhmehofipehaaDoor
set_option linter.unusedVariables false
open Go.RowKit
theorem grow_info : (Tryd.prog.info? 5).map (fun i => (i.zero, i.size, i.bytes)) = some (some (.int .u8 0), 1, 1) := by kernel_rfl
def GrowPost (w : World) (e : Ending) (w' : World) : Prop := ∃ c : Nat, e = .returned (.slice (some ⟨w.heap.size, 0, none⟩) 0 c) ∧ w'.ownsRow w.heap.size 5 1 (.slice (some ⟨w.heap.size, 0, none⟩) 0 c) 0 [] ∧ Below w.heap.size w w'
set_option maxRecDepth 20000 in
set_option maxHeartbeats 1000000 in
theorem grow_none (n : Nat) (w : World) (h0 : 0 < n) (hn : n ≤ 70368744177664) :
    Calls Tryd.prog 66 #[.slice none 0 0, .int .i64 (n : Int)] w (GrowPost w) := by
  obtain ⟨i, hi, hz, hs, hb⟩ := info_parts grow_info
  have hold : (Builtin.firstCells i.size 0 (.slice none 0 0)).run Tryd.prog w.drew = .ok ([] : List Value).toArray w.drew := by rw [hs]; rfl
  have hrz := fun ty => Lib.run_append_grow_zeros (P := Tryd.prog) w 32 3 ty 5 i (.int .u8 0) .i64 .i64 Tryd.underlying32 Tryd.underlying3 hi hz none 0 0 [] hold n h0 (by omega) (by omega) (by omega) (by rw [hb]; omega) (growslice_fits (by omega) (by rw [hb]; omega))
  simp only [Nat.zero_add] at hrz
  have hG := grownCap_ge w n 0 5
  have hG2 := grownCap_le_maxLen w n 0 5 (by unfold maxLen; omega)
  generalize grownCap w n 0 5 = G at *
  obtain ⟨X, hX⟩ : ∃ X, X = (#[] ++ Builtin.zeroCells (Value.int .u8 0).cells n ++ Builtin.zeroCells (Value.int .u8 0).cells (G - n) : Array Value) := ⟨_, rfl⟩
  have hXs : X.size = G := by
    rw [hX]
    simp [size_zeroCells]
    have : (Value.int .u8 0).cells.size = 1 := rfl
    rw [this]; omega
  have hf : GrowPost w (.returned (.slice (some ⟨w.heap.size, 0, none⟩) 0 G)) (w.drew.alloc (.cells X 5)) :=
    ⟨G, rfl, ⟨by simp, .inr ⟨w.heap.size, G, X, rfl, Nat.le_refl _, heap_alloc_new w.drew _, by omega, hG2, by omega, by simp⟩⟩, ((Below.refl _ w).drew).alloc (Nat.le_refl _) _⟩
  rw [show ([] : List Value).toArray ++ Builtin.zeroCells (Value.int .u8 0).cells n ++ Builtin.zeroCells (Value.int .u8 0).cells (G - n) = X from hX.symm] at hrz
  generalize w.drew.alloc (.cells X 5) = w1 at *
  have d0 : decide ((n : Int) < 0) = false := decide_eq_false (by omega)
  have d1 : decide (0 < (n : Int)) = true := decide_eq_true (by omega)
  have hz1 : wrap64 (n : Int) = (n : Int) := by unfold wrap64; omega
  clear hX hG2 hold
  go_enter Tryd.func66, Tryd.ntmps66
  go_wp2_with (at_builtin; refine Lib.wpList_append_run _ rfl _ _ _ _ rfl _ _ rfl rfl _ _ (hrz _) ?_)
  all_goals (go_ret; exact hf)
/-- two slices of bytes that lie side by side -/
def TwoB (w : World) (g : Nat) (A B : Option Addr) (la ca lb cb : Nat) : Prop := w.cell? ⟨g, 0, none⟩ = some (.slice A la ca) ∧ w.cell? ⟨g, 1, none⟩ = some (.slice B lb cb)
set_option maxRecDepth 20000 in
set_option maxHeartbeats 2000000 in
theorem concat_two (g : Nat) (A B : Option Addr) (ca cb : Nat) (a b : List UInt8) (w : World) (hg : w.heap[g]? = some (.cells #[.slice A a.length ca, .slice B b.length cb] 32 (0, 0))) (ha : SeesB w A a) (hb : SeesB w B b) (h0 : 0 < a.length + b.length) (hlen : a.length + b.length ≤ 70368744177664) :
    Calls Tryd.prog 40 #[.slice (some ⟨g, 0, none⟩) 2 2] w (ClonePost w (a ++ b)) := by
  have c0 : w.cell? ⟨g, 0, none⟩ = some (.slice A a.length ca) := by rw [cell_of_row _ _ _ _ _ _ hg]; rfl
  have c1 : w.cell? ⟨g, 1, none⟩ = some (.slice B b.length cb) := by rw [cell_of_row _ _ _ _ _ _ hg]; rfl
  have hlt : g < w.heap.size := (Array.getElem?_eq_some_iff.1 hg).1
  clear hg
  obtain ⟨la, hla⟩ : ∃ la, la = a.length := ⟨_, rfl⟩
  obtain ⟨lb, hlb⟩ : ∃ lb, lb = b.length := ⟨_, rfl⟩
  rw [← hla] at c0 h0 hlen
  rw [← hlb] at c1 h0 hlen
  have HA := hid hla
  have HB := hid hlb
  obtain ⟨ab, hab⟩ : ∃ ab, ab = a ++ b := ⟨_, rfl⟩
  have hl2 : la + lb = ab.length := by rw [hab, hla, hlb, List.length_append]
  have hmm : (a ++ b).map byteV = a.map byteV ++ b.map byteV := List.map_append
  rw [← hab] at hmm ⊢
  have HM := hid hmm
  have HL := hid hl2
  have HAL := hid (show (a.map byteV).length = la by rw [hla, List.length_map])
  have HBL := hid (show (b.map byteV).length = lb by rw [hlb, List.length_map])
  have HO := hid (show ∀ u ∈ a.map byteV, u.oneCell' = true by simp [byteV, Value.oneCell'])
  have HP := hid (show ∀ u ∈ b.map byteV, u.oneCell' = true by simp [byteV, Value.oneCell'])
  clear hla hlb hab hl2 hmm
  go_enter Tryd.func40, Tryd.ntmps40
  go_wp2_with fail
  go_loop [3, 11] (fun x i => ∃ k n : Nat, k ≤ 2 ∧ i = .int .i64 (k : Int) ∧ x = .int .i64 (n : Int) ∧ Hid ((k = 0 → n = 0) ∧ (k = 1 → n = la) ∧ (k = 2 → n = la + lb))) (fun _ i => 2 - (intOf i).toNat)
  case atStart => exact ⟨0, 0, by omega, rfl, rfl, hid ⟨fun _ => rfl, fun h => by omega, fun h => by omega⟩⟩
  case round =>
    obtain ⟨k, n, hk, rfl, rfl, hP⟩ := hrel
    have hcase : k = 0 ∨ k = 1 ∨ k = 2 := by omega
    rcases hcase with hh | hh | hh
    · obtain rfl : n = 0 := hP.out.1 hh
      subst hh
      clear hP
      have dn : decide ((la : Int) < 0) = false := decide_eq_false (by omega)
      go_wp2_with fail
      go_round
      case rel => exact ⟨1, la, by omega, by go_num, by go_num, hid ⟨fun h => by omega, fun _ => rfl, fun h => by omega⟩⟩
      case measure => simp [intOf]
    · obtain rfl : n = la := hP.out.2.1 hh
      subst hh
      clear hP
      have dn : decide ((n : Int) + (lb : Int) < 0) = false := decide_eq_false (by omega)
      go_wp2_with fail
      go_round
      case rel => exact ⟨2, n + lb, by omega, by go_num, by go_num, hid ⟨fun h => by omega, fun h => by omega, fun _ => rfl⟩⟩
      case measure => simp [intOf]
    · obtain rfl : n = la + lb := hP.out.2.2 hh
      subst hh
      clear hP
      go_wp2_with fail
      refine (grow_none (la + lb) w h0 hlen).mono ?_
      rintro e w1 ⟨c, rfl, ho, hb1⟩
      have c0' := (hb1.cell (p := ⟨g, 0, none⟩) hlt).trans c0
      have c1' := (hb1.cell (p := ⟨g, 1, none⟩) hlt).trans c1
      have HC0 := hid c0
      have HC1 := hid c1
      have HSA := hid ha
      have HSB := hid hb
      clear c0 c1 ha hb c0' c1'
      go_wp2_with fail
      go_loopw [6, 27] (fun x i wr => ∃ k : Nat, k ≤ 2 ∧ i = .int .i64 (k : Int) ∧ ∃ (m : List UInt8) (N : Nat) (A' : Option Addr) (c' : Nat), Hid ((k = 0 → m = [] ∧ N = 0) ∧ (k = 1 → m = a ∧ N = la) ∧ (k = 2 → m = ab ∧ N = la + lb)) ∧ x = .slice A' N c' ∧ wr.ownsRow w.heap.size 5 1 (.slice A' N c') N (m.map byteV) ∧ Below w.heap.size w wr) (fun _ i _ => 2 - (intOf i).toNat)
      case atStart => exact ⟨0, by omega, rfl, [], 0, _, _, hid ⟨fun _ => ⟨rfl, rfl⟩, fun h => by omega, fun h => by omega⟩, rfl, ho, hb1⟩
      case round =>
        obtain ⟨k, hk, rfl, m, N, A', c', hP, rfl, ho', hb'⟩ := hrel
        have hcase : k = 0 ∨ k = 1 ∨ k = 2 := by omega
        rcases hcase with hh | hh | hh
        · obtain ⟨rfl, rfl⟩ := hP.out.1 hh
          subst hh
          clear hP hb1 ho
          have c0 := (hb'.cell (p := ⟨g, 0, none⟩) hlt).trans HC0.out
          have hsa := HSA.out.below hb'
          go_wp2_with (at_builtin; refine wpList_app rfl (.tmp 31) (.tmp 32) _ rfl elB rfl ho' A la ca rfl (a.map byteV) hsa (by rw [HAL.out]; omega) HO.out la (by omega) (a.map byteV) rfl (by unfold maxLen; omega) (by omega) hb'.size ?_; intro A2 c2 w2 hown hgr hat hbel)
          exact ⟨⟨1, by omega, by go_num, a, la, A2, c2, hid ⟨fun h => by omega, fun _ => ⟨rfl, rfl⟩, fun h => by omega⟩, rfl, hown, hb'.trans hbel⟩, by simp [intOf]⟩
        · obtain ⟨rfl, rfl⟩ := hP.out.2.1 hh
          subst hh
          clear hP hb1 ho
          have c1 := (hb'.cell (p := ⟨g, 1, none⟩) hlt).trans HC1.out
          have hsb := HSB.out.below hb'
          go_wp2_with (at_builtin; refine wpList_app rfl (.tmp 31) (.tmp 32) _ rfl elB rfl ho' B lb cb rfl (b.map byteV) hsb (by rw [HBL.out]; omega) HP.out (N + lb) rfl (ab.map byteV) HM.out.symm (by unfold maxLen; omega) (by omega) hb'.size ?_; intro A2 c2 w2 hown hgr hat hbel)
          exact ⟨⟨2, by omega, by go_num, ab, N + lb, A2, c2, hid ⟨fun h => by omega, fun h => by omega, fun _ => ⟨rfl, rfl⟩⟩, rfl, hown, hb'.trans hbel⟩, by simp [intOf]⟩
        · obtain ⟨rfl, rfl⟩ := hP.out.2.2 hh
          subst hh
          clear hP hb1 ho
          go_wp2_with fail
          have hf : ClonePost w m (.returned (.slice A' (la + lb) c')) wr := ⟨_, rfl, A', c', by rw [← HL.out], by rw [← HL.out]; exact ho', hb'⟩
          go_ret
          exact hf
end Go.Proofs.YtkmhmehofipehaaDoor
/- A file of info and any tags, as it begins. -/
namespace Go.Proofs.YtkmhmehofipehaaDoor
set_option linter.unusedVariables false
open Go.RowKit
set_option maxHeartbeats 1000000 in
theorem opened_info (g : Nat) (k ch bi ra bl sh : Int) (v : Value) (w : World) (hr : rightI k ch bi ra bl sh = false) :
    Calls Tryd.prog 18 #[.pointer (some ⟨g, 0, none⟩), .agg #[.int .i64 k, .int .i64 ch, .int .i64 bi, .int .i64 ra, .int .i64 bl, .int .i64 sh], v] w fun e w' => e = .returned (.tuple #[.pointer none, .int .i64 32]) ∧ Below w.heap.size w w' := by
  have hb : Below w.heap.size w (w.alloc (.cells #[.int .i64 k, .int .i64 ch, .int .i64 bi, .int .i64 ra, .int .i64 bl, .int .i64 sh] 25)) := (Below.refl _ w).alloc (Nat.le_refl _) _
  have hrow := heap_alloc_new w (.cells #[.int .i64 k, .int .i64 ch, .int .i64 bi, .int .i64 ra, .int .i64 bl, .int .i64 sh] 25)
  go_enter Tryd.func18, Tryd.ntmps18
  go_wp2_with fail
  refine (iput_bad g k ch bi ra bl sh _ hr).mono ?_
  rintro e w1 ⟨rfl, hb1⟩
  go_wp2_with fail
  go_ret2
  exact ⟨rfl, hb.trans (hb1.mono hb.size)⟩
set_option maxRecDepth 20000 in
set_option maxHeartbeats 2000000 in
theorem opened_tags (g : Nat) (k ch bi ra bl sh : Nat) (A0 : Option Addr) (c0 : Nat) (l : List TagV) (w : World) (hl : SeesT w A0 l) (hlc : l.length ≤ c0) (hlen : l.length ≤ maxLen) (hs : Brief l) (hT : Tabs w) (hz : (checkT l).2 ≠ 0) (ht : Tab w g) (hr : rightI k ch bi ra bl sh = true) (hk : k < 256 ∧ ch < 256 ∧ bi < 256 ∧ sh < 256 ∧ ra < 16777216 ∧ bl < 4294967296) :
    Calls Tryd.prog 18 #[.pointer (some ⟨g, 0, none⟩), .agg #[.int .i64 k, .int .i64 ch, .int .i64 bi, .int .i64 ra, .int .i64 bl, .int .i64 sh], .slice A0 l.length c0] w fun e w' => e = .returned (.tuple #[.pointer none, .int .i64 (checkT l).2]) ∧ Below w.heap.size w w' := by
  have hb : Below w.heap.size w (w.alloc (.cells #[.int .i64 k, .int .i64 ch, .int .i64 bi, .int .i64 ra, .int .i64 bl, .int .i64 sh] 25)) := (Below.refl _ w).alloc (Nat.le_refl _) _
  have hrow := heap_alloc_new w (.cells #[.int .i64 k, .int .i64 ch, .int .i64 bi, .int .i64 ra, .int .i64 bl, .int .i64 sh] 25)
  have P1 := hid (fun W h => iput_ok g k ch bi ra bl sh W h hr hk)
  have P2 := hid (fun W (hb : Below w.heap.size w W) => tagput_bad g A0 c0 l W (hl.below hb) hlc hlen hs (hT.below hb) hz)
  have ht0 := ht.keep hb ht.lt
  generalize (checkT l).2 = E at *
  have dE : (E != 0) = true := by simpa using hz
  clear hr hk hl hs hz hT ht
  go_enter Tryd.func18, Tryd.ntmps18
  go_wp2_with fail
  refine (P1.out _ ht0).mono ?_
  rintro e w1 ⟨v, rfl, hv⟩
  obtain ⟨A1, d1, rfl, hs1, hA1, ho1, hb1⟩ := hv.parts
  have hbw1 := hb.trans (hb1.mono hb.size)
  go_wp2_with fail
  refine (P2.out w1 hbw1).mono ?_
  rintro e w2 ⟨rfl, hb2⟩
  go_wp2_with fail
  go_ret2
  exact ⟨rfl, hbw1.trans (hb2.mono hbw1.size)⟩
/-- a file on its way, as it begins -/
def BegunT (w : World) (g : Nat) (k ch bi ra bl sh : Nat) (out : List UInt8) (e : Ending) (w' : World) : Prop :=
  ∃ (m : Nat) (A : Option Addr) (c : Nat), e = .returned (.tuple #[.pointer (some ⟨m, 0, none⟩), .int .i64 0]) ∧ w'.heap[m]? = some (.cells #[.pointer (some ⟨g, 0, none⟩), .int .i64 k, .int .i64 ch, .int .i64 bi, .int .i64 ra, .int .i64 bl, .int .i64 sh, .slice A out.length c, .slice none 0 0, .int .i64 0, .bool false] 70 (0, 0)) ∧
    w'.ownsRow w.heap.size 5 1 (.slice A out.length c) out.length (out.map byteV) ∧ w.heap.size ≤ m ∧ Below w.heap.size w w'
set_option maxRecDepth 20000 in
set_option maxHeartbeats 4000000 in
theorem opened_ok (g : Nat) (k ch bi ra bl sh : Nat) (A0 : Option Addr) (c0 : Nat) (l : List TagV) (w : World) (hl : SeesT w A0 l) (hlc : l.length ≤ c0) (hlen : l.length ≤ maxLen) (hs : Brief l) (hT : Tabs w) (hz : (checkT l).2 = 0) (ht : Tab w g) (hr : rightI k ch bi ra bl sh = true) (hk : k < 256 ∧ ch < 256 ∧ bi < 256 ∧ sh < 256 ∧ ra < 16777216 ∧ bl < 4294967296) (out : List UInt8) (ho : out = sealed (infoHead k ch bi sh ra bl) ++ sealed (tagsB l)) :
    Calls Tryd.prog 18 #[.pointer (some ⟨g, 0, none⟩), .agg #[.int .i64 k, .int .i64 ch, .int .i64 bi, .int .i64 ra, .int .i64 bl, .int .i64 sh], .slice A0 l.length c0] w (BegunT w g k ch bi ra bl sh out) := by
  obtain ⟨X, hX⟩ : ∃ X, X = sealed (infoHead k ch bi sh ra bl) := ⟨_, rfl⟩
  obtain ⟨Y, hY⟩ : ∃ Y, Y = sealed (tagsB l) := ⟨_, rfl⟩
  have hXl : X.length = 19 := by rw [hX]; simp [sealed, infoHead, bytesLE_length]
  have hYl : Y.length ≤ 70004 := by rw [hY]; have := tagsB_len (short_of hz); unfold sealed; rw [List.length_append, bytesLE_length]; omega
  have hb : Below w.heap.size w (w.alloc (.cells #[.int .i64 k, .int .i64 ch, .int .i64 bi, .int .i64 ra, .int .i64 bl, .int .i64 sh] 25)) := (Below.refl _ w).alloc (Nat.le_refl _) _
  have hrow := heap_alloc_new w (.cells #[.int .i64 k, .int .i64 ch, .int .i64 bi, .int .i64 ra, .int .i64 bl, .int .i64 sh] 25)
  have P1 := hid (fun W h => iput_ok g k ch bi ra bl sh W h hr hk)
  have P2 := hid (fun W (hb : Below w.heap.size w W) h => tagput_ok g A0 c0 l W h (hl.below hb) hlc hlen hs (hT.below hb) hz)
  rw [← hX] at P1
  rw [← hY] at P2
  have HXL := hid hXl
  have HYL := hid hYl
  rw [← hX, ← hY] at ho
  have HO := hid ho
  clear hX hY hXl hYl ho hr hk hl hs hz hT hlc hlen
  have ht0 := ht.keep hb ht.lt
  go_enter Tryd.func18, Tryd.ntmps18
  go_wp2_with fail
  generalize hw0 : w.alloc (.cells #[.int .i64 k, .int .i64 ch, .int .i64 bi, .int .i64 ra, .int .i64 bl, .int .i64 sh] 25) = w0 at *
  clear hw0
  have c0 : w0.cell? ⟨w.heap.size, 0, none⟩ = some (.int .i64 (k : Int)) := by rw [cell_of_row _ _ _ _ _ _ hrow]; rfl
  have c1 : w0.cell? ⟨w.heap.size, 1, none⟩ = some (.int .i64 (ch : Int)) := by rw [cell_of_row _ _ _ _ _ _ hrow]; rfl
  have c2 : w0.cell? ⟨w.heap.size, 2, none⟩ = some (.int .i64 (bi : Int)) := by rw [cell_of_row _ _ _ _ _ _ hrow]; rfl
  have c3 : w0.cell? ⟨w.heap.size, 3, none⟩ = some (.int .i64 (ra : Int)) := by rw [cell_of_row _ _ _ _ _ _ hrow]; rfl
  have c4 : w0.cell? ⟨w.heap.size, 4, none⟩ = some (.int .i64 (bl : Int)) := by rw [cell_of_row _ _ _ _ _ _ hrow]; rfl
  have c5 : w0.cell? ⟨w.heap.size, 5, none⟩ = some (.int .i64 (sh : Int)) := by rw [cell_of_row _ _ _ _ _ _ hrow]; rfl
  clear hrow
  refine (P1.out w0 ht0).mono ?_
  rintro e w1 ⟨v, rfl, hv⟩
  obtain ⟨A1, d1, rfl, hs1, hA1, ho1, hb1⟩ := hv.parts
  have hbw1 := hb.trans (hb1.mono hb.size)
  have ht1 := ht0.keep hb1 ht0.lt
  replace c0 := keep1 hb1 c0
  replace c1 := keep1 hb1 c1
  replace c2 := keep1 hb1 c2
  replace c3 := keep1 hb1 c3
  replace c4 := keep1 hb1 c4
  replace c5 := keep1 hb1 c5
  clear hb hb1 hv hA1 ho1
  go_wp2_with fail
  refine (P2.out w1 hbw1 ht1).mono ?_
  rintro e w2 ⟨v, rfl, hv⟩
  obtain ⟨A2, d2, rfl, hs2, hA2, ho2, hb2⟩ := hv.parts
  have hbw2 := hbw1.trans (hb2.mono hbw1.size)
  replace hs1 := hs1.below hb2
  replace c0 := keep1 hb2 c0
  replace c1 := keep1 hb2 c1
  replace c2 := keep1 hb2 c2
  replace c3 := keep1 hb2 c3
  replace c4 := keep1 hb2 c4
  replace c5 := keep1 hb2 c5
  clear hbw1 hb2 hv hA2 ho2 ht1 ht0
  go_wp2_with fail
  have hbA : Below w2.heap.size w2 (w2.drew.alloc (.cells #[.slice A1 X.length d1, .slice A2 Y.length d2] 32)) := ((Below.refl _ w2).drew).alloc (Nat.le_refl _) _
  have h0l : 0 < X.length + Y.length := by have := HXL.out; omega
  have hll : X.length + Y.length ≤ 70368744177664 := by have := HXL.out; have := HYL.out; omega
  go_region_held3 (fun w' => w'.cell? ⟨w.heap.size, 0, none⟩ = some (.int .i64 (k : Int)) ∧ w'.cell? ⟨w.heap.size, 1, none⟩ = some (.int .i64 (ch : Int)) ∧ w'.cell? ⟨w.heap.size, 2, none⟩ = some (.int .i64 (bi : Int)) ∧ w'.cell? ⟨w.heap.size, 3, none⟩ = some (.int .i64 (ra : Int)) ∧ w'.cell? ⟨w.heap.size, 4, none⟩ = some (.int .i64 (bl : Int)) ∧ w'.cell? ⟨w.heap.size, 5, none⟩ = some (.int .i64 (sh : Int))) (first | exact ⟨c0, c1, c2, c3, c4, c5⟩ | exact ⟨f0, f1, f2, f3, f4, f5⟩ | go_keep)
    (first | (go_at_call 40; refine (concat_two w2.heap.size A1 A2 d1 d2 X Y _ ?_ ?_ ?_ h0l hll).mono ?_; exact heap_alloc_new w2.drew _; exact hs1.below hbA; exact hs2.below hbA; rintro e w3 ⟨v, rfl, hv⟩; obtain ⟨A3, d3, rfl, hs3, hA3, ho3, hb3⟩ := hv.parts; have f0 := keep1 hb3 (keep1 hbA c0); have f1 := keep1 hb3 (keep1 hbA c1); have f2 := keep1 hb3 (keep1 hbA c2); have f3 := keep1 hb3 (keep1 hbA c3); have f4 := keep1 hb3 (keep1 hbA c4); have f5 := keep1 hb3 (keep1 hbA c5)))
  have hbw3 := (hbw2.trans (hbA.mono hbw2.size)).trans (hb3.mono (Nat.le_trans hbw2.size hbA.size))
  have hfin : BegunT w g k ch bi ra bl sh (X ++ Y) (.returned (.tuple #[.pointer (some ⟨w3.heap.size, 0, none⟩), .int .i64 0])) (w3.alloc (.cells #[.pointer (some ⟨g, 0, none⟩), .int .i64 k, .int .i64 ch, .int .i64 bi, .int .i64 ra, .int .i64 bl, .int .i64 sh, .slice A3 (X.length + Y.length) d3, .slice none 0 0, .int .i64 0, .bool false] 70)) := by
    rw [← List.length_append]
    exact ⟨w3.heap.size, A3, d3, rfl, heap_alloc_new _ _, (Joins.ownsRow_le ho3 (Nat.le_trans hbw2.size hbA.size)).alloc _, hbw3.size, hbw3.alloc hbw3.size _⟩
  obtain rfl : out = X ++ Y := HO.out
  clear hb3 ho3 hs3 hv hA3 c0 c1 c2 c3 c4 c5 f0 f1 f2 f3 f4 f5 hs1 hs2
  go_wp2_with fail
  go_ret2
  exact hfin
theorem own_keepF {w w' : World} {base : Nat} {e : TypeId} {size : Nat} {v : Value} {n : Nat} {xs : List Value} (h : w.ownsRow base e size v n xs) (hb : Below w.heap.size w w') : w'.ownsRow base e size v n xs := by
  refine ⟨h.1, ?_⟩
  rcases h.2 with h' | ⟨g, cap, cur, hv, hbg, hg, rest⟩
  · exact .inl h'
  · exact .inr ⟨g, cap, cur, hv, hbg, (hb.block g (Array.getElem?_eq_some_iff.1 hg).1).trans hg, rest⟩
end Go.Proofs.YtkmhmehofipehaaDoor
