/- The walk of HeadBack. -/
import Derived.Test.YtffcebjamichdaaLaw22Known
import Derived.Test.YtffcebjamichdaaHeadSeal
import Derived.Test.YtffcebjamichdaaHeadRefOpen
import Derived.Test.YtffcebjamichdaaHeadPlain
import Derived.Test.YtffcebjamichdaaConv
import Derived.Test.YtffcebjamichdaaApp
namespace Go.Proofs.Ytffcebjamichdaa.headBack
set_option linter.unusedVariables false
open Go.RowKit
theorem elB : Elem Try.prog 25 5 1 1 := Elem.mk' Try.underlying25 (z := .int .u8 0) (by kernel_rfl) rfl (by omega)
/-- what is seen as bytes is seen behind a store into a row without bytes -/
theorem SeesB.setTyped {w : World} {A : Option Addr} {l : List UInt8} {q : Nat} {cs : Array Value} {t : TypeId} {fr : Nat × Nat} (h : SeesB w A l) (hr : w.heap[q]? = some (.cells cs t fr)) (hcs : ∀ (j : Nat) (z : Int), cs[j]? ≠ some (.int .u8 z)) (j : Nat) (v : Value) : SeesB (w.setCell ⟨q, j, none⟩ v) A l := by
  intro i u hu
  obtain ⟨a, ha, hc⟩ := h i u hu
  refine ⟨a, ha, (World.cell?_of_block (w := w) ?_).trans hc⟩
  refine heap_setCell_other w ⟨q, j, none⟩ _ v ?_
  rw [addr_block]
  intro hb
  have hb' : a.block = q := hb
  have hcc := hc
  unfold World.cell? at hcc
  rw [addr_block, hb', hr] at hcc
  have hcc2 : cs[(a.add i).off]? = some u := by
    dsimp only at hcc
    split at hcc
    · cases hcc
    · exact hcc
  rw [List.getElem?_map] at hu
  cases h5 : l[i]? with
  | none => rw [h5] at hu; cases hu
  | some b =>
    rw [h5] at hu
    injection hu with hu
    exact hcs _ _ (hcc2.trans (by rw [← hu]; rfl))
theorem Tab.setFar {w : World} {g q : Nat} (h : Tab w g) (hne : g ≠ q) (j : Nat) (v : Value) : Tab (w.setCell ⟨q, j, none⟩ v) g := by
  obtain ⟨cs, hcs, hx⟩ := h
  exact ⟨cs, (heap_setCell_other w ⟨q, j, none⟩ g v hne).trans hcs, hx⟩
set_option maxHeartbeats 2000000 in
theorem walk_out (k idx len stp bnd : Int) (lst : Bool) (lnk siz : Int) (A : Option Addr) (c : Nat) (l : List UInt8) (AM : Option Addr) (cM : Nat) (lm : List UInt8) (w : World) (h : 300 < l.length ∨ 300 < lm.length) :
    Calls Try.prog 7 #[.agg #[.int .i64 k, .int .i64 idx, .int .i64 len, .int .i64 stp, .int .i64 bnd, .bool lst, .int .u32 lnk, .int .i64 siz], .slice A l.length c, .slice AM lm.length cM] w fun e w' => e = .returned (.bool true) ∧ Below w.heap.size w w' := by
  have hb : Below w.heap.size w (w.alloc (.cells #[.int .i64 k, .int .i64 idx, .int .i64 len, .int .i64 stp, .int .i64 bnd, .bool lst, .int .u32 lnk, .int .i64 siz] 24)) := (Below.refl _ w).alloc (Nat.le_refl _) _
  obtain ⟨b1, hb1⟩ : ∃ b, decide (300 < (l.length : Int)) = b := ⟨_, rfl⟩
  obtain ⟨b4, hb4⟩ : ∃ b, decide (300 < (lm.length : Int)) = b := ⟨_, rfl⟩
  have hor : b1 = true ∨ (b1 = false ∧ b4 = true) := by
    subst hb1 hb4
    simp only [decide_eq_true_eq, decide_eq_false_iff_not]
    omega
  clear h
  rcases hor with rfl | ⟨rfl, rfl⟩
  all_goals
    go_enter Try.func7, Try.ntmps7
    go_wp2_with fail
    refine (known_any _).mono ?_
    rintro e w2 ⟨rfl, hb2⟩
    go_wp2_with fail
    go_ret
    exact ⟨rfl, hb.trans (hb2.mono hb.size)⟩
set_option maxHeartbeats 2000000 in
theorem walk_bad (k idx len stp bnd : Int) (lst : Bool) (lnk siz : Int) (A : Option Addr) (c : Nat) (l : List UInt8) (AM : Option Addr) (cM : Nat) (lm : List UInt8) (w : World) (hl : SeesB w A l) (hn : l.length ≤ 300) (hnm : lm.length ≤ 300) (hr : rightH k idx len stp bnd lst lnk (l.length : Int) = false) :
    Calls Try.prog 7 #[.agg #[.int .i64 k, .int .i64 idx, .int .i64 len, .int .i64 stp, .int .i64 bnd, .bool lst, .int .u32 lnk, .int .i64 siz], .slice A l.length c, .slice AM lm.length cM] w fun e w' => e = .returned (.bool true) ∧ Below w.heap.size w w' := by
  have d1 : decide (300 < (l.length : Int)) = false := decide_eq_false (by omega)
  have d4 : decide (300 < (lm.length : Int)) = false := decide_eq_false (by omega)
  have hb : Below w.heap.size w (w.alloc (.cells #[.int .i64 k, .int .i64 idx, .int .i64 len, .int .i64 stp, .int .i64 bnd, .bool lst, .int .u32 lnk, .int .i64 siz] 24)) := (Below.refl _ w).alloc (Nat.le_refl _) _
  have hrow := heap_alloc_new w (.cells #[.int .i64 k, .int .i64 idx, .int .i64 len, .int .i64 stp, .int .i64 bnd, .bool lst, .int .u32 lnk, .int .i64 siz] 24)
  go_enter Try.func7, Try.ntmps7
  go_wp2_with fail
  generalize w.alloc (.cells #[.int .i64 k, .int .i64 idx, .int .i64 len, .int .i64 stp, .int .i64 bnd, .bool lst, .int .u32 lnk, .int .i64 siz] 24) = w0 at *
  have hlt0 : w.heap.size < w0.heap.size := (Array.getElem?_eq_some_iff.1 hrow).1
  refine (make_any w0).mono ?_
  rintro e w1 ⟨rfl, hb1, ht1⟩
  have hbw1 := hb.trans (hb1.mono hb.size)
  have hrow1 := (hb1.block w.heap.size hlt0).trans hrow
  have hl1 := hl.below hbw1
  clear hb hrow hb1
  go_wp2_with first | (refine wpList_load_row rfl 24 (.tmp 3) rfl w.heap.size rfl 24 #[.int .i64 k, .int .i64 idx, .int .i64 len, .int .i64 stp, .int .i64 bnd, .bool lst, .int .u32 lnk, .int .i64 siz] (0, 0) _ hrow1 Try.underlying24 rfl (by kernel_rfl) ?_)
  refine (hseal_bad _ _ _ _ _ _ _ _ _ A c l _ (by omega) hr).mono ?_
  rintro e w2 ⟨rfl, hb2⟩
  have hbw2 := hbw1.trans (hb2.mono hbw1.size)
  go_wp2_with fail
  refine (known_any _).mono ?_
  rintro e w9 ⟨rfl, hb9⟩
  go_wp2_with fail
  go_ret
  exact ⟨rfl, hbw2.trans (hb9.mono hbw2.size)⟩
set_option maxRecDepth 20000 in
set_option maxHeartbeats 4000000 in
theorem walk_in (K IX LE ST BN LK : Nat) (lst : Bool) (siz : Int) (A : Option Addr) (c : Nat) (l : List UInt8) (AM : Option Addr) (cM : Nat) (lm : List UInt8) (w : World) (hl : SeesB w A l) (hlm : SeesB w AM lm) (hn : l.length ≤ 300) (hnm : lm.length ≤ 300) (hr : rightH K IX LE ST BN lst LK (l.length : Int) = true) (hkk : K < 256 ∧ IX < 4294967296 ∧ LE < 4294967296 ∧ ST < 4294967296 ∧ BN < 4294967296 ∧ LK < 4294967296 ∧ l.length < 4294967296) :
    Calls Try.prog 7 #[.agg #[.int .i64 (K : Int), .int .i64 (IX : Int), .int .i64 (LE : Int), .int .i64 (ST : Int), .int .i64 (BN : Int), .bool lst, .int .u32 (LK : Int), .int .i64 siz], .slice A l.length c, .slice AM lm.length cM] w fun e w' => e = .returned (.bool true) ∧ Below w.heap.size w w' := by
  have d1 : decide (300 < (l.length : Int)) = false := decide_eq_false (by omega)
  have d4 : decide (300 < (lm.length : Int)) = false := decide_eq_false (by omega)
  obtain ⟨G, hG⟩ : ∃ G, G = sealed (headHead K lst IX LE ST BN LK l.length) := ⟨_, rfl⟩
  have hGl : G.length = 32 := by rw [hG, sealed_len, headHead_len]
  have hP := fun g W (h : Tab W g) (hl : SeesB W A l) => hseal_ok g K IX LE ST BN LK lst siz A c l W h hl (by omega) hr hkk
  rw [← hG] at hP
  obtain ⟨S, hS⟩ : ∃ S, S = sumI (G ++ l) := ⟨_, rfl⟩
  obtain ⟨B, hB⟩ : ∃ B, B = sealed (G ++ l) := ⟨_, rfl⟩
  rw [← hB, ← hS] at hP
  have hBl : B.length = 36 + l.length := by rw [hB, sealed_len, List.length_append, hGl]; omega
  obtain ⟨_, ho, _⟩ := openH_sealed K IX LE ST BN LK lst l lm hkk hr
  rw [← hG, ← hB, ← hS] at ho
  obtain ⟨m, hm⟩ : ∃ m, m = B ++ lm := ⟨_, rfl⟩
  have hml : m.length = B.length + lm.length := by rw [hm, List.length_append]
  have hmv : m.map byteV = B.map byteV ++ lm.map byteV := by rw [hm, List.map_append]
  have hO := fun t A c W (h : SeesB W A m) (hc : m.length ≤ c) (hcm : c ≤ maxLen) (ht : Tab W t) => hopen_any t A c m W h hc hcm (by omega) ht
  rw [hm, ho, ← hm] at hO
  unfold OpenPost HeadV.cells at hO
  simp only at hO
  have hP2 := fun g A c W (h : Tab W g) (hl : SeesB W A l) => hseal_ok g K IX LE ST BN LK lst l.length A c l W h hl (by omega) hr hkk
  rw [← hG, ← hB, ← hS] at hP2
  have hLo := fun W => hlong_any K IX LE ST BN lst LK l.length W
  rw [show longH K IX LE ST BN lst LK l.length = (B.length : Int) by unfold longH; rw [if_pos hr, hBl]; omega] at hLo
  have hq := fun W => eq_head K IX LE ST BN lst LK l.length W
  have HP := hid hP
  have HP2 := hid hP2
  have HO := hid hO
  have HLO := hid hLo
  have HMV := hid hmv
  have HML := hid hml
  have hpos : 0 < B.length := by omega
  have HBL := hid (show B.length ≤ 400 by omega)
  have dS : (S != S) = false := by simp
  have dS2 : (S == S) = true := by simp
  clear hP hP2 hG hGl hS hB hBl hkk hO hLo ho hm hmv hml hr
  have hb : Below w.heap.size w (w.alloc (.cells #[.int .i64 (K : Int), .int .i64 (IX : Int), .int .i64 (LE : Int), .int .i64 (ST : Int), .int .i64 (BN : Int), .bool lst, .int .u32 (LK : Int), .int .i64 siz] 24)) := (Below.refl _ w).alloc (Nat.le_refl _) _
  have hrow := heap_alloc_new w (.cells #[.int .i64 (K : Int), .int .i64 (IX : Int), .int .i64 (LE : Int), .int .i64 (ST : Int), .int .i64 (BN : Int), .bool lst, .int .u32 (LK : Int), .int .i64 siz] 24)
  go_enter Try.func7, Try.ntmps7
  go_wp2_with fail
  generalize w.alloc (.cells #[.int .i64 (K : Int), .int .i64 (IX : Int), .int .i64 (LE : Int), .int .i64 (ST : Int), .int .i64 (BN : Int), .bool lst, .int .u32 (LK : Int), .int .i64 siz] 24) = w0 at *
  have hlt0 : w.heap.size < w0.heap.size := (Array.getElem?_eq_some_iff.1 hrow).1
  refine (make_any w0).mono ?_
  rintro e w1 ⟨rfl, hb1, ht1⟩
  have hbw1 := hb.trans (hb1.mono hb.size)
  have hrow1 := (hb1.block w.heap.size hlt0).trans hrow
  have hl1 := hl.below hbw1
  clear hb hrow hb1
  go_wp2_with first | (refine wpList_load_row rfl 24 (.tmp 3) rfl w.heap.size rfl 24 #[.int .i64 (K : Int), .int .i64 (IX : Int), .int .i64 (LE : Int), .int .i64 (ST : Int), .int .i64 (BN : Int), .bool lst, .int .u32 (LK : Int), .int .i64 siz] (0, 0) _ hrow1 Try.underlying24 rfl (by kernel_rfl) ?_)
  refine (HP.out _ _ ht1 hl1).mono ?_
  rintro e w2 ⟨v, rfl, hv⟩
  obtain ⟨A1, d1', rfl, hs, hA, ho2, hb2⟩ := hv.parts
  have hbw2 := hbw1.trans (hb2.mono hbw1.size)
  have hrow2 := (hb2.block w.heap.size (Array.getElem?_eq_some_iff.1 hrow1).1).trans hrow1
  have ht2 := ht1.keep hb2 ht1.lt
  have hm2 := hlm.below hbw2
  have hAb : ∀ a, A1 = some a → a.block < w2.heap.size := fun a ha => (hA a ha).2
  clear hv hA ho2 hb2 hbw1 hrow1 hl1 ht1
  go_wp2_with first
    | (at_builtin
       refine wpList_app rfl (.tmp 49) (.tmp 50) _ rfl elB rfl (own_nil _ w2.heap.size 1 5) A1 B.length d1' rfl (B.map byteV) hs (by simp) (byte_one B) B.length (by omega) (B.map byteV) rfl (by have := HBL.out; unfold maxLen; omega) (by have := HBL.out; omega) (Nat.le_refl _) ?_
       intro A3 c3 w3 hown3 hg3 hat3 hb3
       have hm3 := hm2.below hb3)
    | (at_builtin
       refine wpList_app rfl (.tmp 51) (.tmp 52) _ rfl elB rfl hown3 AM lm.length cM rfl (lm.map byteV) hm3 (by simp) (byte_one lm) m.length HML.out.symm (m.map byteV) HMV.out.symm (by have := HBL.out; have := HML.out; unfold maxLen; omega) (by have := HBL.out; have := HML.out; omega) hb3.size ?_
       intro A4 c4 w4 hown4 hg4 hat4 hb4)
  have hb24 := hb3.trans hb4
  have hs4 : SeesB w4 A4 m := own_sees hown4
  obtain ⟨hr1, hr2⟩ := own_room hown4
  have ht4 := ht2.keep hb24 ht2.lt
  have hbw4 := hbw2.trans (hb24.mono hbw2.size)
  have hrow4 := (hb24.block w.heap.size (Array.getElem?_eq_some_iff.1 hrow2).1).trans hrow2
  have hsB4 := hs.below hb24
  clear hb24 hb3 hb4 hg3 hg4 hat3 hat4 hown3 hown4 hm2 hm3 ht2 hs hbw2 hrow2
  refine (HO.out _ _ _ _ hs4 hr1 hr2 ht4).mono ?_
  rintro e w5 ⟨A5, c5, rfl, hp5, _, _, hb5⟩
  have hb6 : Below w5.heap.size w5 (w5.alloc (.cells #[.int .i64 (K : Int), .int .i64 (IX : Int), .int .i64 (LE : Int), .int .i64 (ST : Int), .int .i64 (BN : Int), .bool lst, .int .u32 (LK : Int), .int .i64 (l.length : Int)] 24)) := (Below.refl _ _).alloc (Nat.le_refl _) _
  have hr6 := heap_alloc_new w5 (.cells #[.int .i64 (K : Int), .int .i64 (IX : Int), .int .i64 (LE : Int), .int .i64 (ST : Int), .int .i64 (BN : Int), .bool lst, .int .u32 (LK : Int), .int .i64 (l.length : Int)] 24)
  have hb56 := hb5.trans (hb6.mono hb5.size)
  have ht6 := ht4.keep hb56 ht4.lt
  have hbw6 := hbw4.trans (hb56.mono hbw4.size)
  have hrow6 := (hb56.block w.heap.size (Array.getElem?_eq_some_iff.1 hrow4).1).trans hrow4
  have hp6 := hp5.below hb6
  have hsB6 := hsB4.below hb56
  have hl6 := hl.below hbw6
  have hww : w.heap.size < w5.heap.size := Nat.lt_of_lt_of_le (Array.getElem?_eq_some_iff.1 hrow4).1 hb5.size
  clear hb5 hb6 hb56 hs4 ht4 hbw4 hrow4 hp5 hsB4 hr1 hr2
  have hcv1 := conv_bs A5 c5 l _ hp6
  have hcv2 := conv_bs A c l _ hl6
  have q0 : (w5.alloc (.cells #[.int .i64 (K : Int), .int .i64 (IX : Int), .int .i64 (LE : Int), .int .i64 (ST : Int), .int .i64 (BN : Int), .bool lst, .int .u32 (LK : Int), .int .i64 (l.length : Int)] 24)).cell? ⟨w5.heap.size, 0, none⟩ = some (.int .i64 (K : Int)) := by rw [cell_of_row _ _ _ _ _ _ hr6]; rfl
  have q1 : (w5.alloc (.cells #[.int .i64 (K : Int), .int .i64 (IX : Int), .int .i64 (LE : Int), .int .i64 (ST : Int), .int .i64 (BN : Int), .bool lst, .int .u32 (LK : Int), .int .i64 (l.length : Int)] 24)).cell? ⟨w5.heap.size, 1, none⟩ = some (.int .i64 (IX : Int)) := by rw [cell_of_row _ _ _ _ _ _ hr6]; rfl
  have q2 : (w5.alloc (.cells #[.int .i64 (K : Int), .int .i64 (IX : Int), .int .i64 (LE : Int), .int .i64 (ST : Int), .int .i64 (BN : Int), .bool lst, .int .u32 (LK : Int), .int .i64 (l.length : Int)] 24)).cell? ⟨w5.heap.size, 2, none⟩ = some (.int .i64 (LE : Int)) := by rw [cell_of_row _ _ _ _ _ _ hr6]; rfl
  have q3 : (w5.alloc (.cells #[.int .i64 (K : Int), .int .i64 (IX : Int), .int .i64 (LE : Int), .int .i64 (ST : Int), .int .i64 (BN : Int), .bool lst, .int .u32 (LK : Int), .int .i64 (l.length : Int)] 24)).cell? ⟨w5.heap.size, 3, none⟩ = some (.int .i64 (ST : Int)) := by rw [cell_of_row _ _ _ _ _ _ hr6]; rfl
  have q4 : (w5.alloc (.cells #[.int .i64 (K : Int), .int .i64 (IX : Int), .int .i64 (LE : Int), .int .i64 (ST : Int), .int .i64 (BN : Int), .bool lst, .int .u32 (LK : Int), .int .i64 (l.length : Int)] 24)).cell? ⟨w5.heap.size, 4, none⟩ = some (.int .i64 (BN : Int)) := by rw [cell_of_row _ _ _ _ _ _ hr6]; rfl
  have q5 : (w5.alloc (.cells #[.int .i64 (K : Int), .int .i64 (IX : Int), .int .i64 (LE : Int), .int .i64 (ST : Int), .int .i64 (BN : Int), .bool lst, .int .u32 (LK : Int), .int .i64 (l.length : Int)] 24)).cell? ⟨w5.heap.size, 5, none⟩ = some (.bool lst) := by rw [cell_of_row _ _ _ _ _ _ hr6]; rfl
  have q6 : (w5.alloc (.cells #[.int .i64 (K : Int), .int .i64 (IX : Int), .int .i64 (LE : Int), .int .i64 (ST : Int), .int .i64 (BN : Int), .bool lst, .int .u32 (LK : Int), .int .i64 (l.length : Int)] 24)).cell? ⟨w5.heap.size, 6, none⟩ = some (.int .u32 (LK : Int)) := by rw [cell_of_row _ _ _ _ _ _ hr6]; rfl
  have q7 : (w5.alloc (.cells #[.int .i64 (K : Int), .int .i64 (IX : Int), .int .i64 (LE : Int), .int .i64 (ST : Int), .int .i64 (BN : Int), .bool lst, .int .u32 (LK : Int), .int .i64 (l.length : Int)] 24)).cell? ⟨w5.heap.size, 7, none⟩ = some (.int .i64 (l.length : Int)) := by rw [cell_of_row _ _ _ _ _ _ hr6]; rfl
  go_wp2_with fail
  generalize w5.alloc (.cells #[.int .i64 (K : Int), .int .i64 (IX : Int), .int .i64 (LE : Int), .int .i64 (ST : Int), .int .i64 (BN : Int), .bool lst, .int .u32 (LK : Int), .int .i64 (l.length : Int)] 24) = w6 at *
  clear q0 q1 q2 q3 q4 q5 q6 q7 hcv1 hcv2
  refine (HLO.out _).mono ?_
  rintro e w7 ⟨rfl, hb7⟩
  have ht7 := ht6.keep hb7 ht6.lt
  have hbw7 := hbw6.trans (hb7.mono hbw6.size)
  have hrow7 := (hb7.block w.heap.size (Array.getElem?_eq_some_iff.1 hrow6).1).trans hrow6
  have hr7 := (hb7.block w5.heap.size (Array.getElem?_eq_some_iff.1 hr6).1).trans hr6
  have hp7 := hp6.below hb7
  have hsB7 := hsB6.below hb7
  clear hb7 ht6 hbw6 hrow6 hr6 hp6 hsB6 hl6
  have k7 : w7.cell? ⟨w.heap.size, 7, none⟩ = some (.int .i64 siz) := by rw [cell_of_row _ _ _ _ _ _ hrow7]; rfl
  have f7 : w7.frozen? ⟨w.heap.size, 7, none⟩ = false := frozen_of_row _ _ _ _ _ hrow7
  have hrow8 : (w7.setCell ⟨w.heap.size, 7, none⟩ (.int .i64 (l.length : Int))).heap[w.heap.size]? = some (.cells #[.int .i64 (K : Int), .int .i64 (IX : Int), .int .i64 (LE : Int), .int .i64 (ST : Int), .int .i64 (BN : Int), .bool lst, .int .u32 (LK : Int), .int .i64 (l.length : Int)] 24 (0, 0)) := heap_setCell_same _ w.heap.size 7 _ _ (.int .i64 (l.length : Int)) hrow7
  have hr8 := (heap_setCell_other w7 ⟨w.heap.size, 7, none⟩ w5.heap.size (.int .i64 (l.length : Int)) (by show w5.heap.size ≠ w.heap.size; omega)).trans hr7
  have hbw8 := hbw7.setCell (p := ⟨w.heap.size, 7, none⟩) (Nat.le_refl _) (.int .i64 (l.length : Int))
  have hty : ∀ (j : Nat) (z : Int), (#[.int .i64 (K : Int), .int .i64 (IX : Int), .int .i64 (LE : Int), .int .i64 (ST : Int), .int .i64 (BN : Int), .bool lst, .int .u32 (LK : Int), .int .i64 siz] : Array Value)[j]? ≠ some (.int .u8 z) := fun j z h => by
    have := Array.mem_of_getElem? h
    simp at this
  have ht8 := Tab.setFar ht7 (Nat.ne_of_gt hlt0) 7 (.int .i64 (l.length : Int))
  have hp8 := SeesB.setTyped hp7 hrow7 hty 7 (.int .i64 (l.length : Int))
  have hsB8 := SeesB.setTyped hsB7 hrow7 hty 7 (.int .i64 (l.length : Int))
  clear hty ht7 hp7 hsB7 hrow7 hr7 hbw7
  go_wp2_with first | (refine wpList_load_row rfl 24 (.tmp 12) rfl w5.heap.size rfl 24 #[.int .i64 (K : Int), .int .i64 (IX : Int), .int .i64 (LE : Int), .int .i64 (ST : Int), .int .i64 (BN : Int), .bool lst, .int .u32 (LK : Int), .int .i64 (l.length : Int)] (0, 0) _ hr8 Try.underlying24 rfl (by kernel_rfl) ?_)
  generalize w7.setCell ⟨w.heap.size, 7, none⟩ (.int .i64 (l.length : Int)) = w8 at *
  refine (HP2.out _ _ _ _ ht8 hp8).mono ?_
  rintro e w9 ⟨v, rfl, hv⟩
  obtain ⟨A9, d9, rfl, hs9, _, _, hb9⟩ := hv.parts
  have hbw2 := hbw8.trans (hb9.mono hbw8.size)
  have hrow9 := (hb9.block w.heap.size (Array.getElem?_eq_some_iff.1 hrow8).1).trans hrow8
  have hr9 := (hb9.block w5.heap.size (Array.getElem?_eq_some_iff.1 hr8).1).trans hr8
  have hcv1 := conv_bs A9 d9 B _ hs9
  have hcv2 := conv_bs A1 d1' B _ (hsB8.below hb9)
  clear hv hb9 hbw8 hrow8 hr8 hs9 hsB8 hp8 ht8 k7 f7
  go_wp2_with first | (refine wpList_load_row rfl 24 (.tmp 12) rfl w5.heap.size rfl 24 #[.int .i64 (K : Int), .int .i64 (IX : Int), .int .i64 (LE : Int), .int .i64 (ST : Int), .int .i64 (BN : Int), .bool lst, .int .u32 (LK : Int), .int .i64 (l.length : Int)] (0, 0) _ hr9 Try.underlying24 rfl (by kernel_rfl) ?_) | (refine wpList_load_row rfl 24 (.tmp 3) rfl w.heap.size rfl 24 #[.int .i64 (K : Int), .int .i64 (IX : Int), .int .i64 (LE : Int), .int .i64 (ST : Int), .int .i64 (BN : Int), .bool lst, .int .u32 (LK : Int), .int .i64 (l.length : Int)] (0, 0) _ hrow9 Try.underlying24 rfl (by kernel_rfl) ?_)
  refine (known_any _).mono ?_
  rintro e w9 ⟨rfl, hb9⟩
  go_wp2_with fail
  go_ret
  exact ⟨rfl, hbw2.trans (hb9.mono hbw2.size)⟩
theorem walk (k idx len stp bnd : Int) (lst : Bool) (lnk siz : Int) (A : Option Addr) (c : Nat) (l : List UInt8) (AM : Option Addr) (cM : Nat) (lm : List UInt8) (w : World) (hlk : 0 ≤ lnk ∧ lnk < 4294967296) (hl : SeesB w A l ∧ l.length ≤ c ∧ c ≤ maxLen) (hlm : SeesB w AM lm ∧ lm.length ≤ cM ∧ cM ≤ maxLen) :
    Calls Try.prog 7 #[.agg #[.int .i64 k, .int .i64 idx, .int .i64 len, .int .i64 stp, .int .i64 bnd, .bool lst, .int .u32 lnk, .int .i64 siz], .slice A l.length c, .slice AM lm.length cM] w fun e w' => e = .returned (.bool true) ∧ Below w.heap.size w w' := by
  obtain ⟨hl, _, _⟩ := hl
  obtain ⟨hlm, _, _⟩ := hlm
  by_cases h : 300 < l.length ∨ 300 < lm.length
  · exact walk_out k idx len stp bnd lst lnk siz A c l AM cM lm w h
  · cases hr : rightH k idx len stp bnd lst lnk (l.length : Int) with
    | false => exact walk_bad k idx len stp bnd lst lnk siz A c l AM cM lm w hl (by omega) (by omega) hr
    | true =>
      have hr2 := of_decide_eq_true hr
      obtain ⟨g0, g1, g2, g3, g4, g5, _⟩ := hr2
      obtain ⟨K, rfl⟩ := Int.eq_ofNat_of_zero_le (show 0 ≤ k by omega)
      obtain ⟨IX, rfl⟩ := Int.eq_ofNat_of_zero_le (show 0 ≤ idx by omega)
      obtain ⟨LE, rfl⟩ := Int.eq_ofNat_of_zero_le (show 0 ≤ len by omega)
      obtain ⟨ST, rfl⟩ := Int.eq_ofNat_of_zero_le (show 0 ≤ stp by omega)
      obtain ⟨BN, rfl⟩ := Int.eq_ofNat_of_zero_le (show 0 ≤ bnd by omega)
      obtain ⟨LK, rfl⟩ := Int.eq_ofNat_of_zero_le (show 0 ≤ lnk by omega)
      have hkk : K < 256 ∧ IX < 4294967296 ∧ LE < 4294967296 ∧ ST < 4294967296 ∧ BN < 4294967296 ∧ LK < 4294967296 ∧ l.length < 4294967296 := by omega
      exact walk_in K IX LE ST BN LK lst siz A c l AM cM lm w hl hlm (by omega) (by omega) hr hkk
end Go.Proofs.Ytffcebjamichdaa.headBack
