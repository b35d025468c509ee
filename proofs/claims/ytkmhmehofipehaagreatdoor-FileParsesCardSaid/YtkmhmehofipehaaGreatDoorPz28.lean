/- A file without tags and blocks is put together; without a table none is. -/
import Derived.Test.YtkmhmehofipehaaGreatDoorPz9
import Derived.Test.YtkmhmehofipehaaGreatDoorPz10
import Derived.Test.YtkmhmehofipehaaGreatDoorPz27
import Derived.Test.YtkmhmehofipehaaGreatDoorPz3
import Derived.Deep.RegionHeld3
import Derived.Test.YtkmhmehofipehaaGreatDoorPz26
import Derived.Test.YtkmhmehofipehaaGreatDoorPz7
import Derived.Test.YtkmhmehofipehaaGreatDoorRows
import Derived.MakeChecks
namespace Go.Proofs.YtkmhmehofipehaaGreatDoor
set_option linter.unusedVariables false
open Go.RowKit
theorem undrewG {B : Nat} {w w' : World} (h : Below B w.drew w') : Below B w w' := ⟨h.os, h.tape, h.output, h.size, h.block⟩
/-- a file on its way, as it begins -/
def Begun (w : World) (g : Nat) (k ch bi ra bl sh : Nat) (out : List UInt8) (e : Ending) (w' : World) : Prop :=
  ∃ (m : Nat) (A : Option Addr) (c : Nat), e = .returned (.tuple #[.pointer (some ⟨m, 0, none⟩), .int .i64 0]) ∧ w'.heap[m]? = some (.cells #[.pointer (some ⟨g, 0, none⟩), .int .i64 k, .int .i64 ch, .int .i64 bi, .int .i64 ra, .int .i64 bl, .int .i64 sh, .slice A out.length c, .slice none 0 0, .int .i64 0, .bool false] 54 (0, 0)) ∧
    w'.ownsRow w.heap.size 5 1 (.slice A out.length c) out.length (out.map byteV) ∧ w.heap.size ≤ m ∧ Below w.heap.size w w'
set_option maxRecDepth 20000 in
set_option maxHeartbeats 4000000 in
theorem opened_none (g : Nat) (k ch bi ra bl sh : Nat) (A0 : Option Addr) (c0 : Nat) (w : World) (ht : Tab w g) (hr : rightI k ch bi ra bl sh = true) (hk : k < 256 ∧ ch < 256 ∧ bi < 256 ∧ sh < 256 ∧ ra < 16777216 ∧ bl < 4294967296) (out : List UInt8) (ho : out = sealed (infoHead k ch bi sh ra bl) ++ sealed [84, 71, 0]) :
    Calls Tryz.prog 25 #[.pointer (some ⟨g, 0, none⟩), .agg #[.int .i64 k, .int .i64 ch, .int .i64 bi, .int .i64 ra, .int .i64 bl, .int .i64 sh], .slice A0 0 c0] w (Begun w g k ch bi ra bl sh out) := by
  obtain ⟨X, hX⟩ : ∃ X, X = sealed (infoHead k ch bi sh ra bl) := ⟨_, rfl⟩
  obtain ⟨Y, hY⟩ : ∃ Y, Y = sealed [84, 71, 0] := ⟨_, rfl⟩
  have hXl : X.length = 19 := by rw [hX]; simp [sealed, infoHead, bytesLE_length]
  have hYl : Y.length = 7 := by rw [hY]; simp [sealed, bytesLE_length]
  have hb : Below w.heap.size w (w.alloc (.cells #[.int .i64 k, .int .i64 ch, .int .i64 bi, .int .i64 ra, .int .i64 bl, .int .i64 sh] 27)) := (Below.refl _ w).alloc (Nat.le_refl _) _
  have hrow := heap_alloc_new w (.cells #[.int .i64 k, .int .i64 ch, .int .i64 bi, .int .i64 ra, .int .i64 bl, .int .i64 sh] 27)
  have P1 := hid (fun W h => iput_ok g k ch bi ra bl sh W h hr hk)
  have P2 := hid (fun W h => tagput_none g A0 c0 W h)
  rw [← hX] at P1
  rw [← hY] at P2
  have HXL := hid hXl
  have HYL := hid hYl
  rw [← hX, ← hY] at ho
  have HO := hid ho
  clear hX hY hXl hYl ho hr hk
  have ht0 := ht.keep hb ht.lt
  go_enter Tryz.func25, Tryz.ntmps25
  go_wp2_with fail
  generalize hw0 : w.alloc (.cells #[.int .i64 k, .int .i64 ch, .int .i64 bi, .int .i64 ra, .int .i64 bl, .int .i64 sh] 27) = w0 at *
  clear hw0
  have c0 : w0.cell? ⟨w.heap.size, 0, none⟩ = some (.int .i64 (k : Int)) := by rw [cell_of_row _ _ _ _ _ _ hrow]; rfl
  have c1 : w0.cell? ⟨w.heap.size, 1, none⟩ = some (.int .i64 (ch : Int)) := by rw [cell_of_row _ _ _ _ _ _ hrow]; rfl
  have c2 : w0.cell? ⟨w.heap.size, 2, none⟩ = some (.int .i64 (bi : Int)) := by rw [cell_of_row _ _ _ _ _ _ hrow]; rfl
  have c3 : w0.cell? ⟨w.heap.size, 3, none⟩ = some (.int .i64 (ra : Int)) := by rw [cell_of_row _ _ _ _ _ _ hrow]; rfl
  have c4 : w0.cell? ⟨w.heap.size, 4, none⟩ = some (.int .i64 (bl : Int)) := by rw [cell_of_row _ _ _ _ _ _ hrow]; rfl
  have c5 : w0.cell? ⟨w.heap.size, 5, none⟩ = some (.int .i64 (sh : Int)) := by rw [cell_of_row _ _ _ _ _ _ hrow]; rfl
  clear hrow
  refine (P1.out w0 ht0).mono ?_
  rintro e w1 ⟨v, rfl, hv⟩
  obtain ⟨A1, d1, rfl, hs1, hA1, ho1, hb1⟩ := hv.parts
  have hbw1 := hb.trans (hb1.mono hb.size)
  have ht1 := ht0.keep hb1 ht0.lt
  replace c0 := keep1 hb1 c0
  replace c1 := keep1 hb1 c1
  replace c2 := keep1 hb1 c2
  replace c3 := keep1 hb1 c3
  replace c4 := keep1 hb1 c4
  replace c5 := keep1 hb1 c5
  clear hb hb1 hv hA1 ho1
  go_wp2_with fail
  refine (P2.out w1 ht1).mono ?_
  rintro e w2 ⟨v, rfl, hv⟩
  obtain ⟨A2, d2, rfl, hs2, hA2, ho2, hb2⟩ := hv.parts
  have hbw2 := hbw1.trans (hb2.mono hbw1.size)
  replace hs1 := hs1.below hb2
  replace c0 := keep1 hb2 c0
  replace c1 := keep1 hb2 c1
  replace c2 := keep1 hb2 c2
  replace c3 := keep1 hb2 c3
  replace c4 := keep1 hb2 c4
  replace c5 := keep1 hb2 c5
  clear hbw1 hb2 hv hA2 ho2 ht1 ht0
  go_wp2_with fail
  have hbA : Below w2.heap.size w2 (w2.drew.alloc (.cells #[.slice A1 X.length d1, .slice A2 Y.length d2] 22)) := ((Below.refl _ w2).drew).alloc (Nat.le_refl _) _
  have h0l : 0 < X.length + Y.length := by have := HXL.out; omega
  have hll : X.length + Y.length ≤ 70368744177664 := by have := HXL.out; have := HYL.out; omega
  go_region_held3 (fun w' => w'.cell? ⟨w.heap.size, 0, none⟩ = some (.int .i64 (k : Int)) ∧ w'.cell? ⟨w.heap.size, 1, none⟩ = some (.int .i64 (ch : Int)) ∧ w'.cell? ⟨w.heap.size, 2, none⟩ = some (.int .i64 (bi : Int)) ∧ w'.cell? ⟨w.heap.size, 3, none⟩ = some (.int .i64 (ra : Int)) ∧ w'.cell? ⟨w.heap.size, 4, none⟩ = some (.int .i64 (bl : Int)) ∧ w'.cell? ⟨w.heap.size, 5, none⟩ = some (.int .i64 (sh : Int))) (first | exact ⟨c0, c1, c2, c3, c4, c5⟩ | exact ⟨f0, f1, f2, f3, f4, f5⟩ | go_keep)
    (first | (go_at_call 47; refine (concat_two w2.heap.size A1 A2 d1 d2 X Y _ ?_ ?_ ?_ h0l hll).mono ?_; exact heap_alloc_new w2.drew _; exact hs1.below hbA; exact hs2.below hbA; rintro e w3 ⟨v, rfl, hv⟩; obtain ⟨A3, d3, rfl, hs3, hA3, ho3, hb3⟩ := hv.parts; have f0 := keep1 hb3 (keep1 hbA c0); have f1 := keep1 hb3 (keep1 hbA c1); have f2 := keep1 hb3 (keep1 hbA c2); have f3 := keep1 hb3 (keep1 hbA c3); have f4 := keep1 hb3 (keep1 hbA c4); have f5 := keep1 hb3 (keep1 hbA c5)))
  have hbw3 := (hbw2.trans (hbA.mono hbw2.size)).trans (hb3.mono (Nat.le_trans hbw2.size hbA.size))
  have hfin : Begun w g k ch bi ra bl sh (X ++ Y) (.returned (.tuple #[.pointer (some ⟨w3.heap.size, 0, none⟩), .int .i64 0])) (w3.alloc (.cells #[.pointer (some ⟨g, 0, none⟩), .int .i64 k, .int .i64 ch, .int .i64 bi, .int .i64 ra, .int .i64 bl, .int .i64 sh, .slice A3 (X.length + Y.length) d3, .slice none 0 0, .int .i64 0, .bool false] 54)) := by
    rw [← List.length_append]
    exact ⟨w3.heap.size, A3, d3, rfl, heap_alloc_new _ _, (Joins.ownsRow_le ho3 (Nat.le_trans hbw2.size hbA.size)).alloc _, hbw3.size, hbw3.alloc hbw3.size _⟩
  obtain rfl : out = X ++ Y := HO.out
  clear hb3 ho3 hs3 hv hA3 c0 c1 c2 c3 c4 c5 f0 f1 f2 f3 f4 f5 hs1 hs2
  go_wp2_with fail
  go_ret2
  exact hfin
theorem own_keep {w w' : World} {base : Nat} {e : TypeId} {size : Nat} {v : Value} {n : Nat} {xs : List Value} (h : w.ownsRow base e size v n xs) (hb : Below w.heap.size w w') : w'.ownsRow base e size v n xs := by
  refine ⟨h.1, ?_⟩
  rcases h.2 with h' | ⟨g, cap, cur, hv, hbg, hg, rest⟩
  · exact .inl h'
  · exact .inr ⟨g, cap, cur, hv, hbg, (hb.block g (Array.getElem?_eq_some_iff.1 hg).1).trans hg, rest⟩
set_option maxRecDepth 20000 in
set_option maxHeartbeats 4000000 in
theorem build_none (g : Nat) (k ch bi ra bl sh s : Nat) (A0 B0 : Option Addr) (c0 d0 : Nat) (w : World) (ht : Tab w g) (hr : rightI k ch bi ra bl sh = true) (hk : k < 256 ∧ ch < 256 ∧ bi < 256 ∧ sh < 256 ∧ ra < 16777216 ∧ bl < 4294967296) (hs : s < 4294967296) (out : List UInt8) (ho : out = sealed (infoHead k ch bi sh ra bl) ++ sealed [84, 71, 0]) :
    Calls Tryz.prog 11 #[.pointer (some ⟨g, 0, none⟩), .agg #[.int .i64 k, .int .i64 ch, .int .i64 bi, .int .i64 ra, .int .i64 bl, .int .i64 sh], .slice A0 0 c0, .slice B0 0 d0, .int .u32 (s : Int)] w (PutPost w (out ++ sealed (tailHead 0 s []))) := by
  have hOl : out.length = 26 := by rw [ho]; simp [sealed, infoHead, bytesLE_length]
  have hEl : (sealed (tailHead 0 s [])).length = 18 := by simp [sealed, tailHead_len, bytesLE_length]
  have PO := hid (fun W h => opened_none g k ch bi ra bl sh A0 c0 W h hr hk out ho)
  have PT := hid (show ∀ W, Tab W g → Calls Tryz.prog 27 #[.pointer (some ⟨g, 0, none⟩), .agg #[.int .i64 0, .int .u32 (s : Int), .slice none 0 0]] W (PutPost W (sealed (tailHead 0 s []))) from fun W h => tput_ok g 0 s none 0 [] W h (Sees.nil _ _) (by decide) (by decide) (by decide) hs (fun i h => by simp at h))
  have HOL := hid hOl
  generalize sealed (tailHead 0 s []) = E at *
  have HEL := hid hEl
  have hmm : (out ++ E).map byteV = out.map byteV ++ E.map byteV := List.map_append
  have hll : out.length + E.length = (out ++ E).length := (List.length_append).symm
  have HM := hid hmm
  have HL := hid hll
  have HOE := hid (show ∀ u ∈ E.map byteV, u.oneCell' = true by simp [byteV, Value.oneCell'])
  have HEM := hid (show (E.map byteV).length = E.length by simp)
  generalize hOE : out ++ E = OE at *
  clear hOE hOl hEl ho hr hk hmm hll
  have hb : Below w.heap.size w (w.alloc (.cells #[.int .i64 k, .int .i64 ch, .int .i64 bi, .int .i64 ra, .int .i64 bl, .int .i64 sh] 27)) := (Below.refl _ w).alloc (Nat.le_refl _) _
  have hrow := heap_alloc_new w (.cells #[.int .i64 k, .int .i64 ch, .int .i64 bi, .int .i64 ra, .int .i64 bl, .int .i64 sh] 27)
  have ht0 := ht.keep hb ht.lt
  go_enter Tryz.func11, Tryz.ntmps11
  go_wp2_with fail
  generalize hw0 : w.alloc (.cells #[.int .i64 k, .int .i64 ch, .int .i64 bi, .int .i64 ra, .int .i64 bl, .int .i64 sh] 27) = w0 at *
  clear hw0 hrow
  refine (PO.out w0 ht0).mono ?_
  rintro e w1 ⟨m, A, c, rfl, hrow, hown, hm, hb1⟩
  have hbw1 := hb.trans (hb1.mono hb.size)
  have ht1 := ht0.keep hb1 ht0.lt
  have hown1 := Joins.ownsRow_le hown hb.size
  have hmw : w.heap.size ≤ m := Nat.le_trans hb.size hm
  have e7 : w1.cell? ⟨m, 7, none⟩ = some (.slice A out.length c) := by rw [cell_of_row _ _ _ _ _ _ hrow]; rfl
  have e8 : w1.cell? ⟨m, 8, none⟩ = some (.slice none 0 0) := by rw [cell_of_row _ _ _ _ _ _ hrow]; rfl
  have e9 : w1.cell? ⟨m, 9, none⟩ = some (.int .i64 0) := by rw [cell_of_row _ _ _ _ _ _ hrow]; rfl
  clear hb hb1 hown hm hrow ht0
  go_wp2_with fail
  go_loop [30] (fun i => i = .int .i64 0) (fun _ => 0)
  case atStart => exact rfl
  case round =>
    obtain rfl := hrel
    go_wp2_with fail
    go_region_held3 (fun w' => w'.cell? ⟨m, 7, none⟩ = some (.slice A out.length c) ∧ w'.cell? ⟨m, 8, none⟩ = some (.slice none 0 0) ∧ w'.cell? ⟨m, 9, none⟩ = some (.int .i64 0)) (first | exact ⟨e7, e8, e9⟩ | exact ⟨f7, f8, f9⟩ | go_keep)
      (first | (go_at_call 27; refine (PT.out _ ?_).mono ?_; exact ht1; rintro e w2 ⟨v, rfl, hv⟩; obtain ⟨A2, c2, rfl, hs2, hA2, ho2, hb2⟩ := hv.parts; have f7 := keep1 hb2 e7; have f8 := keep1 hb2 e8; have f9 := keep1 hb2 e9))
    have hb2' : Below w1.heap.size w1 w2 := undrewG hb2
    have hbw2 := hbw1.trans (hb2'.mono hbw1.size)
    have hown2 := own_keep hown1 hb2'
    clear hb2 hb2' hown1 hv ho2 hA2 e7 e8 e9 f8 f9 hbw1 ht1
    go_wp2_with (at_builtin; refine wpList_app rfl (.tmp 62) (.tmp 63) _ rfl elB rfl hown2 A2 E.length c2 rfl (E.map byteV) hs2 (by rw [HEM.out]; omega) HOE.out OE.length HL.out (OE.map byteV) HM.out.symm (by have := HL.out; have := HOL.out; have := HEL.out; unfold maxLen; omega) (by have := HL.out; have := HOL.out; have := HEL.out; omega) hbw2.size ?_; intro A3 c3 w3 hown3 hgr hat hbel)
    go_ret2
    exact ⟨_, rfl, A3, c3, rfl, hown3, hbw2.trans hbel⟩
end Go.Proofs.YtkmhmehofipehaaGreatDoor
/- The fixed calls of the statements of layer 29. -/
namespace Go.Proofs.YtkmhmehofipehaaGreatDoor
set_option linter.unusedVariables false
open Go.RowKit
set_option maxRecDepth 20000 in
set_option maxHeartbeats 1000000 in
theorem known_any (w : World) :
    Calls Tryz.prog 4 #[] w fun e w' => e = .returned (.bool true) ∧ Below w.heap.size w w' := by
  obtain ⟨R, hR⟩ : ∃ R, R = sealed (infoHead 1 1 8 0 1 256) ++ sealed [84, 71, 0] ++ sealed (tailHead 0 0 []) := ⟨_, rfl⟩
  have hR44 : R.length = 44 := by rw [hR]; simp [sealed, infoHead, tailHead_len, bytesLE_length]
  have HB := hid (show ∀ g W, Tab W g → Calls Tryz.prog 11 #[.pointer (some ⟨g, 0, none⟩), .agg #[.int .i64 1, .int .i64 1, .int .i64 8, .int .i64 1, .int .i64 256, .int .i64 0], .slice none 0 0, .slice none 0 0, .int .u32 0] W (PutPost W R) from fun g W h => by
    rw [hR]
    exact build_none g 1 1 8 1 256 0 0 none none 0 0 W h (by decide) (by decide) (by decide) _ rfl)
  have HR := hid hR44
  clear hR hR44
  go_enter Tryz.func4, Tryz.ntmps4
  go_wp2_with fail
  refine (make_any _).mono ?_
  rintro e w1 ⟨rfl, hb1, ht1⟩
  go_wp2_with fail
  refine (HB.out _ _ ht1).mono ?_
  rintro e w2 ⟨v, rfl, hv⟩
  obtain ⟨A, c, rfl, hs, hA, ho, hb2⟩ := hv.parts
  have hbw := hb1.trans (hb2.mono hb1.size)
  clear hv hs hA ho hb1 hb2
  rw [HR.out]
  go_wp2_with fail
  go_ret
  exact ⟨rfl, hbw⟩
end Go.Proofs.YtkmhmehofipehaaGreatDoor
/- The walk of FileParses. -/
namespace Go.Proofs.YtkmhmehofipehaaGreatDoor
set_option linter.unusedVariables false
open Go.RowKit
namespace fileParses
set_option maxRecDepth 20000 in
set_option maxHeartbeats 8000000 in
theorem walk (A : Option Addr) (c : Nat) (b : List UInt8) (w : World) (h : SeesB w A b ∧ b.length ≤ c ∧ c ≤ maxLen) (hT : Tabs w) :
    Calls Tryz.prog 3 #[.slice A b.length c] w fun e w' => e = .returned (.bool true) ∧ Below w.heap.size w w' := by
  obtain ⟨hl, hlc, hc⟩ := h
  have HKN := hid known_any
  by_cases h3 : 3000 < b.length
  · have d1 : decide (3000 < (b.length : Int)) = true := decide_eq_true (by omega)
    clear hl
    go_enter Tryz.func3, Tryz.ntmps3
    go_wp2_with fail
    refine (HKN.out _).mono ?_
    rintro e w1 ⟨rfl, hb⟩
    go_wp2_with fail
    go_ret
    exact ⟨rfl, hb⟩
  have d1 : decide (3000 < (b.length : Int)) = false := decide_eq_false (by omega)
  have hgood := parse_good b (by omega)
  have HP := hid (fun g W (hB : Base W g A c b) => parse_any g A c b W hB)
  have HR := hid (fun W (hs : SeesB W A b) => rparse_any A c b W hs hlc hc (by omega))
  unfold ParsePost at HP HR
  obtain ⟨⟨E, ⟨⟨ik, ich, ibi, ira, ibl, ish⟩, l, bl, tc, ts, tp⟩⟩, hr⟩ : ∃ r, parseF b = r := ⟨_, rfl⟩
  rw [hr] at HP HR hgood
  (try simp only at HP HR hgood)
  obtain ⟨hcnt, hlen, hblL, hlt⟩ := hgood
  have HCNT := hid hcnt
  clear hcnt
  have hltm : l.length ≤ maxLen := by unfold maxLen; omega
  have hEE : (E == E) = true := by simp
  have htt : (tc == tc) = true := by simp
  have hbase := fun W g (h1 : Tab W g) (h2 : SeesB W A b) (h3 : Tabs W) => (⟨h1, h2, ⟨hlc, hc⟩, h3, by omega⟩ : Base W g A c b)
  clear hr
  go_enter Tryz.func3, Tryz.ntmps3
  go_wp2_with fail
  refine (make_any w).mono ?_
  rintro e w1 ⟨rfl, hb1, ht⟩
  have hl1 := hl.below hb1
  have HPP := hid (HP.out _ _ (hbase _ _ ht hl1 (hT.below hb1)))
  clear HP hbase hl hT ht
  go_wp2_with fail
  refine HPP.out.mono ?_
  rintro e w2 ⟨At, ct, Ak, ck, Ax, cx, L, rfl, hst, hct, hk, hbl, hpay, hlk, hckm, hx, hcx, hcmx, hb2⟩
  have HBL := hid hbl
  clear hbl
  have hb12 := hb1.trans (hb2.mono hb1.size)
  have hl2 := hl1.below hb2
  have hba : Below w2.heap.size w2 (w2.alloc (.cells #[.int .i64 ik, .int .i64 ich, .int .i64 ibi, .int .i64 ira, .int .i64 ibl, .int .i64 ish, .slice At l.length ct, .slice Ak L.length ck, .int .i64 tc, .int .u32 ts, .slice Ax tp.length cx] 35)) := (Below.refl _ _).alloc (Nat.le_refl _) _
  have hga := heap_alloc_new w2 (.cells #[.int .i64 ik, .int .i64 ich, .int .i64 ibi, .int .i64 ira, .int .i64 ibl, .int .i64 ish, .slice At l.length ct, .slice Ak L.length ck, .int .i64 tc, .int .u32 ts, .slice Ax tp.length cx] 35)
  have hb13 := hb12.trans (hba.mono hb12.size)
  have hl3 := hl2.below hba
  have hst3 := hst.below hba
  have hk3 := hk.below hba
  have hx3 := hx.below hba
  have hpay3 : ∀ x ∈ L, SeesB (w2.alloc (.cells #[.int .i64 ik, .int .i64 ich, .int .i64 ibi, .int .i64 ira, .int .i64 ibl, .int .i64 ish, .slice At l.length ct, .slice Ak L.length ck, .int .i64 tc, .int .u32 ts, .slice Ax tp.length cx] 35)) x.A x.p := fun x hx => (hpay x hx).1.below hba
  clear hb1 hb2 hb12 hl1 hl2 hba hst hk hx hpay HPP
  go_upto_region 4 with fail
  generalize w2.alloc (.cells #[.int .i64 ik, .int .i64 ich, .int .i64 ibi, .int .i64 ira, .int .i64 ibl, .int .i64 ish, .slice At l.length ct, .slice Ak L.length ck, .int .i64 tc, .int .u32 ts, .slice Ax tp.length cx] 35) = w3 at *
  generalize w2.heap.size = g3 at *
  go_wp2_with fail
  refine (HR.out w3 hl3).mono ?_
  rintro e w4 ⟨At2, ct2, Ak2, ck2, Ax2, cx2, L2, rfl, hst2, hct2, hk2, hbl2, hpay2, hlk2, hckm2, hx2, hcx2, hcmx2, hb4⟩
  have HBL2 := hid hbl2
  clear hbl2
  have hba : Below w4.heap.size w4 (w4.alloc (.cells #[.int .i64 ik, .int .i64 ich, .int .i64 ibi, .int .i64 ira, .int .i64 ibl, .int .i64 ish, .slice At2 l.length ct2, .slice Ak2 L2.length ck2, .int .i64 tc, .int .u32 ts, .slice Ax2 tp.length cx2] 43)) := (Below.refl _ _).alloc (Nat.le_refl _) _
  have hgb := heap_alloc_new w4 (.cells #[.int .i64 ik, .int .i64 ich, .int .i64 ibi, .int .i64 ira, .int .i64 ibl, .int .i64 ish, .slice At2 l.length ct2, .slice Ak2 L2.length ck2, .int .i64 tc, .int .u32 ts, .slice Ax2 tp.length cx2] 43)
  have hb35 : Below w3.heap.size w3 (w4.alloc (.cells #[.int .i64 ik, .int .i64 ich, .int .i64 ibi, .int .i64 ira, .int .i64 ibl, .int .i64 ish, .slice At2 l.length ct2, .slice Ak2 L2.length ck2, .int .i64 tc, .int .u32 ts, .slice Ax2 tp.length cx2] 43)) := hb4.trans (hba.mono hb4.size)
  have hga5 := (hb35.block g3 (Array.getElem?_eq_some_iff.1 hga).1).trans hga
  have hb15 := hb13.trans (hb35.mono hb13.size)
  have hst5 := hst3.below hb35
  have hk5 := hk3.below hb35
  have hx5 := SeesI.below hx3 hb35
  have hpay5 : ∀ x ∈ L, SeesB (w4.alloc (.cells #[.int .i64 ik, .int .i64 ich, .int .i64 ibi, .int .i64 ira, .int .i64 ibl, .int .i64 ish, .slice At2 l.length ct2, .slice Ak2 L2.length ck2, .int .i64 tc, .int .u32 ts, .slice Ax2 tp.length cx2] 43)) x.A x.p := fun x hx => (hpay3 x hx).below hb35
  have hst6 := hst2.below hba
  have hk6 := hk2.below hba
  have hx6 := SeesI.below hx2 hba
  have hpay6 : ∀ x ∈ L2, SeesB (w4.alloc (.cells #[.int .i64 ik, .int .i64 ich, .int .i64 ibi, .int .i64 ira, .int .i64 ibl, .int .i64 ish, .slice At2 l.length ct2, .slice Ak2 L2.length ck2, .int .i64 tc, .int .u32 ts, .slice Ax2 tp.length cx2] 43)) x.A x.p := fun x hx => (hpay2 x hx).1.below hba
  clear hb4 hb35 hba hl3 hst3 hk3 hx3 hpay3 hst2 hk2 hx2 hpay2 hga hb13 HR
  go_upto_region 5 with fail
  generalize w4.alloc (.cells #[.int .i64 ik, .int .i64 ich, .int .i64 ibi, .int .i64 ira, .int .i64 ibl, .int .i64 ish, .slice At2 l.length ct2, .slice Ak2 L2.length ck2, .int .i64 tc, .int .u32 ts, .slice Ax2 tp.length cx2] 43) = w5 at *
  generalize w4.heap.size = g5 at *
  have hbl := HBL.out
  have hbl2 := HBL2.out
  have hcnt := HCNT.out
  have hLL : L.length ≤ 100000 := by rw [hbl, List.length_map] at hblL; exact hblL
  have HBK := hid (fun W (hW : Below w5.heap.size w5 W) => back_any ik ich ibi ira ibl ish tc ts At l.length ct Ak ck Ax tp.length cx L W (hk5.below hW) hLL)
  have HSM := hid (fun W (hW : Below w5.heap.size w5 W) Aq cq (hq : Sees W Aq (flatM L)) => fsame_any ik ich ibi ira ibl ish tc ts At At2 l ct ct2 Aq Ak2 cq ck2 L L2 Ax Ax2 cx cx2 tp W (hst5.below hW) (hst6.below hW) hltm hq (hk6.below hW) (hbl.symm.trans hbl2) (fun x hx => (hpay5 x hx).below hW) (fun x hx => (hpay6 x hx).below hW) (SeesI.below hx5 hW) (SeesI.below hx6 hW) (by omega) hLL)
  have HCT := hid (fun W (hW : Below w5.heap.size w5 W) => count_any ik ich ibi ira ibl ish tc ts At l.length ct Ak ck Ax tp.length cx L W (hk5.below hW) hLL (by rw [← hbl]; exact hlen))
  rw [← hbl, ← hcnt] at HCT
  have e8 : w5.cell? ⟨g3, 8, none⟩ = some (.int .i64 tc) := by rw [cell_of_row _ _ _ _ _ _ hga5]; rfl
  have HGA := hid hga5
  have HGB := hid hgb
  clear hk5 hst5 hst6 hk6 hx5 hx6 hpay5 hpay6 hbl hbl2 hlen hcnt hblL hLL hltm hlt hct hlk hckm hcx hcmx hct2 hlk2 hckm2 hcx2 hcmx2 hga5 hgb h3 d1 hlc hc
  refine wp_region_held_drew (S := fun W => Below w5.heap.size w5 W) (by kernel_rfl) (show Below w5.heap.size w5 w5.drew from (Below.refl _ _).drew) (fun hHeld => ?_)
  have hb6 : Below w5.heap.size w5 w5.drew := (Below.refl _ _).drew
  generalize w5.drew = w6 at *
  refine wpAnyH_takeD (i := 0) (d := some 22) (v := ?v100) rfl rfl (by kernel_rfl) (by kernel_rfl) (by kernel_rfl) (fun _ _ _ h => h) (Or.inl ⟨by rfl, ?hy100⟩) hHeld ?rest100
  case hy100 =>
    intro wS hS
    go_simp
    all_goals with_reducible rfl
  (try simp only [Act.put, List.setIfInBounds_toArray, List.set_cons_zero, List.set_cons_succ])
  refine wpAnyH_takeD (i := 1) (d := some 23) (v := ?v101) rfl rfl (by kernel_rfl) (by kernel_rfl) (by kernel_rfl) (fun _ _ _ h => h) (Or.inl ⟨by rfl, ?hy101⟩) hHeld ?rest101
  case hy101 =>
    intro wS hS
    go_simp
    all_goals with_reducible rfl
  (try simp only [Act.put, List.setIfInBounds_toArray, List.set_cons_zero, List.set_cons_succ])
  refine wpAnyH_takeD (i := 2) (d := some 24) (v := .bool true) rfl rfl (by kernel_rfl) (by kernel_rfl) (by kernel_rfl) (fun _ _ _ h => h) (Or.inl ⟨by rfl, ?hy102⟩) hHeld ?rest102
  case hy102 =>
    intro wS hS
    go_simp
  (try simp only [Act.put, List.setIfInBounds_toArray, List.set_cons_zero, List.set_cons_succ])
  refine wpAnyH_takeD (i := 3) (d := some 25) (v := ?v103) rfl rfl (by kernel_rfl) (by kernel_rfl) (by kernel_rfl) (fun _ _ _ h => h) (Or.inl ⟨by rfl, ?hy103⟩) hHeld ?rest103
  case hy103 =>
    intro wS hS
    go_simp
    all_goals with_reducible rfl
  (try simp only [Act.put, List.setIfInBounds_toArray, List.set_cons_zero, List.set_cons_succ])
  refine wpAnyH_takeD (i := 4) (d := some 26) (v := .agg #[.int .i64 ik, .int .i64 ich, .int .i64 ibi, .int .i64 ira, .int .i64 ibl, .int .i64 ish, .slice At l.length ct, .slice Ak L.length ck, .int .i64 tc, .int .u32 ts, .slice Ax tp.length cx]) rfl rfl (by kernel_rfl) (by kernel_rfl) (by kernel_rfl) (fun _ _ _ h => h) (Or.inl ⟨by rfl, ?hy104⟩) hHeld ?rest104
  case hy104 =>
    intro wS hS
    exact run_load_rowop 35 (.tmp 3) rfl g3 (by rfl) #[.int .i64 ik, .int .i64 ich, .int .i64 ibi, .int .i64 ira, .int .i64 ibl, .int .i64 ish, .slice At l.length ct, .slice Ak L.length ck, .int .i64 tc, .int .u32 ts, .slice Ax tp.length cx] _ (0, 0) ((hS.block g3 (Array.getElem?_eq_some_iff.1 HGA.out).1).trans HGA.out) _ Tryz.underlying35 rfl (by kernel_rfl)
  (try simp only [Act.put, List.setIfInBounds_toArray, List.set_cons_zero, List.set_cons_succ])
  refine wpAnyH_takeD (i := 6) (d := some 28) (v := .agg #[.int .i64 ik, .int .i64 ich, .int .i64 ibi, .int .i64 ira, .int .i64 ibl, .int .i64 ish, .slice At2 l.length ct2, .slice Ak2 L2.length ck2, .int .i64 tc, .int .u32 ts, .slice Ax2 tp.length cx2]) rfl rfl (by kernel_rfl) (by kernel_rfl) (by kernel_rfl) (fun _ _ _ h => h) (Or.inl ⟨by rfl, ?hy105⟩) hHeld ?rest105
  case hy105 =>
    intro wS hS
    exact run_load_rowop 43 (.tmp 5) rfl g5 (by rfl) #[.int .i64 ik, .int .i64 ich, .int .i64 ibi, .int .i64 ira, .int .i64 ibl, .int .i64 ish, .slice At2 l.length ct2, .slice Ak2 L2.length ck2, .int .i64 tc, .int .u32 ts, .slice Ax2 tp.length cx2] _ (0, 0) ((hS.block g5 (Array.getElem?_eq_some_iff.1 HGB.out).1).trans HGB.out) _ Tryz.underlying43 rfl (by kernel_rfl)
  (try simp only [Act.put, List.setIfInBounds_toArray, List.set_cons_zero, List.set_cons_succ])
  refine wpAnyH_ready (rs := [5]) (by kernel_rfl) (by simp) (AllReadyH.cons rfl (fun K hK => ?_) AllReadyH.nil)
  rw [if_pos (by rfl)]
  go_simp
  refine (HBK.out w6 hb6).mono ?_
  rintro e w7 ⟨Aq, cq, rfl, hq, hql, hqm, hb7⟩
  have hb57 := hb6.trans (hb7.mono hb6.size)
  clear hb6 hb7 HBK
  go_wp2_with fail
  refine hK.out _ _ hb57 (fun hHeld => ?_)
  clear hK K
  (try simp only [Act.put, List.setIfInBounds_toArray, List.set_cons_zero, List.set_cons_succ])
  refine wpAnyH_ready (rs := [7]) (by kernel_rfl) (by simp) (AllReadyH.cons rfl (fun K hK => ?_) AllReadyH.nil)
  rw [if_pos (by rfl)]
  go_simp
  refine (HSM.out w7 hb57 Aq cq hq).mono ?_
  rintro e w8 ⟨rfl, hb8⟩
  have hb58 := hb57.trans (hb8.mono hb57.size)
  clear hb57 hb8 HSM hq
  go_wp2_with fail
  refine hK.out _ _ hb58 (fun hHeld => ?_)
  clear hK K
  (try simp only [Act.put, List.setIfInBounds_toArray, List.set_cons_zero, List.set_cons_succ])
  refine wpAnyH_takeD (i := 8) (d := some 30) (v := ?v106) rfl rfl (by kernel_rfl) (by kernel_rfl) (by kernel_rfl) (fun _ _ _ h => h) (Or.inl ⟨by rfl, ?hy106⟩) hHeld ?rest106
  case hy106 =>
    intro wS hS
    go_simp
    all_goals with_reducible rfl
  (try simp only [Act.put, List.setIfInBounds_toArray, List.set_cons_zero, List.set_cons_succ])
  refine wpAnyH_takeD (i := 9) (d := some 31) (v := ?v107) rfl rfl (by kernel_rfl) (by kernel_rfl) (by kernel_rfl) (fun _ _ _ h => h) (Or.inl ⟨by rfl, ?hy107⟩) hHeld ?rest107
  case hy107 =>
    intro wS hS
    go_simp
    all_goals with_reducible rfl
  (try simp only [Act.put, List.setIfInBounds_toArray, List.set_cons_zero, List.set_cons_succ])
  refine wpAnyH_takeD (i := 10) (d := some 32) (v := .agg #[.int .i64 ik, .int .i64 ich, .int .i64 ibi, .int .i64 ira, .int .i64 ibl, .int .i64 ish, .slice At l.length ct, .slice Ak L.length ck, .int .i64 tc, .int .u32 ts, .slice Ax tp.length cx]) rfl rfl (by kernel_rfl) (by kernel_rfl) (by kernel_rfl) (fun _ _ _ h => h) (Or.inl ⟨by rfl, ?hy108⟩) hHeld ?rest108
  case hy108 =>
    intro wS hS
    exact run_load_rowop 35 (.tmp 3) rfl g3 (by rfl) #[.int .i64 ik, .int .i64 ich, .int .i64 ibi, .int .i64 ira, .int .i64 ibl, .int .i64 ish, .slice At l.length ct, .slice Ak L.length ck, .int .i64 tc, .int .u32 ts, .slice Ax tp.length cx] _ (0, 0) ((hS.block g3 (Array.getElem?_eq_some_iff.1 HGA.out).1).trans HGA.out) _ Tryz.underlying35 rfl (by kernel_rfl)
  (try simp only [Act.put, List.setIfInBounds_toArray, List.set_cons_zero, List.set_cons_succ])
  refine wpAnyH_takeD (i := 12) (d := some 34) (v := ?v109) rfl rfl (by kernel_rfl) (by kernel_rfl) (by kernel_rfl) (fun _ _ _ h => h) (Or.inl ⟨by rfl, ?hy109⟩) hHeld ?rest109
  case hy109 =>
    intro wS hS
    go_simp
    all_goals with_reducible rfl
  (try simp only [Act.put, List.setIfInBounds_toArray, List.set_cons_zero, List.set_cons_succ])
  refine wpAnyH_takeD (i := 13) (d := some 35) (v := ?v110) rfl rfl (by kernel_rfl) (by kernel_rfl) (by kernel_rfl) (fun _ _ _ h => h) (Or.inl ⟨by rfl, ?hy110⟩) hHeld ?rest110
  case hy110 =>
    intro wS hS
    go_simp
    all_goals with_reducible rfl
  (try simp only [Act.put, List.setIfInBounds_toArray, List.set_cons_zero, List.set_cons_succ])
  refine wpAnyH_takeD (i := 14) (d := some 36) (v := ?v111) rfl rfl (by kernel_rfl) (by kernel_rfl) (by kernel_rfl) (fun _ _ _ h => h) (Or.inl ⟨by rfl, ?hy111⟩) hHeld ?rest111
  case hy111 =>
    intro wS hS
    have k8 := keep1 hS e8
    go_simp
    all_goals with_reducible rfl
  (try simp only [Act.put, List.setIfInBounds_toArray, List.set_cons_zero, List.set_cons_succ])
  refine wpAnyH_ready (rs := [11]) (by kernel_rfl) (by simp) (AllReadyH.cons rfl (fun K hK => ?_) AllReadyH.nil)
  rw [if_pos (by rfl)]
  go_simp
  refine (HCT.out w8 hb58).mono ?_
  rintro e w9 ⟨rfl, hb9⟩
  have hb59 := hb58.trans (hb9.mono hb58.size)
  clear hb58 hb9 HCT
  go_wp2_with fail
  refine hK.out _ _ hb59 (fun hHeld => ?_)
  clear hK K
  (try simp only [Act.put, List.setIfInBounds_toArray, List.set_cons_zero, List.set_cons_succ])
  refine wpAnyH_takeD (i := 15) (d := some 37) (v := .bool true) rfl rfl (by kernel_rfl) (by kernel_rfl) (by kernel_rfl) (fun _ _ _ h => h) (Or.inl ⟨by rfl, ?hy112⟩) hHeld ?rest112
  case hy112 =>
    intro wS hS
    go_simp
  (try simp only [Act.put, List.setIfInBounds_toArray, List.set_cons_zero, List.set_cons_succ])
  refine wpAnyH_takeD (i := 16) (d := some 38) (v := ?v113) rfl rfl (by kernel_rfl) (by kernel_rfl) (by kernel_rfl) (fun _ _ _ h => h) (Or.inl ⟨by rfl, ?hy113⟩) hHeld ?rest113
  case hy113 =>
    intro wS hS
    go_simp
    all_goals with_reducible rfl
  (try simp only [Act.put, List.setIfInBounds_toArray, List.set_cons_zero, List.set_cons_succ])
  refine wpAnyH_takeD (i := 17) (d := some 39) (v := ?v114) rfl rfl (by kernel_rfl) (by kernel_rfl) (by kernel_rfl) (fun _ _ _ h => h) (Or.inl ⟨by rfl, ?hy114⟩) hHeld ?rest114
  case hy114 =>
    intro wS hS
    go_simp
    all_goals with_reducible rfl
  (try simp only [Act.put, List.setIfInBounds_toArray, List.set_cons_zero, List.set_cons_succ])
  refine wpAnyH_ready (rs := [18]) (by kernel_rfl) (by simp) (AllReadyH.cons rfl (fun K hK => ?_) AllReadyH.nil)
  rw [if_pos (by rfl)]
  go_simp
  refine (HKN.out w9).mono ?_
  rintro e w10 ⟨rfl, hb10⟩
  have hb510 := hb59.trans (hb10.mono hb59.size)
  clear hb59 hb10
  go_wp2_with fail
  refine hK.out _ _ hb510 (fun hHeld => ?_)
  clear hK K
  (try simp only [Act.put, List.setIfInBounds_toArray, List.set_cons_zero, List.set_cons_succ])
  refine wpAnyH_takeD (i := 19) (d := some 41) (v := ?v115) rfl rfl (by kernel_rfl) (by kernel_rfl) (by kernel_rfl) (fun _ _ _ h => h) (Or.inl ⟨by rfl, ?hy115⟩) hHeld ?rest115
  case hy115 =>
    intro wS hS
    go_simp
    all_goals with_reducible rfl
  (try simp only [Act.put, List.setIfInBounds_toArray, List.set_cons_zero, List.set_cons_succ])
  refine wpAnyH_takeD (i := 20) (d := some 2) (v := ?v116) rfl rfl (by kernel_rfl) (by kernel_rfl) (by kernel_rfl) (fun _ _ _ h => h) (Or.inl ⟨by rfl, ?hy116⟩) hHeld ?rest116
  case hy116 =>
    intro wS hS
    go_simp
    all_goals with_reducible rfl
  (try simp only [Act.put, List.setIfInBounds_toArray, List.set_cons_zero, List.set_cons_succ])
  refine wpAnyH_done (by kernel_rfl) ?_ _
  clear hHeld
  go_wp2_with fail
  go_ret
  exact ⟨rfl, hb15.trans (hb510.mono hb15.size)⟩
end fileParses
end Go.Proofs.YtkmhmehofipehaaGreatDoor
/- What the rows lay of utf8's two tables: layer 29. -/
namespace Go.Proofs.YtkmhmehofipehaaGreatDoor
set_option linter.unusedVariables false
open Go.RowKit Go.Shelf Go.Lib Go.Proofs
set_option maxRecDepth 100000 in
theorem tabs_of {w : World} (h : laidMetH Tryz.prog Rows.fileParsesRow.laid w) : Tabs w := by
  rw [MakeChecks.laidMetH_plain _ _ _ (by kernel_rfl)] at h
  have e1 : Rows.laid_unicode_utf8_first = firstData := by kernel_rfl
  have e2 : (Rows.laid_unicode_utf8_acceptRanges : DataW Unit) = acceptData := by kernel_rfl
  have h4 := Lib.laidMet.reads h (.head _)
  have h3 := Lib.laidMet.reads h (.tail _ (.head _))
  rw [e1] at h3
  rw [e2] at h4
  exact utf8Tabs_of_readsT (U8Types.of196 laysValid) extra h3 h4
end Go.Proofs.YtkmhmehofipehaaGreatDoor
