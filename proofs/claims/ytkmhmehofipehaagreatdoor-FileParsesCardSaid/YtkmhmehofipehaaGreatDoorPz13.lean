/- A block opened: where its payload lies. -/
import Derived.Test.YtkmhmehofipehaaGreatDoorPz7
import Derived.Test.YtkmhmehofipehaaGreatDoorPz9
import Derived.Test.YtkmhmehofipehaaGreatDoorPz3
import Derived.Test.YtkmhmehofipehaaGreatDoorPz2
import Derived.Test.YtkmhmehofipehaaGreatDoorPz10
import Derived.Test.YtkmhmehofipehaaGreatDoorPz4
import Derived.Test.YtkmhmehofipehaaGreatDoorPz12
import Derived.Test.YtkmhmehofipehaaGreatDoorPz11
import Derived.Deep.MidRow
import Derived.Laws.CopyRow
namespace Go.Proofs.YtkmhmehofipehaaGreatDoor
set_option linter.unusedVariables false
open Go.RowKit
def OpenPostF (w : World) (r : Int × HeadV × List UInt8 × Int) (e : Ending) (w' : World) : Prop :=
  ∃ (A : Option Addr) (c : Nat), e = .returned (.tuple #[.agg r.2.1.cells, .slice A r.2.2.1.length c, .int .u32 r.2.2.2, .int .i64 r.1]) ∧ SeesB w' A r.2.2.1 ∧ r.2.2.1.length ≤ c ∧ c ≤ maxLen ∧ Below w.heap.size w w' ∧ ∀ a, A = some a → w.heap.size ≤ a.block
set_option maxHeartbeats 2000000 in
theorem hopenF_err (t : Nat) (A : Option Addr) (c : Nat) (l : List UInt8) (w : World) (ht : Tab w t) (hl : SeesB w A l) (hc : l.length ≤ c) (hcm : c ≤ maxLen) (hlen : l.length ≤ 140737488355328) (he : (getH l).1 ≠ 0) :
    Calls Tryz.prog 30 #[.pointer (some ⟨t, 0, none⟩), .slice A l.length c] w (OpenPostF w ((getH l).1, HeadV.zero, [], 0)) := by
  have HG := hid (fun W (ht : Tab W t) (hl : SeesB W A l) => hget_any t A c l W ht hl hc hcm hlen)
  have d1 : ((getH l).1 != 0) = true := by simpa using he
  generalize getH l = r at *
  obtain ⟨er, k, idx, len, stp, bnd, lst, lnk, siz⟩ := r
  unfold GetHPost HeadV.cells at HG
  simp only at HG d1
  clear he
  have hb : Below w.heap.size w (w.alloc (.cells #[.int .i64 0, .int .i64 0, .int .i64 0, .int .i64 0, .int .i64 0, .bool false, .int .u32 0, .int .i64 0] 67)) := (Below.refl _ w).alloc (Nat.le_refl _) _
  have hrow := heap_alloc_new w (.cells #[.int .i64 0, .int .i64 0, .int .i64 0, .int .i64 0, .int .i64 0, .bool false, .int .u32 0, .int .i64 0] 67)
  go_enter Tryz.func30, Tryz.ntmps30
  go_wp2_with fail
  generalize w.alloc (.cells #[.int .i64 0, .int .i64 0, .int .i64 0, .int .i64 0, .int .i64 0, .bool false, .int .u32 0, .int .i64 0] 67) = w0 at *
  have hlt0 : w.heap.size < w0.heap.size := (Array.getElem?_eq_some_iff.1 hrow).1
  refine (HG.out w0 (ht.keep hb ht.lt) (hl.below hb)).mono ?_
  rintro e w1 ⟨rfl, hb1⟩
  have hbw1 := hb.trans (hb1.mono hb.size)
  have hrow1 := (hb1.block w.heap.size hlt0).trans hrow
  have hlt1 := Nat.lt_of_lt_of_le hlt0 hb1.size
  have hb2 : Below w1.heap.size w1 (w1.alloc (.cells #[.int .i64 k, .int .i64 idx, .int .i64 len, .int .i64 stp, .int .i64 bnd, .bool lst, .int .u32 lnk, .int .i64 siz] 67)) := (Below.refl _ _).alloc (Nat.le_refl _) _
  have hr2 := heap_alloc_new w1 (.cells #[.int .i64 k, .int .i64 idx, .int .i64 len, .int .i64 stp, .int .i64 bnd, .bool lst, .int .u32 lnk, .int .i64 siz] 67)
  have hbw2 := hbw1.trans (hb2.mono hbw1.size)
  have hrow2 := (hb2.block w.heap.size hlt1).trans hrow1
  have hlt1w := hlt1
  clear hb hrow hb1 hbw1 hrow1 hb2 hlt1 HG
  go_wp2_with first | (refine wpList_store_row rfl 67 (.tmp 4) (.tmp 20) rfl rfl w.heap.size rfl #[.int .i64 0, .int .i64 0, .int .i64 0, .int .i64 0, .int .i64 0, .bool false, .int .u32 0, .int .i64 0] rfl 67 #[.int .i64 0, .int .i64 0, .int .i64 0, .int .i64 0, .int .i64 0, .bool false, .int .u32 0, .int .i64 0] hrow2 (by kernel_rfl) rfl (by simp [Value.oneCell']) ?_)
  exact bodyPost_ret (v := .tuple #[.agg #[.int .i64 0, .int .i64 0, .int .i64 0, .int .i64 0, .int .i64 0, .bool false, .int .u32 0, .int .i64 0], .slice none 0 0, .int .u32 0, .int .i64 er]) (results_row_tmp3 (fn := Tryz.f30) (p := 4) (u := 5) (x := 6) (y := 7) (ty := 67) rfl _ _ w.heap.size _ _ _ _ rfl (setRow_heap _ _ _ _ _ _ hrow2) Tryz.underlying67 rfl (by kernel_rfl)) rfl ⟨none, 0, rfl, Sees.nil _ _, Nat.le_refl _, Nat.zero_le _, below_setRow hbw2 (Nat.le_refl _) _, fun a ha => by cases ha⟩
set_option maxRecDepth 40000 in
set_option maxHeartbeats 8000000 in
theorem hopenF_ok (t : Nat) (A : Option Addr) (c : Nat) (l : List UInt8) (w : World) (ht : Tab w t) (hl : SeesB w A l) (hc : l.length ≤ c) (hcm : c ≤ maxLen) (hlen : l.length ≤ 140737488355328) (he : (getH l).1 = 0) :
    Calls Tryz.prog 30 #[.pointer (some ⟨t, 0, none⟩), .slice A l.length c] w (OpenPostF w (openH l)) := by
  obtain ⟨_, h32, _, _, hsd⟩ := getH_ok he
  obtain ⟨R, hR⟩ : ∃ R, R = openH l := ⟨_, rfl⟩
  rw [← hR]
  have hgl : getH l = (0, saidH l) := Prod.ext he hsd
  have hR2 : R = if l.length < 36 + fldH l 24 4 then (10, HeadV.zero, [], 0) else if sumI (l.take (32 + fldH l 24 4)) ≠ (fldH l (32 + fldH l 24 4) 4 : Int) then (33, HeadV.zero, [], 0) else (0, saidH l, (l.drop 32).take (fldH l 24 4), sumI (l.take (32 + fldH l 24 4))) := by
    rw [hR]; unfold openH; rw [if_neg (by simpa using he), hsd]
  have HR := hid hR2
  obtain ⟨a, rfl, _⟩ := hl.at (show 0 < l.length by omega)
  have HG := hid (fun W (ht : Tab W t) (hl : SeesB W (some a) l) => hget_any t (some a) c l W ht hl hc hcm hlen)
  rw [hgl] at HG
  unfold GetHPost saidH HeadV.cells at HG
  unfold saidH at HR
  simp only at HG
  have hn : fldH l 24 4 < 4294967296 := fldH_lt l 24 4
  generalize fldH l 24 4 = n at *
  generalize ((fldH l 2 1 : Nat) : Int) = k at *
  generalize ((fldH l 4 4 : Nat) : Int) = idx at *
  generalize ((fldH l 8 4 : Nat) : Int) = len at *
  generalize ((fldH l 12 4 : Nat) : Int) = stp at *
  generalize ((fldH l 16 4 : Nat) : Int) = bnd at *
  generalize (fldH l 3 1 == 1) = lst at *
  generalize ((fldH l 20 4 : Nat) : Int) = lnk at *
  clear hR hR2 hgl hsd he
  by_cases hlong : l.length < 36 + n
  · have d2 : decide ((l.length : Int) < 32 + (n : Int) + 4) = true := decide_eq_true (by omega)
    obtain rfl : R = (10, HeadV.zero, [], 0) := by rw [HR.out, if_pos hlong]
    clear hlong HR
    have hb : Below w.heap.size w (w.alloc (.cells #[.int .i64 0, .int .i64 0, .int .i64 0, .int .i64 0, .int .i64 0, .bool false, .int .u32 0, .int .i64 0] 67)) := (Below.refl _ w).alloc (Nat.le_refl _) _
    have hrow := heap_alloc_new w (.cells #[.int .i64 0, .int .i64 0, .int .i64 0, .int .i64 0, .int .i64 0, .bool false, .int .u32 0, .int .i64 0] 67)
    go_enter Tryz.func30, Tryz.ntmps30
    go_wp2_with fail
    generalize w.alloc (.cells #[.int .i64 0, .int .i64 0, .int .i64 0, .int .i64 0, .int .i64 0, .bool false, .int .u32 0, .int .i64 0] 67) = w0 at *
    have hlt0 : w.heap.size < w0.heap.size := (Array.getElem?_eq_some_iff.1 hrow).1
    refine (HG.out w0 (ht.keep hb ht.lt) (hl.below hb)).mono ?_
    rintro e w1 ⟨rfl, hb1⟩
    have hbw1 := hb.trans (hb1.mono hb.size)
    have hrow1 := (hb1.block w.heap.size hlt0).trans hrow
    have hlt1 := Nat.lt_of_lt_of_le hlt0 hb1.size
    have hb2 : Below w1.heap.size w1 (w1.alloc (.cells #[.int .i64 k, .int .i64 idx, .int .i64 len, .int .i64 stp, .int .i64 bnd, .bool lst, .int .u32 lnk, .int .i64 (n : Nat)] 67)) := (Below.refl _ _).alloc (Nat.le_refl _) _
    have hr2 := heap_alloc_new w1 (.cells #[.int .i64 k, .int .i64 idx, .int .i64 len, .int .i64 stp, .int .i64 bnd, .bool lst, .int .u32 lnk, .int .i64 (n : Nat)] 67)
    have hbw2 := hbw1.trans (hb2.mono hbw1.size)
    have hrow2 := (hb2.block w.heap.size hlt1).trans hrow1
    have hlt1w := hlt1
    clear hb hrow hb1 hbw1 hrow1 hb2 hlt1 HG
    have k7 : (w1.alloc (.cells #[.int .i64 k, .int .i64 idx, .int .i64 len, .int .i64 stp, .int .i64 bnd, .bool lst, .int .u32 lnk, .int .i64 (n : Nat)] 67)).cell? ⟨w1.heap.size, 7, none⟩ = some (.int .i64 (n : Nat)) := by rw [cell_of_row _ _ _ _ _ _ hr2]; rfl
    go_wp2_with first | (refine wpList_store_row rfl 67 (.tmp 4) (.tmp 30) rfl rfl w.heap.size rfl #[.int .i64 0, .int .i64 0, .int .i64 0, .int .i64 0, .int .i64 0, .bool false, .int .u32 0, .int .i64 0] rfl 67 #[.int .i64 0, .int .i64 0, .int .i64 0, .int .i64 0, .int .i64 0, .bool false, .int .u32 0, .int .i64 0] hrow2 (by kernel_rfl) rfl (by simp [Value.oneCell']) ?_)
    exact bodyPost_ret (v := .tuple #[.agg #[.int .i64 0, .int .i64 0, .int .i64 0, .int .i64 0, .int .i64 0, .bool false, .int .u32 0, .int .i64 0], .slice none 0 0, .int .u32 0, .int .i64 10]) (results_row_tmp3 (fn := Tryz.f30) (p := 4) (u := 5) (x := 6) (y := 7) (ty := 67) rfl _ _ w.heap.size _ _ _ _ rfl (setRow_heap _ _ _ _ _ _ hrow2) Tryz.underlying67 rfl (by kernel_rfl)) rfl ⟨none, 0, rfl, Sees.nil _ _, Nat.le_refl _, Nat.zero_le _, below_setRow hbw2 (Nat.le_refl _) _, fun a ha => by cases ha⟩
  have d2 : decide ((l.length : Int) < 32 + (n : Int) + 4) = false := decide_eq_false (by omega)
  have hst : (l.take (32 + n)).length = 32 + n := by rw [List.length_take]; omega
  have hsr := sumI_range (l.take (32 + n))
  obtain ⟨S, hS⟩ := Int.eq_ofNat_of_zero_le hsr.1
  have hsum := fun W (ht : Tab W t) (hl : SeesB W (some a) (l.take (32 + n))) => sum_any t (some a) c (l.take (32 + n)) W ht hl (by omega)
  rw [hst, hS] at hsum
  rw [hS] at hsr
  have hS4 : S < 4294967296 := by omega
  have hdl : (l.drop (32 + n)).length = l.length - (32 + n) := by simp
  have htk := fun W (h : SeesB W (some (a.add (32 + n))) (l.drop (32 + n))) => take_any (some (a.add (32 + n))) (c - (32 + n)) (l.drop (32 + n)) W h (by omega)
  rw [hdl] at htk
  have hu := fun g W (hT : Tk W g 0 0 (l.drop (32 + n))) => takerU_any g 0 0 4 (l.drop (32 + n)) W hT (by omega)
  rw [show takeU (0, 0) (l.drop (32 + n)) 4 = ((0, 4), ((l.drop (32 + n)).drop 0).take 4) from takeU_at 0 4 (l.drop (32 + n)) (by omega) (by omega)] at hu
  unfold UPost at hu
  rw [show valLE (((l.drop (32 + n)).drop 0).take 4) = fldH l (32 + n) 4 from rfl] at hu
  have v5 : fldH l (32 + n) 4 < 4294967296 := fldH_lt l (32 + n) 4
  obtain ⟨p, hp⟩ : ∃ p, p = (l.drop 32).take n := ⟨_, rfl⟩
  have hpl : p.length = n := by rw [hp]; simp; omega
  have hmid : Hid (S ≠ fldH l (32 + n) 4 → R = (33, HeadV.zero, [], 0)) := hid (fun h => by rw [HR.out, if_neg hlong, if_pos (by rw [hS]; omega)])
  have hmid2 : Hid (S = fldH l (32 + n) 4 → R = (0, ⟨k, idx, len, stp, bnd, lst, lnk, n⟩, p, (S : Int))) := hid (fun h => by rw [HR.out, if_neg hlong, if_neg (by rw [hS, h]; simp), hS, hp])
  have htr := fun W (h : SeesB W (some { block := a.block, off := a.off + 32 }) p) => take_any (some { block := a.block, off := a.off + 32 }) (c - 32) p W h (by omega)
  rw [hpl] at htr
  have hra := fun g W (hT : Tk W g 0 0 p) => traw_any g 0 0 (n : Nat) p W hT (by omega) (by omega)
  rw [show takeRaw (0, 0) p (n : Nat) = ((0, n), p) by
    unfold takeRaw tnext
    rw [if_neg (by simp), if_neg (by omega), Int.toNat_natCast, if_neg (by omega), List.drop_zero, ← hpl, List.take_length, Nat.zero_add]] at hra
  generalize fldH l (32 + n) 4 = su at *
  have HSUM := hid hsum
  have HTK := hid htk
  have HU := hid hu
  have HTR := hid htr
  have HRA := hid hra
  have HPL := hid hpl
  have g1 : (32 : Int) + n ≤ c := by omega
  have g2 : ¬ c = 32 + n := by omega
  have g3 : (32 : Int) + n ≤ l.length := by omega
  have g4 : (l.length : Int) ≤ c := by omega
  have g5 : ¬ c = 32 := by omega
  have g6 : (0 : Int) ≤ 32 + n := by omega
  have g7 : (32 : Int) ≤ 32 + n := by omega
  clear hu hsum hS hsr hst hdl htk HR hra htr hpl hlong
  have hb : Below w.heap.size w (w.alloc (.cells #[.int .i64 0, .int .i64 0, .int .i64 0, .int .i64 0, .int .i64 0, .bool false, .int .u32 0, .int .i64 0] 67)) := (Below.refl _ w).alloc (Nat.le_refl _) _
  have hrow := heap_alloc_new w (.cells #[.int .i64 0, .int .i64 0, .int .i64 0, .int .i64 0, .int .i64 0, .bool false, .int .u32 0, .int .i64 0] 67)
  go_enter Tryz.func30, Tryz.ntmps30
  go_wp2_with fail
  generalize w.alloc (.cells #[.int .i64 0, .int .i64 0, .int .i64 0, .int .i64 0, .int .i64 0, .bool false, .int .u32 0, .int .i64 0] 67) = w0 at *
  have hlt0 : w.heap.size < w0.heap.size := (Array.getElem?_eq_some_iff.1 hrow).1
  refine (HG.out w0 (ht.keep hb ht.lt) (hl.below hb)).mono ?_
  rintro e w1 ⟨rfl, hb1⟩
  have hbw1 := hb.trans (hb1.mono hb.size)
  have hrow1 := (hb1.block w.heap.size hlt0).trans hrow
  have hlt1 := Nat.lt_of_lt_of_le hlt0 hb1.size
  have hb2 : Below w1.heap.size w1 (w1.alloc (.cells #[.int .i64 k, .int .i64 idx, .int .i64 len, .int .i64 stp, .int .i64 bnd, .bool lst, .int .u32 lnk, .int .i64 (n : Nat)] 67)) := (Below.refl _ _).alloc (Nat.le_refl _) _
  have hr2 := heap_alloc_new w1 (.cells #[.int .i64 k, .int .i64 idx, .int .i64 len, .int .i64 stp, .int .i64 bnd, .bool lst, .int .u32 lnk, .int .i64 (n : Nat)] 67)
  have hbw2 := hbw1.trans (hb2.mono hbw1.size)
  have hrow2 := (hb2.block w.heap.size hlt1).trans hrow1
  have hlt1w := hlt1
  clear hb hrow hb1 hbw1 hrow1 hb2 hlt1 HG
  have k7 : (w1.alloc (.cells #[.int .i64 k, .int .i64 idx, .int .i64 len, .int .i64 stp, .int .i64 bnd, .bool lst, .int .u32 lnk, .int .i64 (n : Nat)] 67)).cell? ⟨w1.heap.size, 7, none⟩ = some (.int .i64 (n : Nat)) := by rw [cell_of_row _ _ _ _ _ _ hr2]; rfl
  have hlt2 : w.heap.size < (w1.alloc (.cells #[.int .i64 k, .int .i64 idx, .int .i64 len, .int .i64 stp, .int .i64 bnd, .bool lst, .int .u32 lnk, .int .i64 (n : Nat)] 67)).heap.size := (Array.getElem?_eq_some_iff.1 hrow2).1
  have hlw := hl.below hbw2
  have htw := ht.keep hbw2 ht.lt
  have hls : SeesB (w1.alloc (.cells #[.int .i64 k, .int .i64 idx, .int .i64 len, .int .i64 stp, .int .i64 bnd, .bool lst, .int .u32 lnk, .int .i64 (n : Nat)] 67)) (some a) (l.take (32 + n)) := by unfold SeesB; rw [List.map_take]; exact Sees.take hlw (32 + n)
  have hld : SeesB (w1.alloc (.cells #[.int .i64 k, .int .i64 idx, .int .i64 len, .int .i64 stp, .int .i64 bnd, .bool lst, .int .u32 lnk, .int .i64 (n : Nat)] 67)) (some (a.add (32 + n))) (l.drop (32 + n)) := by have := hlw.cutTo (32 + n) (l.length - (32 + n)); rwa [List.take_of_length_le (by simp)] at this
  go_wp2_with fail
  generalize w1.alloc (.cells #[.int .i64 k, .int .i64 idx, .int .i64 len, .int .i64 stp, .int .i64 bnd, .bool lst, .int .u32 lnk, .int .i64 (n : Nat)] 67) = w2 at *
  refine (HSUM.out _ htw hls).mono ?_
  rintro e w3 ⟨rfl, rfl⟩
  go_wp2_with fail
  have hlt1 : w1.heap.size < w2.heap.size := (Array.getElem?_eq_some_iff.1 hr2).1
  refine (HTK.out _ hld).mono ?_
  rintro e w3 ⟨g, rfl, hg, hT3, hb3⟩
  have hbw3 := hbw2.trans (hb3.mono hbw2.size)
  have hrow3 := (hb3.block w.heap.size hlt2).trans hrow2
  have hr3 := (hb3.block w1.heap.size hlt1).trans hr2
  have hlt3 := Nat.lt_of_lt_of_le hlt2 hb3.size
  have hlt13 := Nat.lt_of_lt_of_le hlt1 hb3.size
  clear hb3 hbw2 hrow2 hr2 k7 hld hls htw hlw HTK HSUM
  go_wp2_with fail
  refine (HU.out g _ hT3).mono ?_
  rintro e w4 ⟨rfl, hT4, hB4⟩
  have hbw4 := But.below hbw3 hB4 (fun b h => by have h2 : b = g := h; omega) hbw3.size
  have hrow4 := (hB4.block w.heap.size hlt3 (fun h => by have h2 : w.heap.size = g := h; omega)).trans hrow3
  have hr4 := (hB4.block w1.heap.size hlt13 (fun h => by have h2 : w1.heap.size = g := h; omega)).trans hr3
  have hlt4 := Nat.lt_of_lt_of_le hlt3 hB4.size
  have hlt14 := Nat.lt_of_lt_of_le hlt13 hB4.size
  clear hT3 hB4 hT4 hbw3 hrow3 hr3 HU hlt3 hlt13 hg
  by_cases heq : S = su
  · have dd : ((S : Int) != (su : Int)) = false := by rw [heq]; simp
    obtain rfl := hmid2.out heq
    have hl4 := hl.below hbw4
    have hlp : SeesB w4.drew (some { block := a.block, off := a.off + 32 }) p := by rw [hp]; exact hl4.cutTo 32 n
    have hr5 : w4.drew.heap[w1.heap.size]? = some (.cells #[.int .i64 k, .int .i64 idx, .int .i64 len, .int .i64 stp, .int .i64 bnd, .bool lst, .int .u32 lnk, .int .i64 (n : Nat)] 67 (0, 0)) := hr4
    have hrow5 : w4.drew.heap[w.heap.size]? = some (.cells #[.int .i64 0, .int .i64 0, .int .i64 0, .int .i64 0, .int .i64 0, .bool false, .int .u32 0, .int .i64 0] 67 (0, 0)) := hrow4
    have hbw5 : Below w.heap.size w w4.drew := hbw4.drew
    have hlt5 : w.heap.size < w4.drew.heap.size := hlt4
    have hlt15 : w1.heap.size < w4.drew.heap.size := hlt14
    have hw1 : w.heap.size ≤ w1.heap.size := Nat.le_of_lt hlt1w
    clear heq hmid hmid2 hp hl4 hl
    go_wp2_with fail
    refine wp_region_held_drew (S := fun w' => w'.heap[w1.heap.size]? = some (.cells #[.int .i64 k, .int .i64 idx, .int .i64 len, .int .i64 stp, .int .i64 bnd, .bool lst, .int .u32 lnk, .int .i64 (n : Nat)] 67 (0, 0))) (by kernel_rfl) hr5 (fun hHeld => ?_)
    refine wpAnyH_takeD (i := 0) (d := some 45) (v := (.agg #[.int .i64 k, .int .i64 idx, .int .i64 len, .int .i64 stp, .int .i64 bnd, .bool lst, .int .u32 lnk, .int .i64 (n : Nat)])) rfl rfl (by kernel_rfl) (by kernel_rfl) (by kernel_rfl) (fun _ _ _ h => h) (Or.inl ⟨by rfl, ?hy0⟩) hHeld ?rest0
    case hy0 =>
      intro wS hS
      exact run_load_rowop 67 (.tmp 8) rfl w1.heap.size (by rfl) #[.int .i64 k, .int .i64 idx, .int .i64 len, .int .i64 stp, .int .i64 bnd, .bool lst, .int .u32 lnk, .int .i64 (n : Nat)] _ _ hS _ Tryz.underlying67 rfl (by kernel_rfl)
    (try simp only [Act.put, List.setIfInBounds_toArray, List.set_cons_zero, List.set_cons_succ])
    refine wpAnyH_takeD (i := 1) (d := some 46) (v := ?v1) rfl rfl (by kernel_rfl) (by kernel_rfl) (by kernel_rfl) (fun _ _ _ h => h) (Or.inl ⟨by rfl, ?hy1⟩) hHeld ?rest1
    case hy1 =>
      intro wS hS
      go_simp
      all_goals with_reducible rfl
    (try simp only [Act.put, List.setIfInBounds_toArray, List.set_cons_zero, List.set_cons_succ])
    refine wpAnyH_takeD (i := 2) (d := some 47) (v := ?v2) rfl rfl (by kernel_rfl) (by kernel_rfl) (by kernel_rfl) (fun _ _ _ h => h) (Or.inl ⟨by rfl, ?hy2⟩) hHeld ?rest2
    case hy2 =>
      intro wS hS
      go_simp
      all_goals with_reducible rfl
    (try simp only [Act.put, List.setIfInBounds_toArray, List.set_cons_zero, List.set_cons_succ])
    refine wpAnyH_takeD (i := 3) (d := some 48) (v := ?v3) rfl rfl (by kernel_rfl) (by kernel_rfl) (by kernel_rfl) (fun _ _ _ h => h) (Or.inl ⟨by rfl, ?hy3⟩) hHeld ?rest3
    case hy3 =>
      intro wS hS
      go_simp
      all_goals with_reducible rfl
    (try simp only [Act.put, List.setIfInBounds_toArray, List.set_cons_zero, List.set_cons_succ])
    refine wpAnyH_takeD (i := 5) (d := some 50) (v := ?v5) rfl rfl (by kernel_rfl) (by kernel_rfl) (by kernel_rfl) (fun _ _ _ h => h) (Or.inl ⟨by rfl, ?hy5⟩) hHeld ?rest5
    case hy5 =>
      intro wS hS
      go_simp
      all_goals with_reducible rfl
    (try simp only [Act.put, List.setIfInBounds_toArray, List.set_cons_zero, List.set_cons_succ])
    refine wpAnyH_takeD (i := 6) (d := some 51) (v := ?v6) rfl rfl (by kernel_rfl) (by kernel_rfl) (by kernel_rfl) (fun _ _ _ h => h) (Or.inl ⟨by rfl, ?hy6⟩) hHeld ?rest6
    case hy6 =>
      intro wS hS
      have k7 : wS.cell? ⟨w1.heap.size, 7, none⟩ = some (.int .i64 (n : Nat)) := by rw [cell_of_row _ _ _ _ _ _ hS]; rfl
      go_simp
      all_goals with_reducible rfl
    (try simp only [Act.put, List.setIfInBounds_toArray, List.set_cons_zero, List.set_cons_succ])
    refine wpAnyH_takeD (i := 8) (d := some 53) (v := ?v8) rfl rfl (by kernel_rfl) (by kernel_rfl) (by kernel_rfl) (fun _ _ _ h => h) (Or.inl ⟨by rfl, ?hy8⟩) hHeld ?rest8
    case hy8 =>
      intro wS hS
      go_simp
      all_goals with_reducible rfl
    (try simp only [Act.put, List.setIfInBounds_toArray, List.set_cons_zero, List.set_cons_succ])
    refine wpAnyH_ready (rs := [4]) (by kernel_rfl) (by simp) (AllReadyH.cons rfl (fun K hK => ?_) AllReadyH.nil)
    rw [if_pos (by rfl)]
    go_simp
    rw [show (32 + (n : Int)).toNat - 32 = n by omega]
    refine (HTR.out _ hlp).mono ?_
    rintro e w6 ⟨g2, rfl, hg2, hT6, hb6⟩
    have hbw6 := hbw5.trans (hb6.mono hbw5.size)
    have hrow6 := (hb6.block w.heap.size hlt5).trans hrow5
    have hr6 := (hb6.block w1.heap.size hlt15).trans hr5
    have hlt6 := Nat.lt_of_lt_of_le hlt5 hb6.size
    have hlt16 := Nat.lt_of_lt_of_le hlt15 hb6.size
    go_wp2_with fail
    refine hK.out _ _ hr6 (fun hHeld => ?_)
    clear hK K
    (try simp only [Act.put, List.setIfInBounds_toArray, List.set_cons_zero, List.set_cons_succ])
    refine wpAnyH_ready (rs := [7]) (by kernel_rfl) (by simp) (AllReadyH.cons rfl (fun K hK => ?_) AllReadyH.nil)
    rw [if_pos (by rfl)]
    go_simp
    refine (HRA.out g2 _ hT6).mono ?_
    rintro e w7 ⟨A7, c7, rfl, hs7, hA7, hp7, hc7, hT7, hB7⟩
    have hbw7 := But.below hbw6 hB7 (fun b h => by have h2 : b = g2 := h; omega) hbw6.size
    have hrow7 := (hB7.block w.heap.size hlt6 (fun h => by have h2 : w.heap.size = g2 := h; omega)).trans hrow6
    have hr7 := (hB7.block w1.heap.size hlt16 (fun h => by have h2 : w1.heap.size = g2 := h; omega)).trans hr6
    have hs8 := hs7.setRowFar w.heap.size #[.int .i64 k, .int .i64 idx, .int .i64 len, .int .i64 stp, .int .i64 bnd, .bool lst, .int .u32 lnk, .int .i64 (n : Nat)] (fun a ha => by have := (hA7 a ha).1; omega)
    have hrow8 := setRow_heap w7 w.heap.size _ #[.int .i64 k, .int .i64 idx, .int .i64 len, .int .i64 stp, .int .i64 bnd, .bool lst, .int .u32 lnk, .int .i64 (n : Nat)] _ _ hrow7
    have hr8 := (setRow_other w7 w.heap.size w1.heap.size #[.int .i64 k, .int .i64 idx, .int .i64 len, .int .i64 stp, .int .i64 bnd, .bool lst, .int .u32 lnk, .int .i64 (n : Nat)] (by omega)).trans hr7
    have hbw8 := below_setRow hbw7 (Nat.le_refl _) #[.int .i64 k, .int .i64 idx, .int .i64 len, .int .i64 stp, .int .i64 bnd, .bool lst, .int .u32 lnk, .int .i64 (n : Nat)]
    simp only at hp7 hs7 hs8
    go_wp2_with fail
    refine hK.out _ _ hr7 (fun hHeld => ?_)
    clear hK K
    (try simp only [Act.put, List.setIfInBounds_toArray, List.set_cons_zero, List.set_cons_succ])
    refine wpAnyH_ready (rs := [9]) (by kernel_rfl) (by simp) (AllReadyH.cons rfl (fun K hK => ?_) AllReadyH.nil)
    rw [if_pos (by rfl)]
    refine wp_store_row 67 (.tmp 4) (.tmp 45) rfl rfl w.heap.size rfl #[.int .i64 k, .int .i64 idx, .int .i64 len, .int .i64 stp, .int .i64 bnd, .bool lst, .int .u32 lnk, .int .i64 (n : Nat)] rfl 67 #[.int .i64 0, .int .i64 0, .int .i64 0, .int .i64 0, .int .i64 0, .bool false, .int .u32 0, .int .i64 0] hrow7 (by kernel_rfl) rfl (by simp [Value.oneCell']) ?_
    refine hK.out _ _ hr8 (fun hHeld => ?_)
    clear hK K
    (try simp only [Act.put, List.setIfInBounds_toArray, List.set_cons_zero, List.set_cons_succ])
    refine wpAnyH_takeD (i := 10) (d := some 5) (v := ?v10) rfl rfl (by kernel_rfl) (by kernel_rfl) (by kernel_rfl) (fun _ _ _ h => h) (Or.inl ⟨by rfl, ?hy10⟩) hHeld ?rest10
    case hy10 =>
      intro wS hS
      go_simp
      all_goals with_reducible rfl
    (try simp only [Act.put, List.setIfInBounds_toArray, List.set_cons_zero, List.set_cons_succ])
    refine wpAnyH_takeD (i := 11) (d := some 6) (v := ?v11) rfl rfl (by kernel_rfl) (by kernel_rfl) (by kernel_rfl) (fun _ _ _ h => h) (Or.inl ⟨by rfl, ?hy11⟩) hHeld ?rest11
    case hy11 =>
      intro wS hS
      go_simp
      all_goals with_reducible rfl
    (try simp only [Act.put, List.setIfInBounds_toArray, List.set_cons_zero, List.set_cons_succ])
    refine wpAnyH_takeD (i := 12) (d := some 7) (v := ?v12) rfl rfl (by kernel_rfl) (by kernel_rfl) (by kernel_rfl) (fun _ _ _ h => h) (Or.inl ⟨by rfl, ?hy12⟩) hHeld ?rest12
    case hy12 =>
      intro wS hS
      go_simp
      all_goals with_reducible rfl
    (try simp only [Act.put, List.setIfInBounds_toArray, List.set_cons_zero, List.set_cons_succ])
    refine wpAnyH_done (by kernel_rfl) ?_ _
    go_wp2_with fail
    exact bodyPost_ret (v := .tuple #[.agg #[.int .i64 k, .int .i64 idx, .int .i64 len, .int .i64 stp, .int .i64 bnd, .bool lst, .int .u32 lnk, .int .i64 (n : Nat)], .slice A7 p.length c7, .int .u32 (S : Int), .int .i64 0]) (results_row_tmp3 (fn := Tryz.f30) (p := 4) (u := 5) (x := 6) (y := 7) (ty := 67) rfl _ _ w.heap.size _ _ _ _ rfl hrow8 Tryz.underlying67 rfl (by kernel_rfl)) rfl ⟨A7, c7, rfl, hs8, hp7, hc7, hbw8, fun a ha => by have := (hA7 a ha).1; omega⟩
  · have dd : ((S : Int) != (su : Int)) = true := by simp; omega
    obtain rfl := hmid.out heq
    clear heq hmid hmid2
    go_wp2_with first | (refine wpList_store_row rfl 67 (.tmp 4) (.tmp 44) rfl rfl w.heap.size rfl #[.int .i64 0, .int .i64 0, .int .i64 0, .int .i64 0, .int .i64 0, .bool false, .int .u32 0, .int .i64 0] rfl 67 #[.int .i64 0, .int .i64 0, .int .i64 0, .int .i64 0, .int .i64 0, .bool false, .int .u32 0, .int .i64 0] hrow4 (by kernel_rfl) rfl (by simp [Value.oneCell']) ?_)
    exact bodyPost_ret (v := .tuple #[.agg #[.int .i64 0, .int .i64 0, .int .i64 0, .int .i64 0, .int .i64 0, .bool false, .int .u32 0, .int .i64 0], .slice none 0 0, .int .u32 0, .int .i64 33]) (results_row_tmp3 (fn := Tryz.f30) (p := 4) (u := 5) (x := 6) (y := 7) (ty := 67) rfl _ _ w.heap.size _ _ _ _ rfl (setRow_heap _ _ _ _ _ _ hrow4) Tryz.underlying67 rfl (by kernel_rfl)) rfl ⟨none, 0, rfl, Sees.nil _ _, Nat.le_refl _, Nat.zero_le _, below_setRow hbw4 (Nat.le_refl _) _, fun a ha => by cases ha⟩
theorem hopenF_any (t : Nat) (A : Option Addr) (c : Nat) (l : List UInt8) (w : World) (hl : SeesB w A l) (hc : l.length ≤ c) (hcm : c ≤ maxLen) (hlen : l.length ≤ 140737488355328) (ht : Tab w t) :
    Calls Tryz.prog 30 #[.pointer (some ⟨t, 0, none⟩), .slice A l.length c] w (OpenPostF w (openH l)) := by
  by_cases he : (getH l).1 = 0
  · exact hopenF_ok t A c l w ht hl hc hcm hlen he
  · rw [show openH l = ((getH l).1, HeadV.zero, [], 0) by unfold openH; rw [if_pos he]]
    exact hopenF_err t A c l w ht hl hc hcm hlen he
end Go.Proofs.YtkmhmehofipehaaGreatDoor
/- The bytes of a head, plainly. -/
namespace Go.Proofs.YtkmhmehofipehaaGreatDoor
set_option linter.unusedVariables false
open Go.RowKit
end Go.Proofs.YtkmhmehofipehaaGreatDoor
/- What is sealed, opened; a block with a byte changed: in plain Lean. -/
namespace Go.Proofs.YtkmhmehofipehaaGreatDoor
set_option linter.unusedVariables false
open Go.RowKit
section
variable (K : Nat) (lst : Bool) (IX LE ST BN LK n s28 sA : Nat) (P M : List UInt8)
end
end Go.Proofs.YtkmhmehofipehaaGreatDoor
/- How the bytes of a tail begin; the fields of a tail, as bytes say them. -/
namespace Go.Proofs.YtkmhmehofipehaaGreatDoor
set_option linter.unusedVariables false
open Go.RowKit
/-- the number that stands at a place of bytes -/
def fldT (l : List UInt8) (p n : Nat) : Nat := valLE ((l.drop p).take n)
theorem fldT_lt (l : List UInt8) (p n : Nat) : fldT l p n < 256 ^ n := by
  have h1 := valLE_lt ((l.drop p).take n)
  have h2 : ((l.drop p).take n).length ≤ n := by simp; omega
  exact Nat.lt_of_lt_of_le h1 (Nat.pow_le_pow_right (by omega) h2)
theorem takeUt_at (p n : Nat) (T : List UInt8) (h : p + n ≤ T.length) (hn : 1 ≤ n ∧ n ≤ 8) : takeU (0, p) T (n : Int) = ((0, p + n), (T.drop p).take n) := by
  unfold takeU tnext
  rw [if_neg (by simp), if_neg (by omega), Int.toNat_natCast, if_neg (by omega)]
theorem takeU_end (p n : Nat) (T : List UInt8) (h : T.length < p + n) (hn : 1 ≤ n ∧ n ≤ 8) : takeU (0, p) T (n : Int) = ((10, p), []) := by
  unfold takeU tnext
  rw [if_neg (by simp), if_neg (by omega), Int.toNat_natCast, if_pos (by omega)]
theorem takeU_err (e : Int) (p n : Nat) (T : List UInt8) (h : e ≠ 0) : takeU (e, p) T (n : Int) = ((e, p), []) := by
  unfold takeU
  rw [if_pos h]
theorem takeRaw2_ok (T : List UInt8) (h : 2 ≤ T.length) : takeRaw (0, 0) T 2 = ((0, 2), T.take 2) := by
  unfold takeRaw tnext
  rw [if_neg (by simp), if_neg (by omega), if_neg (by show ¬ T.length - 0 < 2; omega)]; rfl
theorem takeRaw2_end (T : List UInt8) (h : T.length < 2) : takeRaw (0, 0) T 2 = ((10, 0), []) := by
  unfold takeRaw tnext
  rw [if_neg (by simp), if_neg (by omega), if_pos (by show T.length - 0 < 2; omega)]
def startsT (l : List UInt8) : Bool := (l[0]?.getD 69 == 69) && (l[1]?.getD 78 == 78)
theorem byte_is (x : UInt8) (n : Nat) (hn : n < 256) : ((x.toNat : Int) == (n : Int)) = (x == UInt8.ofNat n) := by
  have h : ((x.toNat : Int) = (n : Int)) ↔ x = UInt8.ofNat n := by
    constructor
    · intro h
      have h2 : x.toNat = n := by omega
      rw [← h2]; simp
    · intro h
      rw [h]; simp; omega
  rw [Bool.eq_iff_iff]
  simp [h]
def plcT (l : List UInt8) (n : Nat) : List Int := (List.range n).map fun i => (fldT l (14 + 5 * i) 5 : Int)
theorem plcT_succ (l : List UInt8) (n : Nat) : plcT l (n + 1) = plcT l n ++ [(fldT l (14 + 5 * n) 5 : Int)] := by
  unfold plcT; rw [List.range_succ, List.map_append]; rfl
theorem plcT_len (l : List UInt8) (n : Nat) : (plcT l n).length = n := by simp [plcT]
/-- the code, how many bytes, the count, the sum, the places -/
def getT (l : List UInt8) : Int × Int × Int × Int × List Int :=
  if startsT l = false then (31, 0, 0, 0, []) else if l.length < 14 then (10, 0, 0, 0, []) else if 16777216 < fldT l 10 4 then (60, 0, 0, 0, [])
  else if l.length < 18 + 5 * fldT l 10 4 then (10, 0, 0, 0, []) else if sumI (l.take (14 + 5 * fldT l 10 4)) ≠ (fldT l (14 + 5 * fldT l 10 4) 4 : Int) then (33, 0, 0, 0, [])
  else if rightB (fldT l 2 4 : Nat) (plcT l (fldT l 10 4)) = false then (60, 0, 0, 0, [])
  else (0, (18 + 5 * fldT l 10 4 : Nat), (fldT l 2 4 : Nat), (fldT l 6 4 : Nat), plcT l (fldT l 10 4))
/-- as GetTPost; the places lie in a row of the call's own -/
def GetTPostF (w : World) (r : Int × Int × Int × Int × List Int) (e : Ending) (w' : World) : Prop :=
  ∃ (A : Option Addr) (c : Nat), e = .returned (.tuple #[.agg #[.int .i64 r.2.2.1, .int .u32 r.2.2.2.1, .slice A r.2.2.2.2.length c], .int .i64 r.2.1, .int .i64 r.1]) ∧ SeesI w' A r.2.2.2.2 ∧ r.2.2.2.2.length ≤ c ∧ c ≤ maxLen ∧ Below w.heap.size w w' ∧ ∀ a, A = some a → w.heap.size ≤ a.block
set_option maxHeartbeats 1000000 in
theorem tstarts_any (A : Option Addr) (c : Nat) (l : List UInt8) (w : World) (hl : SeesB w A l) :
    Calls Tryz.prog 66 #[.slice A l.length c] w fun e w' => e = .returned (.bool (startsT l)) ∧ w = w' := by
  by_cases h0 : 0 < l.length
  · obtain ⟨a, rfl, ca⟩ := hl.at h0
    have ca0 : w.cell? a = some (.int .u8 (l[0].toNat : Int)) := ca
    have g0 : l[0]?.getD 69 = l[0] := by rw [List.getElem?_eq_getElem h0]; rfl
    have b0 : ((l[0].toNat : Int) == 69) = (l[0] == 69) := byte_is l[0] 69 (by omega)
    have d0 : decide ((l.length : Int) < 1) = false := decide_eq_false (by omega)
    have d0' : (0 : Int) < (l.length : Int) := by omega
    cases hx : (l[0] == 69) with
    | false =>
      rw [hx] at b0
      rw [show startsT l = false by unfold startsT; rw [g0, hx]; rfl]
      clear g0 hx ca
      go_enter Tryz.func66, Tryz.ntmps66
      go_wp2_with fail
      go_ret
      exact ⟨rfl, rfl⟩
    | true =>
      rw [hx] at b0
      by_cases h1 : 1 < l.length
      · obtain ⟨a', ha, cb⟩ := hl.at h1
        injection ha with ha
        subst ha
        have ca1 : w.cell? { block := a.block, off := a.off + 1 } = some (.int .u8 (l[1].toNat : Int)) := cb
        have g1 : l[1]?.getD 78 = l[1] := by rw [List.getElem?_eq_getElem h1]; rfl
        have b1 : ((l[1].toNat : Int) == 78) = (l[1] == 78) := byte_is l[1] 78 (by omega)
        have d1 : decide ((l.length : Int) < 2) = false := decide_eq_false (by omega)
        have d1' : (1 : Int) < (l.length : Int) := by omega
        have e : startsT l = (l[1] == 78) := by unfold startsT; rw [g0, g1, hx]; rfl
        cases hy : (l[1] == 78)
        all_goals
          rw [hy] at b1 e
          rw [e]
          clear g0 g1 hx hy e ca cb
          go_enter Tryz.func66, Tryz.ntmps66
          go_wp2_with fail
          go_ret
          exact ⟨rfl, rfl⟩
      · have d1 : decide ((l.length : Int) < 2) = true := decide_eq_true (by omega)
        have g1 : l[1]?.getD 78 = 78 := by rw [List.getElem?_eq_none (by omega)]; rfl
        rw [show startsT l = true by unfold startsT; rw [g0, g1, hx]; rfl]
        clear g0 g1 hx ca
        go_enter Tryz.func66, Tryz.ntmps66
        go_wp2_with fail
        go_ret
        exact ⟨rfl, rfl⟩
  · obtain rfl : l = [] := List.length_eq_zero_iff.1 (by omega)
    go_enter Tryz.func66, Tryz.ntmps66
    go_wp2_with fail
    go_ret
    exact ⟨rfl, rfl⟩
end Go.Proofs.YtkmhmehofipehaaGreatDoor
/- A tail laid and read, in plain Lean: each from the other. -/
namespace Go.Proofs.YtkmhmehofipehaaGreatDoor
set_option linter.unusedVariables false
open Go.RowKit
theorem cut_bytes (b : List UInt8) (p n : Nat) (h : p + n ≤ b.length) : bytesLE (fldT b p n) n = (b.drop p).take n := by
  have hl : ((b.drop p).take n).length = n := by simp; omega
  have h1 := bytesLE_val ((b.drop p).take n)
  rw [hl] at h1
  exact h1
theorem take_more (b : List UInt8) (p n : Nat) : b.take (p + n) = b.take p ++ (b.drop p).take n := by
  rw [List.take_add]
theorem places_cut (b : List UInt8) (n : Nat) (h : 14 + 5 * n ≤ b.length) : b.take 14 ++ placesB (plcT b n) = b.take (14 + 5 * n) := by
  induction n with
  | zero => simp [plcT, placesB]
  | succ n ih =>
    have e : placesB (plcT b (n + 1)) = placesB (plcT b n) ++ bytesLE (fldT b (14 + 5 * n) 5) 5 := by
      rw [plcT_succ]; simp [placesB]
    rw [e, ← List.append_assoc, ih (by omega), cut_bytes b _ 5 (by omega), show 14 + 5 * (n + 1) = (14 + 5 * n) + 5 by omega]
    exact (take_more b (14 + 5 * n) 5).symm
theorem startsT_two (b : List UInt8) (h : startsT b = true) (hl : 2 ≤ b.length) : b.take 2 = [69, 78] := by
  match b, hl with
  | x :: y :: t, _ =>
    unfold startsT at h
    simp at h
    simp [h.1, h.2]
/-- what is read is laid -/
theorem put_getT (b : List UInt8) (h : (getT b).1 = 0) :
    ∃ (N cnt sm : Nat), getT b = (0, ((18 + 5 * N : Nat) : Int), (cnt : Int), (sm : Int), plcT b N) ∧ cnt < 4294967296 ∧ sm < 4294967296 ∧ 18 + 5 * N ≤ b.length ∧ N ≤ 16777216 ∧ rightB (cnt : Nat) (plcT b N) = true ∧ sealed (tailHead cnt sm (plcT b N)) = b.take (18 + 5 * N) := by
  unfold getT at h ⊢
  split at h
  · exact absurd h (by decide)
  · split at h
    · exact absurd h (by decide)
    · split at h
      · exact absurd h (by decide)
      · split at h
        · exact absurd h (by decide)
        · split at h
          · exact absurd h (by decide)
          · split at h
            · exact absurd h (by decide)
            · rename_i h1 h2 h3 h4 h5 h6
              rw [if_neg h1, if_neg h2, if_neg h3, if_neg h4, if_neg h5, if_neg h6]
              refine ⟨fldT b 10 4, fldT b 2 4, fldT b 6 4, rfl, fldT_lt b 2 4, fldT_lt b 6 4, by omega, by omega, by simpa using h6, ?_⟩
              have hst : startsT b = true := by simpa using h1
              have hs : sumI (b.take (14 + 5 * fldT b 10 4)) = (fldT b (14 + 5 * fldT b 10 4) 4 : Int) := by simpa using h5
              have e14 : threeB (fldT b 2 4) (fldT b 6 4) (plcT b (fldT b 10 4)).length 3 = b.take 14 := by
                rw [plcT_len, show (14 : Nat) = 2 + 4 + 4 + 4 from rfl, take_more b (2 + 4 + 4) 4, take_more b (2 + 4) 4, take_more b 2 4, ← cut_bytes b 2 4 (by omega), ← cut_bytes b (2 + 4) 4 (by omega), ← cut_bytes b (2 + 4 + 4) 4 (by omega), startsT_two b hst (by omega)]
                simp [threeB]
              have eh : tailHead (fldT b 2 4) (fldT b 6 4) (plcT b (fldT b 10 4)) = b.take (14 + 5 * fldT b 10 4) := by
                unfold tailHead
                rw [e14, places_cut b _ (by omega)]
              unfold sealed
              rw [eh, hs, Int.toNat_natCast, cut_bytes b _ 4 (by omega), show 18 + 5 * fldT b 10 4 = (14 + 5 * fldT b 10 4) + 4 by omega]
              exact (take_more b (14 + 5 * fldT b 10 4) 4).symm
end Go.Proofs.YtkmhmehofipehaaGreatDoor
/- Info that was laid is read, and the other way round. -/
namespace Go.Proofs.YtkmhmehofipehaaGreatDoor
set_option linter.unusedVariables false
open Go.RowKit
theorem fld_back (b : List UInt8) (p n : Nat) (h : p + n ≤ b.length) : bytesLE (fld b p n) n = (b.drop p).take n := by
  have hl : ((b.drop p).take n).length = n := by simp; omega
  have := bytesLE_val ((b.drop p).take n)
  rw [hl] at this
  exact this
theorem getI_good (b : List UInt8) (h : (getI b).1 = 0) : ∃ k ch bi ra bl sh : Nat, getI b = (0, (k : Int), (ch : Int), (bi : Int), (ra : Int), (bl : Int), (sh : Int)) ∧ rightI k ch bi ra bl sh = true ∧
    (k < 256 ∧ ch < 256 ∧ bi < 256 ∧ sh < 256 ∧ ra < 16777216 ∧ bl < 4294967296) ∧ sealed (infoHead k ch bi sh ra bl) = b.take 19 ∧ 19 ≤ b.length := by
  by_cases h1 : startsI b = false
  · unfold getI at h; rw [if_pos h1] at h; simp at h
  by_cases h2 : b.length < 19
  · unfold getI at h; rw [if_neg h1, if_pos h2] at h; simp at h
  by_cases h3 : sumI (b.take 15) ≠ (fld b 15 4 : Int)
  · unfold getI at h; rw [if_neg h1, if_neg h2, if_pos h3] at h; simp at h
  by_cases h4 : rightI (fld b 4 1) (fld b 5 1) (fld b 6 1) (fld b 8 3) (fld b 11 4) (fld b 7 1) = false
  · unfold getI at h; rw [if_neg h1, if_neg h2, if_neg h3, if_pos h4] at h; simp at h
  have hst : b.take 4 = [68, 83, 67, 49] := by
    have e : startsI b = true := by simpa using h1
    have := of_decide_eq_true e
    rw [this, List.take_of_length_le (by simp; omega)]
  have hlt : fld b 4 1 < 256 ∧ fld b 5 1 < 256 ∧ fld b 6 1 < 256 ∧ fld b 7 1 < 256 ∧ fld b 8 3 < 16777216 ∧ fld b 11 4 < 4294967296 := ⟨fld_lt b 4 1, fld_lt b 5 1, fld_lt b 6 1, fld_lt b 7 1, fld_lt b 8 3, fld_lt b 11 4⟩
  have t : ∀ p n, b.take p ++ (b.drop p).take n = b.take (p + n) := fun p n => List.take_add.symm
  have e15 : infoHead (fld b 4 1) (fld b 5 1) (fld b 6 1) (fld b 7 1) (fld b 8 3) (fld b 11 4) = b.take 15 := by
    unfold infoHead
    rw [fld_back b 4 1 (by omega), fld_back b 5 1 (by omega), fld_back b 6 1 (by omega), fld_back b 7 1 (by omega), fld_back b 8 3 (by omega), fld_back b 11 4 (by omega), ← hst, t 4 1, t 5 1, t 6 1, t 7 1, t 8 3, t 11 4]
  refine ⟨fld b 4 1, fld b 5 1, fld b 6 1, fld b 8 3, fld b 11 4, fld b 7 1, ?_, by simpa using h4, hlt, ?_, by omega⟩
  · unfold getI; rw [if_neg h1, if_neg h2, if_neg h3, if_neg h4]; rfl
  · have hS : (sumI (b.take 15)).toNat = fld b 15 4 := by omega
    unfold sealed
    rw [e15, hS, fld_back b 15 4 (by omega), t 15 4]
end Go.Proofs.YtkmhmehofipehaaGreatDoor
/- Files taken apart, plainly: what their bytes say. -/
namespace Go.Proofs.YtkmhmehofipehaaGreatDoor
set_option linter.unusedVariables false
open Go.RowKit
/-- the info that bytes say -/
def infoOf (l : List UInt8) : InfoV := ⟨(getI l).2.1, (getI l).2.2.1, (getI l).2.2.2.1, (getI l).2.2.2.2.1, (getI l).2.2.2.2.2.1, (getI l).2.2.2.2.2.2⟩
/-- a block that was read, and where it begins -/
structure BlkP where
  h : HeadV
  p : List UInt8
  sum : Int
  at_ : Nat
/-- what is known of a file's blocks while it is read -/
structure PS where
  pl : List Int
  cnt : Int
  short : Bool
  at_ : Nat
  bl : List BlkP
def PS.next (i : InfoV) (s : PS) (r : Int × HeadV × List UInt8 × Int) : PS :=
  ⟨s.pl ++ [(s.at_ : Int)], s.cnt + r.2.1.len, decide (r.2.1.len < i.bl), s.at_ + (36 + r.2.1.siz.toNat), s.bl ++ [⟨r.2.1, r.2.2.1, r.2.2.2, s.at_⟩]⟩
def blkE (i : InfoV) (b : List UInt8) (s : PS) : Int :=
  if b.length ≤ s.at_ then 10 else if (openH (b.drop s.at_)).1 ≠ 0 then (openH (b.drop s.at_)).1 else nextE i (openH (b.drop s.at_)).2.1 s.pl.length s.short
def loopP (i : InfoV) (b : List UInt8) : Nat → PS → Int × PS
  | 0, s => (0, s)
  | n + 1, s => if b[s.at_]? = some 69 then (0, s) else if blkE i b s ≠ 0 then (blkE i b s, s) else loopP i b n (s.next i (openH (b.drop s.at_)))
/-- a file that was read -/
structure FileV where
  i : InfoV
  l : List TagV
  bl : List BlkP
  cnt : Int
  sum : Int
  pl : List Int
def InfoV.zero : InfoV := ⟨0, 0, 0, 0, 0, 0⟩
def FileV.zero : FileV := ⟨InfoV.zero, [], [], 0, 0, []⟩
def tailE (b : List UInt8) (s : PS) : Int :=
  if (getT (b.drop s.at_)).1 ≠ 0 then (getT (b.drop s.at_)).1 else if s.at_ + (getT (b.drop s.at_)).2.1.toNat < b.length then 62
  else if (getT (b.drop s.at_)).2.2.1 ≠ s.cnt then 61 else if (getT (b.drop s.at_)).2.2.2.2 ≠ s.pl then 60 else 0
def finP (i : InfoV) (l : List TagV) (b : List UInt8) (r : Int × PS) : Int × FileV :=
  if r.1 ≠ 0 then (r.1, FileV.zero) else if tailE b r.2 ≠ 0 then (tailE b r.2, FileV.zero)
  else (0, ⟨i, l, r.2.bl, (getT (b.drop r.2.at_)).2.2.1, (getT (b.drop r.2.at_)).2.2.2.1, (getT (b.drop r.2.at_)).2.2.2.2⟩)
def begP (n : Nat) : PS := ⟨[], 0, false, 19 + n, []⟩
def parseF (b : List UInt8) : Int × FileV :=
  if (getI b).1 ≠ 0 then ((getI b).1, FileV.zero) else if (getG (b.drop 19)).1 ≠ 0 then ((getG (b.drop 19)).1, FileV.zero)
  else finP (infoOf b) (getG (b.drop 19)).2.2 b (loopP (infoOf b) b (b.length + 1) (begP (getG (b.drop 19)).2.1))
/-! what bytes say of blocks that stand ahead of others -/
/-! what is built is parsed -/
end Go.Proofs.YtkmhmehofipehaaGreatDoor
/- Tags read behind an error, plainly. -/
namespace Go.Proofs.YtkmhmehofipehaaGreatDoor
set_option linter.unusedVariables false
open Go.RowKit
theorem textR_err (s : Int × Nat) (b : List UInt8) (n : Int) (h : s.1 ≠ 0) : textR s b n = (s, []) := by unfold textR; rw [if_pos h]
theorem stepG_err (b : List UInt8) (s : Int × Nat) (h : s.1 ≠ 0) : (stepG b s).1 = s := by
  unfold stepG
  rw [textR_err s b 1 h]
  simp only
  rw [textR_err s b 2 h]
theorem finG_err (b : List UInt8) (r : (Int × Nat) × List TagV) (h : r.1.1 ≠ 0) : finG b r = (r.1.1, 0, []) := by
  obtain ⟨⟨e, p⟩, L⟩ := r
  unfold finG
  simp only at h ⊢
  rw [gU_err e p 4 b h]
  unfold endG
  rw [if_pos h]
end Go.Proofs.YtkmhmehofipehaaGreatDoor
/- What is read as tags is laid as it was, plainly. -/
namespace Go.Proofs.YtkmhmehofipehaaGreatDoor
set_option linter.unusedVariables false
open Go.RowKit
theorem textR_ok {b t : List UInt8} {p p2 : Nat} {n : Nat} (hn : 1 ≤ n ∧ n ≤ 8) (h : textR (0, p) b (n : Int) = ((0, p2), t)) (hp : p ≤ b.length) : p2 = p + n + t.length ∧ p2 ≤ b.length ∧ b.take p2 = b.take p ++ (bytesLE t.length n ++ t) := by
  unfold textR at h
  rw [if_neg (by simp)] at h
  by_cases hu : (takeU (0, p) b (n : Int)).1.1 = 0
  · rw [if_neg (by rw [hu]; simp)] at h
    obtain ⟨_, _, _, hg, hle⟩ := takeU_good hu
    rw [hg] at h
    simp only [Int.toNat_natCast] at h hle
    by_cases hl : b.length - (p + n) < valLE ((b.drop p).take n)
    · rw [if_pos hl] at h
      simp at h
    · rw [if_neg hl] at h
      simp only [Prod.mk.injEq, true_and] at h
      obtain ⟨h1, h2⟩ := h
      have hX : ((b.drop p).take n).length = n := by simp; omega
      have hV := bytesLE_val ((b.drop p).take n)
      rw [hX] at hV
      generalize valLE ((b.drop p).take n) = V at *
      have htl : t.length = V := by rw [← h2]; simp; omega
      refine ⟨by omega, by omega, ?_⟩
      rw [htl, hV, ← h1, List.take_add, List.take_add, ← h2, List.append_assoc]
  · rw [if_pos (by simpa using hu)] at h
    simp only [Prod.mk.injEq] at h
    exact absurd h.1.1 hu
theorem stepG_ok {b : List UInt8} {p : Nat} {s2 : Int × Nat} {x : TagV} (h : stepG b (0, p) = (s2, x)) (h0 : s2.1 = 0) (hp : p ≤ b.length) : s2.2 ≤ b.length ∧ b.take s2.2 = b.take p ++ oneB x := by
  unfold stepG at h
  obtain ⟨⟨⟨e1, p1⟩, x1⟩, hr1⟩ : ∃ r, textR (0, p) b 1 = r := ⟨_, rfl⟩
  rw [hr1] at h
  simp only at h
  obtain ⟨⟨⟨e2, p2⟩, x2⟩, hr2⟩ : ∃ r, textR (e1, p1) b 2 = r := ⟨_, rfl⟩
  rw [hr2] at h
  simp only [Prod.mk.injEq] at h
  obtain ⟨rfl, rfl⟩ := h
  simp only at h0
  subst h0
  have he1 : e1 = 0 := by
    by_cases he : e1 = 0
    · exact he
    · rw [textR_err (e1, p1) b 2 he] at hr2
      simp only [Prod.mk.injEq] at hr2
      exact hr2.1.1
  subst he1
  obtain ⟨q1, q2, q3⟩ := textR_ok (n := 1) (by omega) hr1 hp
  obtain ⟨q4, q5, q6⟩ := textR_ok (n := 2) (by omega) hr2 q2
  refine ⟨q5, ?_⟩
  show b.take p2 = _
  rw [q6, q3]
  unfold oneB
  simp
theorem loopG_ok (b : List UInt8) : ∀ (n p : Nat) (acc : List TagV) (s2 : Int × Nat) (l : List TagV), loopG b n (0, p) acc = (s2, l) → s2.1 = 0 → p ≤ b.length →
    s2.2 ≤ b.length ∧ ∃ l2, l = acc ++ l2 ∧ l2.length = n ∧ b.take s2.2 = b.take p ++ itemsB l2
  | 0, p, acc, s2, l, h, h0, hp => by
    rw [loopG] at h
    simp only [Prod.mk.injEq] at h
    obtain ⟨rfl, rfl⟩ := h
    exact ⟨hp, [], by simp, rfl, by simp [itemsB]⟩
  | n + 1, p, acc, s2, l, h, h0, hp => by
    rw [loopG] at h
    by_cases he : (stepG b (0, p)).1.1 ≠ 0
    · rw [if_pos he] at h
      simp only [Prod.mk.injEq] at h
      obtain ⟨rfl, rfl⟩ := h
      exact absurd h0 he
    · rw [if_neg he] at h
      obtain ⟨⟨⟨e1, p1⟩, x⟩, hr⟩ : ∃ r, stepG b (0, p) = r := ⟨_, rfl⟩
      rw [hr] at h he
      simp only [ne_eq, Decidable.not_not] at h he
      subst he
      obtain ⟨q1, q2⟩ := stepG_ok hr rfl hp
      simp only at q1 q2
      obtain ⟨z1, l2, z2, z3, z4⟩ := loopG_ok b n p1 (acc ++ [x]) s2 l h h0 q1
      exact ⟨z1, x :: l2, by rw [z2]; simp, by rw [List.length_cons, z3], by rw [z4, q2]; simp [itemsB]⟩
theorem put_getG (b : List UInt8) {n : Nat} {l : List TagV} (h : getG b = (0, n, l)) : (checkT l).2 = 0 ∧ n ≤ b.length ∧ sealed (tagsB l) = b.take n := by
  unfold getG at h
  by_cases hs : startsG b = false
  · rw [if_pos hs] at h; simp at h
  rw [if_neg hs] at h
  by_cases h3 : b.length < 3
  · rw [if_pos h3] at h; simp at h
  rw [if_neg h3] at h
  obtain ⟨⟨⟨e, p⟩, L⟩, hr⟩ : ∃ r, loopG b (countG b) (0, 3) [] = r := ⟨_, rfl⟩
  rw [hr] at h
  by_cases he : e = 0
  case neg => rw [finG_err b _ he] at h; simp only [Prod.mk.injEq] at h; exact absurd h.1 he
  subst he
  obtain ⟨q1, l2, q2, q3, q4⟩ := loopG_ok b _ 3 [] _ _ hr rfl (by omega)
  simp only [List.nil_append] at q1 q2 q4
  subst q2
  unfold finG at h
  simp only at h
  unfold endG at h
  by_cases hu : (takeU (0, p) b 4).1.1 = 0
  case neg => rw [if_pos hu] at h; simp only [Prod.mk.injEq] at h; exact absurd h.1 hu
  rw [if_neg (by rw [hu]; simp)] at h
  obtain ⟨_, _, _, hg, hle⟩ := takeU_good hu
  have hg' : takeU (0, p) b 4 = ((0, p + 4), (b.drop p).take 4) := hg
  have hle' : 4 ≤ b.length - p := hle
  rw [hg'] at h
  simp only at h
  by_cases hv : valLE ((b.drop p).take 4) = (sumI (b.take p)).toNat
  case neg => rw [if_pos hv] at h; simp at h
  rw [if_neg (by rw [hv]; simp)] at h
  by_cases hc : (checkT L).2 = 0
  case neg => rw [if_pos hc] at h; simp only [Prod.mk.injEq] at h; exact absurd h.1 hc
  rw [if_neg (by rw [hc]; simp)] at h
  simp only [Prod.mk.injEq, true_and] at h
  obtain ⟨rfl, rfl⟩ := h
  refine ⟨hc, by omega, ?_⟩
  have hhead : headB L = b.take 3 := by
    unfold headB
    rw [q3]
    match b, h3 with
    | x :: y :: z :: t, _ =>
      have hs' : startsG (x :: y :: z :: t) = true := by simpa using hs
      simp [startsG] at hs'
      simp [countG, valLE, hs'.1, hs'.2]
    | [], h3 => exact absurd (show ([] : List UInt8).length < 3 by simp) h3
    | [x], h3 => exact absurd (show [x].length < 3 by simp) h3
    | [x, y], h3 => exact absurd (show [x, y].length < 3 by simp) h3
  have ht : tagsB L = b.take p := by
    unfold tagsB
    rw [hhead, q4]
  have hX : ((b.drop p).take 4).length = 4 := by simp; omega
  have hV := bytesLE_val ((b.drop p).take 4)
  rw [hX] at hV
  unfold sealed
  rw [ht, ← hv, hV, List.take_add]
end Go.Proofs.YtkmhmehofipehaaGreatDoor
/- A struct by value out of, and into, the middle of a block that is known whole. -/
namespace Go.Proofs.YtkmhmehofipehaaGreatDoor
set_option linter.unusedVariables false
open Go.RowKit
section
variable {P : Program}
theorem run_storeVar_part (w : World) (g o : Nat) (t ty : TypeId) (cur cells new : Array Value) (hg : w.heap[g]? = some (.cells cur t (0, 0))) (hi : (P.info? ty).map (·.size) = some cells.size)
    (hfit : o + cells.size ≤ cur.size) (h1 : cells.all (·.oneCell') = true) (hn : (cur.toList.take o ++ cells.toList ++ cur.toList.drop (o + cells.size)).toArray = new) :
    (storeVar ty ⟨g, o, none⟩ (.agg cells)).run P w = .ok () (w.setRow g new) := by
  have := run_storeCells_at P g o t cells.toList 0 cur w hg (by simpa using hfit) (fun v hv => (Array.all_eq_true_iff_forall_mem.1 h1) v (by simpa using hv))
  cases hq : P.info? ty with
  | none => simp [hq] at hi
  | some i =>
    have hs : cells.size = i.size := by simp [hq] at hi; omega
    subst hn
    simp only [Nat.add_zero, Array.length_toList] at this
    simp [storeVar, sizeOf, typeInfo, hq, Value.cells, hs, this]
theorem wp_store_part {op : Oper} {a : Act} {w : World} {K : Act → World → Prop} {Q : Exit → Act → World → Prop} (ty : TypeId) (x y : Operand) (ho : op.op = .store ty x y) (hd : op.dst = none)
    (g o : Nat) (hx : a.eval x = .pointer (some ⟨g, o, none⟩)) (cells : Array Value) (hy : a.eval y = .agg cells) (t : TypeId) (cur new : Array Value) (hg : w.heap[g]? = some (.cells cur t (0, 0)))
    (hi : (P.info? ty).map (·.size) = some cells.size) (hfit : o + cells.size ≤ cur.size) (h1 : cells.all (·.oneCell') = true) (hn : (cur.toList.take o ++ cells.toList ++ cur.toList.drop (o + cells.size)).toArray = new)
    (h : K a (w.setRow g new)) : op.wp P a w K Q := by
  unfold Oper.wp execOp
  simp only [ho, hx, hy, Instr.storeAt, Instr.sureAddr, Sem.run_bind, Sem.run_pure, Result.andThen_ok, run_storeVar_part w g o t ty cur cells new hg hi hfit h1 hn]
  have e : ∀ v, a.put op.dst v = a := by intro v; rw [hd]; rfl
  simp only [Oper.upon, e]
  exact h
theorem wpList_store_part {ops : Array Oper} {rest : List Oper} {op : Oper} {a : Act} {w : World} {Q : Exit → Act → World → Prop} (hgd : op.guard = none) (ty : TypeId) (x y : Operand) (ho : op.op = .store ty x y) (hd : op.dst = none)
    (g o : Nat) (hx : a.eval x = .pointer (some ⟨g, o, none⟩)) (cells : Array Value) (hy : a.eval y = .agg cells) (t : TypeId) (cur new : Array Value) (hg : w.heap[g]? = some (.cells cur t (0, 0)))
    (hi : (P.info? ty).map (·.size) = some cells.size) (hfit : o + cells.size ≤ cur.size) (h1 : cells.all (·.oneCell') = true) (hn : (cur.toList.take o ++ cells.toList ++ cur.toList.drop (o + cells.size)).toArray = new)
    (h : wpList P ops Q rest a (w.setRow g new)) : wpList P ops Q (op :: rest) a w :=
  wpList_plain hgd fun _ hK => wp_store_part ty x y ho hd g o hx cells hy t cur new hg hi hfit h1 hn (hK _ _ h)
theorem range_part {w : World} {g : Nat} {t : TypeId} {cur : Array Value} {fr : Nat × Nat} (hg : w.heap[g]? = some (.cells cur t fr)) (o : Nat) (cs : List Value) (hc : (cur.toList.drop o).take cs.length = cs) : w.rangeAt g o cs := fun j v hv => by
  rw [cell_of_row w g (o + j) cur t fr hg]
  have hj : j < cs.length := (List.getElem?_eq_some_iff.1 hv).1
  rw [← hc, List.getElem?_take_of_lt hj, List.getElem?_drop] at hv
  rw [← Array.getElem?_toList]; exact hv
theorem wpList_load_part {ops : Array Oper} {rest : List Oper} {op : Oper} {a : Act} {w : World} {Q : Exit → Act → World → Prop} (hgd : op.guard = none) (ty : TypeId) (x : Operand) (ho : op.op = .load ty x)
    (b o : Nat) (hx : a.eval x = .pointer (some ⟨b, o, none⟩)) (cs : Array Value) (d : TypeDesc) (t : TypeId) (cur : Array Value) (fr : Nat × Nat) (hg : w.heap[b]? = some (.cells cur t fr)) (hc : (cur.toList.drop o).take cs.toList.length = cs.toList)
    (hu : P.underlying ty = some d) (hd : d.isRow = true) (hi : (P.info? ty).map (·.size) = some cs.toList.length)
    (h : wpList P ops Q rest (a.put op.dst (.agg cs)) w) : wpList P ops Q (op :: rest) a w :=
  wpList_load_mid hgd ty x ho b o hx cs.toList d (range_part hg o cs.toList hc) hu hd hi h
end
end Go.Proofs.YtkmhmehofipehaaGreatDoor
