/- A block opened: where its payload lies. -/
import Derived.Test.YtkmhmehofipehaaDoorK7
import Derived.Test.YtkmhmehofipehaaDoorK11
import Derived.Test.YtkmhmehofipehaaDoorK3
import Derived.Test.YtkmhmehofipehaaDoorK2
import Derived.Test.YtkmhmehofipehaaDoorK12
import Derived.Test.YtkmhmehofipehaaDoorK5
namespace Go.Proofs.YtkmhmehofipehaaDoor
set_option linter.unusedVariables false
open Go.RowKit
def OpenPostF (w : World) (r : Int × HeadV × List UInt8 × Int) (e : Ending) (w' : World) : Prop :=
  ∃ (A : Option Addr) (c : Nat), e = .returned (.tuple #[.agg r.2.1.cells, .slice A r.2.2.1.length c, .int .u32 r.2.2.2, .int .i64 r.1]) ∧ SeesB w' A r.2.2.1 ∧ r.2.2.1.length ≤ c ∧ c ≤ maxLen ∧ Below w.heap.size w w' ∧ ∀ a, A = some a → w.heap.size ≤ a.block
set_option maxHeartbeats 2000000 in
theorem hopenF_err (t : Nat) (A : Option Addr) (c : Nat) (l : List UInt8) (w : World) (ht : Tab w t) (hl : SeesB w A l) (hc : l.length ≤ c) (hcm : c ≤ maxLen) (hlen : l.length ≤ 140737488355328) (he : (getH l).1 ≠ 0) :
    Calls Tryd.prog 41 #[.pointer (some ⟨t, 0, none⟩), .slice A l.length c] w (OpenPostF w ((getH l).1, HeadV.zero, [], 0)) := by
  have HG := hid (fun W (ht : Tab W t) (hl : SeesB W A l) => hget_any t A c l W ht hl hc hcm hlen)
  have d1 : ((getH l).1 != 0) = true := by simpa using he
  generalize getH l = r at *
  obtain ⟨er, k, idx, len, stp, bnd, lst, lnk, siz⟩ := r
  unfold GetHPost HeadV.cells at HG
  simp only at HG d1
  clear he
  have hb : Below w.heap.size w (w.alloc (.cells #[.int .i64 0, .int .i64 0, .int .i64 0, .int .i64 0, .int .i64 0, .bool false, .int .u32 0, .int .i64 0] 52)) := (Below.refl _ w).alloc (Nat.le_refl _) _
  have hrow := heap_alloc_new w (.cells #[.int .i64 0, .int .i64 0, .int .i64 0, .int .i64 0, .int .i64 0, .bool false, .int .u32 0, .int .i64 0] 52)
  go_enter Tryd.func41, Tryd.ntmps41
  go_wp2_with fail
  generalize w.alloc (.cells #[.int .i64 0, .int .i64 0, .int .i64 0, .int .i64 0, .int .i64 0, .bool false, .int .u32 0, .int .i64 0] 52) = w0 at *
  have hlt0 : w.heap.size < w0.heap.size := (Array.getElem?_eq_some_iff.1 hrow).1
  refine (HG.out w0 (ht.keep hb ht.lt) (hl.below hb)).mono ?_
  rintro e w1 ⟨rfl, hb1⟩
  have hbw1 := hb.trans (hb1.mono hb.size)
  have hrow1 := (hb1.block w.heap.size hlt0).trans hrow
  have hlt1 := Nat.lt_of_lt_of_le hlt0 hb1.size
  have hb2 : Below w1.heap.size w1 (w1.alloc (.cells #[.int .i64 k, .int .i64 idx, .int .i64 len, .int .i64 stp, .int .i64 bnd, .bool lst, .int .u32 lnk, .int .i64 siz] 52)) := (Below.refl _ _).alloc (Nat.le_refl _) _
  have hr2 := heap_alloc_new w1 (.cells #[.int .i64 k, .int .i64 idx, .int .i64 len, .int .i64 stp, .int .i64 bnd, .bool lst, .int .u32 lnk, .int .i64 siz] 52)
  have hbw2 := hbw1.trans (hb2.mono hbw1.size)
  have hrow2 := (hb2.block w.heap.size hlt1).trans hrow1
  have hlt1w := hlt1
  clear hb hrow hb1 hbw1 hrow1 hb2 hlt1 HG
  go_wp2_with first | (refine wpList_store_row rfl 52 (.tmp 4) (.tmp 20) rfl rfl w.heap.size rfl #[.int .i64 0, .int .i64 0, .int .i64 0, .int .i64 0, .int .i64 0, .bool false, .int .u32 0, .int .i64 0] rfl 52 #[.int .i64 0, .int .i64 0, .int .i64 0, .int .i64 0, .int .i64 0, .bool false, .int .u32 0, .int .i64 0] hrow2 (by kernel_rfl) rfl (by simp [Value.oneCell']) ?_)
  exact bodyPost_ret (v := .tuple #[.agg #[.int .i64 0, .int .i64 0, .int .i64 0, .int .i64 0, .int .i64 0, .bool false, .int .u32 0, .int .i64 0], .slice none 0 0, .int .u32 0, .int .i64 er]) (results_row_tmp3 (fn := Tryd.f41) (p := 4) (u := 5) (x := 6) (y := 7) (ty := 52) rfl _ _ w.heap.size _ _ _ _ rfl (setRow_heap _ _ _ _ _ _ hrow2) Tryd.underlying52 rfl (by kernel_rfl)) rfl ⟨none, 0, rfl, Sees.nil _ _, Nat.le_refl _, Nat.zero_le _, below_setRow hbw2 (Nat.le_refl _) _, fun a ha => by cases ha⟩
set_option maxRecDepth 40000 in
set_option maxHeartbeats 8000000 in
theorem hopenF_ok (t : Nat) (A : Option Addr) (c : Nat) (l : List UInt8) (w : World) (ht : Tab w t) (hl : SeesB w A l) (hc : l.length ≤ c) (hcm : c ≤ maxLen) (hlen : l.length ≤ 140737488355328) (he : (getH l).1 = 0) :
    Calls Tryd.prog 41 #[.pointer (some ⟨t, 0, none⟩), .slice A l.length c] w (OpenPostF w (openH l)) := by
  obtain ⟨_, h32, _, _, hsd⟩ := getH_ok he
  obtain ⟨R, hR⟩ : ∃ R, R = openH l := ⟨_, rfl⟩
  rw [← hR]
  have hgl : getH l = (0, saidH l) := Prod.ext he hsd
  have hR2 : R = if l.length < 36 + fldH l 24 4 then (10, HeadV.zero, [], 0) else if sumI (l.take (32 + fldH l 24 4)) ≠ (fldH l (32 + fldH l 24 4) 4 : Int) then (33, HeadV.zero, [], 0) else (0, saidH l, (l.drop 32).take (fldH l 24 4), sumI (l.take (32 + fldH l 24 4))) := by
    rw [hR]; unfold openH; rw [if_neg (by simpa using he), hsd]
  have HR := hid hR2
  obtain ⟨a, rfl, _⟩ := hl.at (show 0 < l.length by omega)
  have HG := hid (fun W (ht : Tab W t) (hl : SeesB W (some a) l) => hget_any t (some a) c l W ht hl hc hcm hlen)
  rw [hgl] at HG
  unfold GetHPost saidH HeadV.cells at HG
  unfold saidH at HR
  simp only at HG
  have hn : fldH l 24 4 < 4294967296 := fldH_lt l 24 4
  generalize fldH l 24 4 = n at *
  generalize ((fldH l 2 1 : Nat) : Int) = k at *
  generalize ((fldH l 4 4 : Nat) : Int) = idx at *
  generalize ((fldH l 8 4 : Nat) : Int) = len at *
  generalize ((fldH l 12 4 : Nat) : Int) = stp at *
  generalize ((fldH l 16 4 : Nat) : Int) = bnd at *
  generalize (fldH l 3 1 == 1) = lst at *
  generalize ((fldH l 20 4 : Nat) : Int) = lnk at *
  clear hR hR2 hgl hsd he
  by_cases hlong : l.length < 36 + n
  · have d2 : decide ((l.length : Int) < 32 + (n : Int) + 4) = true := decide_eq_true (by omega)
    obtain rfl : R = (10, HeadV.zero, [], 0) := by rw [HR.out, if_pos hlong]
    clear hlong HR
    have hb : Below w.heap.size w (w.alloc (.cells #[.int .i64 0, .int .i64 0, .int .i64 0, .int .i64 0, .int .i64 0, .bool false, .int .u32 0, .int .i64 0] 52)) := (Below.refl _ w).alloc (Nat.le_refl _) _
    have hrow := heap_alloc_new w (.cells #[.int .i64 0, .int .i64 0, .int .i64 0, .int .i64 0, .int .i64 0, .bool false, .int .u32 0, .int .i64 0] 52)
    go_enter Tryd.func41, Tryd.ntmps41
    go_wp2_with fail
    generalize w.alloc (.cells #[.int .i64 0, .int .i64 0, .int .i64 0, .int .i64 0, .int .i64 0, .bool false, .int .u32 0, .int .i64 0] 52) = w0 at *
    have hlt0 : w.heap.size < w0.heap.size := (Array.getElem?_eq_some_iff.1 hrow).1
    refine (HG.out w0 (ht.keep hb ht.lt) (hl.below hb)).mono ?_
    rintro e w1 ⟨rfl, hb1⟩
    have hbw1 := hb.trans (hb1.mono hb.size)
    have hrow1 := (hb1.block w.heap.size hlt0).trans hrow
    have hlt1 := Nat.lt_of_lt_of_le hlt0 hb1.size
    have hb2 : Below w1.heap.size w1 (w1.alloc (.cells #[.int .i64 k, .int .i64 idx, .int .i64 len, .int .i64 stp, .int .i64 bnd, .bool lst, .int .u32 lnk, .int .i64 (n : Nat)] 52)) := (Below.refl _ _).alloc (Nat.le_refl _) _
    have hr2 := heap_alloc_new w1 (.cells #[.int .i64 k, .int .i64 idx, .int .i64 len, .int .i64 stp, .int .i64 bnd, .bool lst, .int .u32 lnk, .int .i64 (n : Nat)] 52)
    have hbw2 := hbw1.trans (hb2.mono hbw1.size)
    have hrow2 := (hb2.block w.heap.size hlt1).trans hrow1
    have hlt1w := hlt1
    clear hb hrow hb1 hbw1 hrow1 hb2 hlt1 HG
    have k7 : (w1.alloc (.cells #[.int .i64 k, .int .i64 idx, .int .i64 len, .int .i64 stp, .int .i64 bnd, .bool lst, .int .u32 lnk, .int .i64 (n : Nat)] 52)).cell? ⟨w1.heap.size, 7, none⟩ = some (.int .i64 (n : Nat)) := by rw [cell_of_row _ _ _ _ _ _ hr2]; rfl
    go_wp2_with first | (refine wpList_store_row rfl 52 (.tmp 4) (.tmp 30) rfl rfl w.heap.size rfl #[.int .i64 0, .int .i64 0, .int .i64 0, .int .i64 0, .int .i64 0, .bool false, .int .u32 0, .int .i64 0] rfl 52 #[.int .i64 0, .int .i64 0, .int .i64 0, .int .i64 0, .int .i64 0, .bool false, .int .u32 0, .int .i64 0] hrow2 (by kernel_rfl) rfl (by simp [Value.oneCell']) ?_)
    exact bodyPost_ret (v := .tuple #[.agg #[.int .i64 0, .int .i64 0, .int .i64 0, .int .i64 0, .int .i64 0, .bool false, .int .u32 0, .int .i64 0], .slice none 0 0, .int .u32 0, .int .i64 10]) (results_row_tmp3 (fn := Tryd.f41) (p := 4) (u := 5) (x := 6) (y := 7) (ty := 52) rfl _ _ w.heap.size _ _ _ _ rfl (setRow_heap _ _ _ _ _ _ hrow2) Tryd.underlying52 rfl (by kernel_rfl)) rfl ⟨none, 0, rfl, Sees.nil _ _, Nat.le_refl _, Nat.zero_le _, below_setRow hbw2 (Nat.le_refl _) _, fun a ha => by cases ha⟩
  have d2 : decide ((l.length : Int) < 32 + (n : Int) + 4) = false := decide_eq_false (by omega)
  have hst : (l.take (32 + n)).length = 32 + n := by rw [List.length_take]; omega
  have hsr := sumI_range (l.take (32 + n))
  obtain ⟨S, hS⟩ := Int.eq_ofNat_of_zero_le hsr.1
  have hsum := fun W (ht : Tab W t) (hl : SeesB W (some a) (l.take (32 + n))) => sum_any t (some a) c (l.take (32 + n)) W ht hl (by omega)
  rw [hst, hS] at hsum
  rw [hS] at hsr
  have hS4 : S < 4294967296 := by omega
  have hdl : (l.drop (32 + n)).length = l.length - (32 + n) := by simp
  have htk := fun W (h : SeesB W (some (a.add (32 + n))) (l.drop (32 + n))) => take_any (some (a.add (32 + n))) (c - (32 + n)) (l.drop (32 + n)) W h (by omega)
  rw [hdl] at htk
  have hu := fun g W (hT : Tk W g 0 0 (l.drop (32 + n))) => takerU_any g 0 0 4 (l.drop (32 + n)) W hT (by omega)
  rw [show takeU (0, 0) (l.drop (32 + n)) 4 = ((0, 4), ((l.drop (32 + n)).drop 0).take 4) from takeU_at 0 4 (l.drop (32 + n)) (by omega) (by omega)] at hu
  unfold UPost at hu
  rw [show valLE (((l.drop (32 + n)).drop 0).take 4) = fldH l (32 + n) 4 from rfl] at hu
  have v5 : fldH l (32 + n) 4 < 4294967296 := fldH_lt l (32 + n) 4
  obtain ⟨p, hp⟩ : ∃ p, p = (l.drop 32).take n := ⟨_, rfl⟩
  have hpl : p.length = n := by rw [hp]; simp; omega
  have hmid : Hid (S ≠ fldH l (32 + n) 4 → R = (33, HeadV.zero, [], 0)) := hid (fun h => by rw [HR.out, if_neg hlong, if_pos (by rw [hS]; omega)])
  have hmid2 : Hid (S = fldH l (32 + n) 4 → R = (0, ⟨k, idx, len, stp, bnd, lst, lnk, n⟩, p, (S : Int))) := hid (fun h => by rw [HR.out, if_neg hlong, if_neg (by rw [hS, h]; simp), hS, hp])
  have htr := fun W (h : SeesB W (some { block := a.block, off := a.off + 32 }) p) => take_any (some { block := a.block, off := a.off + 32 }) (c - 32) p W h (by omega)
  rw [hpl] at htr
  have hra := fun g W (hT : Tk W g 0 0 p) => traw_any g 0 0 (n : Nat) p W hT (by omega) (by omega)
  rw [show takeRaw (0, 0) p (n : Nat) = ((0, n), p) by
    unfold takeRaw tnext
    rw [if_neg (by simp), if_neg (by omega), Int.toNat_natCast, if_neg (by omega), List.drop_zero, ← hpl, List.take_length, Nat.zero_add]] at hra
  generalize fldH l (32 + n) 4 = su at *
  have HSUM := hid hsum
  have HTK := hid htk
  have HU := hid hu
  have HTR := hid htr
  have HRA := hid hra
  have HPL := hid hpl
  have g1 : (32 : Int) + n ≤ c := by omega
  have g2 : ¬ c = 32 + n := by omega
  have g3 : (32 : Int) + n ≤ l.length := by omega
  have g4 : (l.length : Int) ≤ c := by omega
  have g5 : ¬ c = 32 := by omega
  have g6 : (0 : Int) ≤ 32 + n := by omega
  have g7 : (32 : Int) ≤ 32 + n := by omega
  clear hu hsum hS hsr hst hdl htk HR hra htr hpl hlong
  have hb : Below w.heap.size w (w.alloc (.cells #[.int .i64 0, .int .i64 0, .int .i64 0, .int .i64 0, .int .i64 0, .bool false, .int .u32 0, .int .i64 0] 52)) := (Below.refl _ w).alloc (Nat.le_refl _) _
  have hrow := heap_alloc_new w (.cells #[.int .i64 0, .int .i64 0, .int .i64 0, .int .i64 0, .int .i64 0, .bool false, .int .u32 0, .int .i64 0] 52)
  go_enter Tryd.func41, Tryd.ntmps41
  go_wp2_with fail
  generalize w.alloc (.cells #[.int .i64 0, .int .i64 0, .int .i64 0, .int .i64 0, .int .i64 0, .bool false, .int .u32 0, .int .i64 0] 52) = w0 at *
  have hlt0 : w.heap.size < w0.heap.size := (Array.getElem?_eq_some_iff.1 hrow).1
  refine (HG.out w0 (ht.keep hb ht.lt) (hl.below hb)).mono ?_
  rintro e w1 ⟨rfl, hb1⟩
  have hbw1 := hb.trans (hb1.mono hb.size)
  have hrow1 := (hb1.block w.heap.size hlt0).trans hrow
  have hlt1 := Nat.lt_of_lt_of_le hlt0 hb1.size
  have hb2 : Below w1.heap.size w1 (w1.alloc (.cells #[.int .i64 k, .int .i64 idx, .int .i64 len, .int .i64 stp, .int .i64 bnd, .bool lst, .int .u32 lnk, .int .i64 (n : Nat)] 52)) := (Below.refl _ _).alloc (Nat.le_refl _) _
  have hr2 := heap_alloc_new w1 (.cells #[.int .i64 k, .int .i64 idx, .int .i64 len, .int .i64 stp, .int .i64 bnd, .bool lst, .int .u32 lnk, .int .i64 (n : Nat)] 52)
  have hbw2 := hbw1.trans (hb2.mono hbw1.size)
  have hrow2 := (hb2.block w.heap.size hlt1).trans hrow1
  have hlt1w := hlt1
  clear hb hrow hb1 hbw1 hrow1 hb2 hlt1 HG
  have k7 : (w1.alloc (.cells #[.int .i64 k, .int .i64 idx, .int .i64 len, .int .i64 stp, .int .i64 bnd, .bool lst, .int .u32 lnk, .int .i64 (n : Nat)] 52)).cell? ⟨w1.heap.size, 7, none⟩ = some (.int .i64 (n : Nat)) := by rw [cell_of_row _ _ _ _ _ _ hr2]; rfl
  have hlt2 : w.heap.size < (w1.alloc (.cells #[.int .i64 k, .int .i64 idx, .int .i64 len, .int .i64 stp, .int .i64 bnd, .bool lst, .int .u32 lnk, .int .i64 (n : Nat)] 52)).heap.size := (Array.getElem?_eq_some_iff.1 hrow2).1
  have hlw := hl.below hbw2
  have htw := ht.keep hbw2 ht.lt
  have hls : SeesB (w1.alloc (.cells #[.int .i64 k, .int .i64 idx, .int .i64 len, .int .i64 stp, .int .i64 bnd, .bool lst, .int .u32 lnk, .int .i64 (n : Nat)] 52)) (some a) (l.take (32 + n)) := by unfold SeesB; rw [List.map_take]; exact Sees.take hlw (32 + n)
  have hld : SeesB (w1.alloc (.cells #[.int .i64 k, .int .i64 idx, .int .i64 len, .int .i64 stp, .int .i64 bnd, .bool lst, .int .u32 lnk, .int .i64 (n : Nat)] 52)) (some (a.add (32 + n))) (l.drop (32 + n)) := by have := hlw.cutTo (32 + n) (l.length - (32 + n)); rwa [List.take_of_length_le (by simp)] at this
  go_wp2_with fail
  generalize w1.alloc (.cells #[.int .i64 k, .int .i64 idx, .int .i64 len, .int .i64 stp, .int .i64 bnd, .bool lst, .int .u32 lnk, .int .i64 (n : Nat)] 52) = w2 at *
  refine (HSUM.out _ htw hls).mono ?_
  rintro e w3 ⟨rfl, rfl⟩
  go_wp2_with fail
  have hlt1 : w1.heap.size < w2.heap.size := (Array.getElem?_eq_some_iff.1 hr2).1
  refine (HTK.out _ hld).mono ?_
  rintro e w3 ⟨g, rfl, hg, hT3, hb3⟩
  have hbw3 := hbw2.trans (hb3.mono hbw2.size)
  have hrow3 := (hb3.block w.heap.size hlt2).trans hrow2
  have hr3 := (hb3.block w1.heap.size hlt1).trans hr2
  have hlt3 := Nat.lt_of_lt_of_le hlt2 hb3.size
  have hlt13 := Nat.lt_of_lt_of_le hlt1 hb3.size
  clear hb3 hbw2 hrow2 hr2 k7 hld hls htw hlw HTK HSUM
  go_wp2_with fail
  refine (HU.out g _ hT3).mono ?_
  rintro e w4 ⟨rfl, hT4, hB4⟩
  have hbw4 := But.below hbw3 hB4 (fun b h => by have h2 : b = g := h; omega) hbw3.size
  have hrow4 := (hB4.block w.heap.size hlt3 (fun h => by have h2 : w.heap.size = g := h; omega)).trans hrow3
  have hr4 := (hB4.block w1.heap.size hlt13 (fun h => by have h2 : w1.heap.size = g := h; omega)).trans hr3
  have hlt4 := Nat.lt_of_lt_of_le hlt3 hB4.size
  have hlt14 := Nat.lt_of_lt_of_le hlt13 hB4.size
  clear hT3 hB4 hT4 hbw3 hrow3 hr3 HU hlt3 hlt13 hg
  by_cases heq : S = su
  · have dd : ((S : Int) != (su : Int)) = false := by rw [heq]; simp
    obtain rfl := hmid2.out heq
    have hl4 := hl.below hbw4
    have hlp : SeesB w4.drew (some { block := a.block, off := a.off + 32 }) p := by rw [hp]; exact hl4.cutTo 32 n
    have hr5 : w4.drew.heap[w1.heap.size]? = some (.cells #[.int .i64 k, .int .i64 idx, .int .i64 len, .int .i64 stp, .int .i64 bnd, .bool lst, .int .u32 lnk, .int .i64 (n : Nat)] 52 (0, 0)) := hr4
    have hrow5 : w4.drew.heap[w.heap.size]? = some (.cells #[.int .i64 0, .int .i64 0, .int .i64 0, .int .i64 0, .int .i64 0, .bool false, .int .u32 0, .int .i64 0] 52 (0, 0)) := hrow4
    have hbw5 : Below w.heap.size w w4.drew := hbw4.drew
    have hlt5 : w.heap.size < w4.drew.heap.size := hlt4
    have hlt15 : w1.heap.size < w4.drew.heap.size := hlt14
    have hw1 : w.heap.size ≤ w1.heap.size := Nat.le_of_lt hlt1w
    clear heq hmid hmid2 hp hl4 hl
    go_wp2_with fail
    refine wp_region_held_drew (S := fun w' => w'.heap[w1.heap.size]? = some (.cells #[.int .i64 k, .int .i64 idx, .int .i64 len, .int .i64 stp, .int .i64 bnd, .bool lst, .int .u32 lnk, .int .i64 (n : Nat)] 52 (0, 0))) (by kernel_rfl) hr5 (fun hHeld => ?_)
    refine wpAnyH_takeD (i := 0) (d := some 45) (v := (.agg #[.int .i64 k, .int .i64 idx, .int .i64 len, .int .i64 stp, .int .i64 bnd, .bool lst, .int .u32 lnk, .int .i64 (n : Nat)])) rfl rfl (by kernel_rfl) (by kernel_rfl) (by kernel_rfl) (fun _ _ _ h => h) (Or.inl ⟨by rfl, ?hy0⟩) hHeld ?rest0
    case hy0 =>
      intro wS hS
      exact run_load_rowop 52 (.tmp 8) rfl w1.heap.size (by rfl) #[.int .i64 k, .int .i64 idx, .int .i64 len, .int .i64 stp, .int .i64 bnd, .bool lst, .int .u32 lnk, .int .i64 (n : Nat)] _ _ hS _ Tryd.underlying52 rfl (by kernel_rfl)
    (try simp only [Act.put, List.setIfInBounds_toArray, List.set_cons_zero, List.set_cons_succ])
    refine wpAnyH_takeD (i := 1) (d := some 46) (v := ?v1) rfl rfl (by kernel_rfl) (by kernel_rfl) (by kernel_rfl) (fun _ _ _ h => h) (Or.inl ⟨by rfl, ?hy1⟩) hHeld ?rest1
    case hy1 =>
      intro wS hS
      go_simp
      all_goals with_reducible rfl
    (try simp only [Act.put, List.setIfInBounds_toArray, List.set_cons_zero, List.set_cons_succ])
    refine wpAnyH_takeD (i := 2) (d := some 47) (v := ?v2) rfl rfl (by kernel_rfl) (by kernel_rfl) (by kernel_rfl) (fun _ _ _ h => h) (Or.inl ⟨by rfl, ?hy2⟩) hHeld ?rest2
    case hy2 =>
      intro wS hS
      go_simp
      all_goals with_reducible rfl
    (try simp only [Act.put, List.setIfInBounds_toArray, List.set_cons_zero, List.set_cons_succ])
    refine wpAnyH_takeD (i := 3) (d := some 48) (v := ?v3) rfl rfl (by kernel_rfl) (by kernel_rfl) (by kernel_rfl) (fun _ _ _ h => h) (Or.inl ⟨by rfl, ?hy3⟩) hHeld ?rest3
    case hy3 =>
      intro wS hS
      go_simp
      all_goals with_reducible rfl
    (try simp only [Act.put, List.setIfInBounds_toArray, List.set_cons_zero, List.set_cons_succ])
    refine wpAnyH_takeD (i := 5) (d := some 50) (v := ?v5) rfl rfl (by kernel_rfl) (by kernel_rfl) (by kernel_rfl) (fun _ _ _ h => h) (Or.inl ⟨by rfl, ?hy5⟩) hHeld ?rest5
    case hy5 =>
      intro wS hS
      go_simp
      all_goals with_reducible rfl
    (try simp only [Act.put, List.setIfInBounds_toArray, List.set_cons_zero, List.set_cons_succ])
    refine wpAnyH_takeD (i := 6) (d := some 51) (v := ?v6) rfl rfl (by kernel_rfl) (by kernel_rfl) (by kernel_rfl) (fun _ _ _ h => h) (Or.inl ⟨by rfl, ?hy6⟩) hHeld ?rest6
    case hy6 =>
      intro wS hS
      have k7 : wS.cell? ⟨w1.heap.size, 7, none⟩ = some (.int .i64 (n : Nat)) := by rw [cell_of_row _ _ _ _ _ _ hS]; rfl
      go_simp
      all_goals with_reducible rfl
    (try simp only [Act.put, List.setIfInBounds_toArray, List.set_cons_zero, List.set_cons_succ])
    refine wpAnyH_takeD (i := 8) (d := some 53) (v := ?v8) rfl rfl (by kernel_rfl) (by kernel_rfl) (by kernel_rfl) (fun _ _ _ h => h) (Or.inl ⟨by rfl, ?hy8⟩) hHeld ?rest8
    case hy8 =>
      intro wS hS
      go_simp
      all_goals with_reducible rfl
    (try simp only [Act.put, List.setIfInBounds_toArray, List.set_cons_zero, List.set_cons_succ])
    refine wpAnyH_ready (rs := [4]) (by kernel_rfl) (by simp) (AllReadyH.cons rfl (fun K hK => ?_) AllReadyH.nil)
    rw [if_pos (by rfl)]
    go_simp
    rw [show (32 + (n : Int)).toNat - 32 = n by omega]
    refine (HTR.out _ hlp).mono ?_
    rintro e w6 ⟨g2, rfl, hg2, hT6, hb6⟩
    have hbw6 := hbw5.trans (hb6.mono hbw5.size)
    have hrow6 := (hb6.block w.heap.size hlt5).trans hrow5
    have hr6 := (hb6.block w1.heap.size hlt15).trans hr5
    have hlt6 := Nat.lt_of_lt_of_le hlt5 hb6.size
    have hlt16 := Nat.lt_of_lt_of_le hlt15 hb6.size
    go_wp2_with fail
    refine hK.out _ _ hr6 (fun hHeld => ?_)
    clear hK K
    (try simp only [Act.put, List.setIfInBounds_toArray, List.set_cons_zero, List.set_cons_succ])
    refine wpAnyH_ready (rs := [7]) (by kernel_rfl) (by simp) (AllReadyH.cons rfl (fun K hK => ?_) AllReadyH.nil)
    rw [if_pos (by rfl)]
    go_simp
    refine (HRA.out g2 _ hT6).mono ?_
    rintro e w7 ⟨A7, c7, rfl, hs7, hA7, hp7, hc7, hT7, hB7⟩
    have hbw7 := But.below hbw6 hB7 (fun b h => by have h2 : b = g2 := h; omega) hbw6.size
    have hrow7 := (hB7.block w.heap.size hlt6 (fun h => by have h2 : w.heap.size = g2 := h; omega)).trans hrow6
    have hr7 := (hB7.block w1.heap.size hlt16 (fun h => by have h2 : w1.heap.size = g2 := h; omega)).trans hr6
    have hs8 := hs7.setRowFar w.heap.size #[.int .i64 k, .int .i64 idx, .int .i64 len, .int .i64 stp, .int .i64 bnd, .bool lst, .int .u32 lnk, .int .i64 (n : Nat)] (fun a ha => by have := (hA7 a ha).1; omega)
    have hrow8 := setRow_heap w7 w.heap.size _ #[.int .i64 k, .int .i64 idx, .int .i64 len, .int .i64 stp, .int .i64 bnd, .bool lst, .int .u32 lnk, .int .i64 (n : Nat)] _ _ hrow7
    have hr8 := (setRow_other w7 w.heap.size w1.heap.size #[.int .i64 k, .int .i64 idx, .int .i64 len, .int .i64 stp, .int .i64 bnd, .bool lst, .int .u32 lnk, .int .i64 (n : Nat)] (by omega)).trans hr7
    have hbw8 := below_setRow hbw7 (Nat.le_refl _) #[.int .i64 k, .int .i64 idx, .int .i64 len, .int .i64 stp, .int .i64 bnd, .bool lst, .int .u32 lnk, .int .i64 (n : Nat)]
    simp only at hp7 hs7 hs8
    go_wp2_with fail
    refine hK.out _ _ hr7 (fun hHeld => ?_)
    clear hK K
    (try simp only [Act.put, List.setIfInBounds_toArray, List.set_cons_zero, List.set_cons_succ])
    refine wpAnyH_ready (rs := [9]) (by kernel_rfl) (by simp) (AllReadyH.cons rfl (fun K hK => ?_) AllReadyH.nil)
    rw [if_pos (by rfl)]
    refine wp_store_row 52 (.tmp 4) (.tmp 45) rfl rfl w.heap.size rfl #[.int .i64 k, .int .i64 idx, .int .i64 len, .int .i64 stp, .int .i64 bnd, .bool lst, .int .u32 lnk, .int .i64 (n : Nat)] rfl 52 #[.int .i64 0, .int .i64 0, .int .i64 0, .int .i64 0, .int .i64 0, .bool false, .int .u32 0, .int .i64 0] hrow7 (by kernel_rfl) rfl (by simp [Value.oneCell']) ?_
    refine hK.out _ _ hr8 (fun hHeld => ?_)
    clear hK K
    (try simp only [Act.put, List.setIfInBounds_toArray, List.set_cons_zero, List.set_cons_succ])
    refine wpAnyH_takeD (i := 10) (d := some 5) (v := ?v10) rfl rfl (by kernel_rfl) (by kernel_rfl) (by kernel_rfl) (fun _ _ _ h => h) (Or.inl ⟨by rfl, ?hy10⟩) hHeld ?rest10
    case hy10 =>
      intro wS hS
      go_simp
      all_goals with_reducible rfl
    (try simp only [Act.put, List.setIfInBounds_toArray, List.set_cons_zero, List.set_cons_succ])
    refine wpAnyH_takeD (i := 11) (d := some 6) (v := ?v11) rfl rfl (by kernel_rfl) (by kernel_rfl) (by kernel_rfl) (fun _ _ _ h => h) (Or.inl ⟨by rfl, ?hy11⟩) hHeld ?rest11
    case hy11 =>
      intro wS hS
      go_simp
      all_goals with_reducible rfl
    (try simp only [Act.put, List.setIfInBounds_toArray, List.set_cons_zero, List.set_cons_succ])
    refine wpAnyH_takeD (i := 12) (d := some 7) (v := ?v12) rfl rfl (by kernel_rfl) (by kernel_rfl) (by kernel_rfl) (fun _ _ _ h => h) (Or.inl ⟨by rfl, ?hy12⟩) hHeld ?rest12
    case hy12 =>
      intro wS hS
      go_simp
      all_goals with_reducible rfl
    (try simp only [Act.put, List.setIfInBounds_toArray, List.set_cons_zero, List.set_cons_succ])
    refine wpAnyH_done (by kernel_rfl) ?_ _
    go_wp2_with fail
    exact bodyPost_ret (v := .tuple #[.agg #[.int .i64 k, .int .i64 idx, .int .i64 len, .int .i64 stp, .int .i64 bnd, .bool lst, .int .u32 lnk, .int .i64 (n : Nat)], .slice A7 p.length c7, .int .u32 (S : Int), .int .i64 0]) (results_row_tmp3 (fn := Tryd.f41) (p := 4) (u := 5) (x := 6) (y := 7) (ty := 52) rfl _ _ w.heap.size _ _ _ _ rfl hrow8 Tryd.underlying52 rfl (by kernel_rfl)) rfl ⟨A7, c7, rfl, hs8, hp7, hc7, hbw8, fun a ha => by have := (hA7 a ha).1; omega⟩
  · have dd : ((S : Int) != (su : Int)) = true := by simp; omega
    obtain rfl := hmid.out heq
    clear heq hmid hmid2
    go_wp2_with first | (refine wpList_store_row rfl 52 (.tmp 4) (.tmp 44) rfl rfl w.heap.size rfl #[.int .i64 0, .int .i64 0, .int .i64 0, .int .i64 0, .int .i64 0, .bool false, .int .u32 0, .int .i64 0] rfl 52 #[.int .i64 0, .int .i64 0, .int .i64 0, .int .i64 0, .int .i64 0, .bool false, .int .u32 0, .int .i64 0] hrow4 (by kernel_rfl) rfl (by simp [Value.oneCell']) ?_)
    exact bodyPost_ret (v := .tuple #[.agg #[.int .i64 0, .int .i64 0, .int .i64 0, .int .i64 0, .int .i64 0, .bool false, .int .u32 0, .int .i64 0], .slice none 0 0, .int .u32 0, .int .i64 33]) (results_row_tmp3 (fn := Tryd.f41) (p := 4) (u := 5) (x := 6) (y := 7) (ty := 52) rfl _ _ w.heap.size _ _ _ _ rfl (setRow_heap _ _ _ _ _ _ hrow4) Tryd.underlying52 rfl (by kernel_rfl)) rfl ⟨none, 0, rfl, Sees.nil _ _, Nat.le_refl _, Nat.zero_le _, below_setRow hbw4 (Nat.le_refl _) _, fun a ha => by cases ha⟩
theorem hopenF_any (t : Nat) (A : Option Addr) (c : Nat) (l : List UInt8) (w : World) (hl : SeesB w A l) (hc : l.length ≤ c) (hcm : c ≤ maxLen) (hlen : l.length ≤ 140737488355328) (ht : Tab w t) :
    Calls Tryd.prog 41 #[.pointer (some ⟨t, 0, none⟩), .slice A l.length c] w (OpenPostF w (openH l)) := by
  by_cases he : (getH l).1 = 0
  · exact hopenF_ok t A c l w ht hl hc hcm hlen he
  · rw [show openH l = ((getH l).1, HeadV.zero, [], 0) by unfold openH; rw [if_pos he]]
    exact hopenF_err t A c l w ht hl hc hcm hlen he
end Go.Proofs.YtkmhmehofipehaaDoor
/- The bytes of a head, plainly. -/
namespace Go.Proofs.YtkmhmehofipehaaDoor
set_option linter.unusedVariables false
open Go.RowKit
def headFour (k : Nat) (lst : Bool) : List UInt8 := [222, 92, UInt8.ofNat k, if lst then 1 else 0]
def sixB (k : Nat) (lst : Bool) (idx len stp bnd lnk siz : Nat) (i : Nat) : List UInt8 := headFour k lst ++ (([idx, len, stp, bnd, lnk, siz] : List Nat).take i).flatMap fun x => bytesLE x 4
def headHead (k : Nat) (lst : Bool) (idx len stp bnd lnk siz : Nat) : List UInt8 := sixB k lst idx len stp bnd lnk siz 6
theorem headHead_len (k : Nat) (lst : Bool) (idx len stp bnd lnk siz : Nat) : (headHead k lst idx len stp bnd lnk siz).length = 28 := by simp [headHead, sixB, headFour, bytesLE_length]
theorem sealed_len (l : List UInt8) : (sealed l).length = l.length + 4 := by unfold sealed; rw [List.length_append, bytesLE_length]
theorem byteV_natH (k : Nat) (h : k < 256) : byteV (UInt8.ofNat k) = .int .u8 (k : Int) := by
  rw [byteV, UInt8.toNat_ofNat', Nat.mod_eq_of_lt h]
end Go.Proofs.YtkmhmehofipehaaDoor
/- What is sealed, opened; a block with a byte changed: in plain Lean. -/
namespace Go.Proofs.YtkmhmehofipehaaDoor
set_option linter.unusedVariables false
open Go.RowKit
theorem fldH_skip (X R : List UInt8) (p q n : Nat) (h : X.length = p) : fldH (X ++ R) (p + q) n = fldH R q n := by
  subst h; unfold fldH; rw [← List.drop_drop, List.drop_left]
theorem fldH_head (X R : List UInt8) (n : Nat) (h : X.length = n) : fldH (X ++ R) 0 n = valLE X := by
  subst h; unfold fldH; rw [List.drop_zero, List.take_left]
def lastB (lst : Bool) : UInt8 := if lst then 1 else 0
/-- a block, its fields apart -/
def blockB (K : Nat) (lst : Bool) (IX LE ST BN LK n s28 sA : Nat) (P M : List UInt8) : List UInt8 :=
  [222, 92] ++ ([UInt8.ofNat K] ++ ([lastB lst] ++ (bytesLE IX 4 ++ (bytesLE LE 4 ++ (bytesLE ST 4 ++ (bytesLE BN 4 ++ (bytesLE LK 4 ++ (bytesLE n 4 ++ (bytesLE s28 4 ++ (P ++ (bytesLE sA 4 ++ M)))))))))))
theorem block_is (K : Nat) (lst : Bool) (IX LE ST BN LK : Nat) (P M : List UInt8) :
    sealed (sealed (headHead K lst IX LE ST BN LK P.length) ++ P) ++ M = blockB K lst IX LE ST BN LK P.length (sumI (headHead K lst IX LE ST BN LK P.length)).toNat (sumI (sealed (headHead K lst IX LE ST BN LK P.length) ++ P)).toNat P M := by
  obtain ⟨z, hz⟩ : ∃ z, z = (sumI (sealed (headHead K lst IX LE ST BN LK P.length) ++ P)).toNat := ⟨_, rfl⟩
  rw [sealed, ← hz, sealed]
  simp [blockB, headHead, sixB, headFour, lastB, List.append_assoc]
theorem le4 (v : Nat) (h : v < 4294967296) : valLE (bytesLE v 4) = v := valLE_of v 4 h
section
variable (K : Nat) (lst : Bool) (IX LE ST BN LK n s28 sA : Nat) (P M : List UInt8)
theorem bl2 (h : K < 256) : fldH (blockB K lst IX LE ST BN LK n s28 sA P M) 2 1 = K := by
  unfold blockB
  rw [show 2 = 2 + 0 from rfl, fldH_skip _ _ 2 0 _ rfl, fldH_head _ _ 1 rfl]
  simp [valLE, Nat.mod_eq_of_lt h]
theorem bl3 : fldH (blockB K lst IX LE ST BN LK n s28 sA P M) 3 1 = if lst then 1 else 0 := by
  unfold blockB
  rw [show 3 = 2 + (1 + 0) from rfl, fldH_skip _ _ 2 _ _ rfl, fldH_skip _ _ 1 _ _ rfl, fldH_head _ _ 1 rfl]
  cases lst <;> rfl
theorem bl4 (h : IX < 4294967296) : fldH (blockB K lst IX LE ST BN LK n s28 sA P M) 4 4 = IX := by
  unfold blockB
  rw [show fldH _ 4 4 = fldH _ (2 + (1 + (1 + 0))) 4 from rfl, fldH_skip _ _ 2 _ _ rfl, fldH_skip _ _ 1 _ _ rfl, fldH_skip _ _ 1 _ _ rfl, fldH_head _ _ _ (bytesLE_length _ _), le4 _ h]
theorem bl8 (h : LE < 4294967296) : fldH (blockB K lst IX LE ST BN LK n s28 sA P M) 8 4 = LE := by
  unfold blockB
  rw [show fldH _ 8 4 = fldH _ (2 + (1 + (1 + (4 + 0)))) 4 from rfl, fldH_skip _ _ 2 _ _ rfl, fldH_skip _ _ 1 _ _ rfl, fldH_skip _ _ 1 _ _ rfl, fldH_skip _ _ 4 _ _ (bytesLE_length _ _), fldH_head _ _ _ (bytesLE_length _ _), le4 _ h]
theorem bl12 (h : ST < 4294967296) : fldH (blockB K lst IX LE ST BN LK n s28 sA P M) 12 4 = ST := by
  unfold blockB
  rw [show fldH _ 12 4 = fldH _ (2 + (1 + (1 + (4 + (4 + 0))))) 4 from rfl, fldH_skip _ _ 2 _ _ rfl, fldH_skip _ _ 1 _ _ rfl, fldH_skip _ _ 1 _ _ rfl, fldH_skip _ _ 4 _ _ (bytesLE_length _ _), fldH_skip _ _ 4 _ _ (bytesLE_length _ _), fldH_head _ _ _ (bytesLE_length _ _), le4 _ h]
theorem bl16 (h : BN < 4294967296) : fldH (blockB K lst IX LE ST BN LK n s28 sA P M) 16 4 = BN := by
  unfold blockB
  rw [show fldH _ 16 4 = fldH _ (2 + (1 + (1 + (4 + (4 + (4 + 0)))))) 4 from rfl, fldH_skip _ _ 2 _ _ rfl, fldH_skip _ _ 1 _ _ rfl, fldH_skip _ _ 1 _ _ rfl, fldH_skip _ _ 4 _ _ (bytesLE_length _ _), fldH_skip _ _ 4 _ _ (bytesLE_length _ _), fldH_skip _ _ 4 _ _ (bytesLE_length _ _), fldH_head _ _ _ (bytesLE_length _ _), le4 _ h]
theorem bl20 (h : LK < 4294967296) : fldH (blockB K lst IX LE ST BN LK n s28 sA P M) 20 4 = LK := by
  unfold blockB
  rw [show fldH _ 20 4 = fldH _ (2 + (1 + (1 + (4 + (4 + (4 + (4 + 0))))))) 4 from rfl, fldH_skip _ _ 2 _ _ rfl, fldH_skip _ _ 1 _ _ rfl, fldH_skip _ _ 1 _ _ rfl, fldH_skip _ _ 4 _ _ (bytesLE_length _ _), fldH_skip _ _ 4 _ _ (bytesLE_length _ _), fldH_skip _ _ 4 _ _ (bytesLE_length _ _), fldH_skip _ _ 4 _ _ (bytesLE_length _ _), fldH_head _ _ _ (bytesLE_length _ _), le4 _ h]
theorem bl24 (h : n < 4294967296) : fldH (blockB K lst IX LE ST BN LK n s28 sA P M) 24 4 = n := by
  unfold blockB
  rw [show fldH _ 24 4 = fldH _ (2 + (1 + (1 + (4 + (4 + (4 + (4 + (4 + 0)))))))) 4 from rfl, fldH_skip _ _ 2 _ _ rfl, fldH_skip _ _ 1 _ _ rfl, fldH_skip _ _ 1 _ _ rfl, fldH_skip _ _ 4 _ _ (bytesLE_length _ _), fldH_skip _ _ 4 _ _ (bytesLE_length _ _), fldH_skip _ _ 4 _ _ (bytesLE_length _ _), fldH_skip _ _ 4 _ _ (bytesLE_length _ _), fldH_skip _ _ 4 _ _ (bytesLE_length _ _), fldH_head _ _ _ (bytesLE_length _ _), le4 _ h]
theorem bl_starts : startsH (blockB K lst IX LE ST BN LK n s28 sA P M) = true := by simp [startsH, blockB]
end
theorem openH_sealed (K IX LE ST BN LK : Nat) (lst : Bool) (P M : List UInt8) (hk : K < 256 ∧ IX < 4294967296 ∧ LE < 4294967296 ∧ ST < 4294967296 ∧ BN < 4294967296 ∧ LK < 4294967296 ∧ P.length < 4294967296) (hr : rightH K IX LE ST BN lst LK (P.length : Nat) = true) :
    getH (sealed (sealed (headHead K lst IX LE ST BN LK P.length) ++ P) ++ M) = (0, ⟨K, IX, LE, ST, BN, lst, LK, (P.length : Nat)⟩) ∧
    openH (sealed (sealed (headHead K lst IX LE ST BN LK P.length) ++ P) ++ M) = (0, ⟨K, IX, LE, ST, BN, lst, LK, (P.length : Nat)⟩, P, sumI (sealed (headHead K lst IX LE ST BN LK P.length) ++ P)) ∧
    fldH (sealed (sealed (headHead K lst IX LE ST BN LK P.length) ++ P) ++ M) 24 4 = P.length := by
  obtain ⟨h1, h2, h3, h4, h5, h6, h7⟩ := hk
  obtain ⟨G, hG⟩ : ∃ G, G = headHead K lst IX LE ST BN LK P.length := ⟨_, rfl⟩
  have hGl : G.length = 28 := by rw [hG]; exact headHead_len ..
  have hSl : (sealed G ++ P).length = 32 + P.length := by rw [List.length_append, sealed_len, hGl]
  obtain ⟨l, hl⟩ : ∃ l, l = sealed (sealed G ++ P) ++ M := ⟨_, rfl⟩
  have hb := block_is K lst IX LE ST BN LK P M
  rw [← hG, ← hl] at hb
  rw [← hG, ← hl]
  have hlen : l.length = 36 + P.length + M.length := by rw [hl, List.length_append, sealed_len, hSl]; omega
  have t28 : l.take 28 = G := by
    rw [hl]; unfold sealed; simp only [List.append_assoc]; exact List.take_left' hGl
  have f28 : fldH l 28 4 = (sumI G).toNat := by
    rw [hl]; unfold sealed; simp only [List.append_assoc]
    rw [show fldH (G ++ _) 28 4 = fldH (G ++ _) (28 + 0) 4 from rfl, fldH_skip _ _ 28 _ _ hGl, fldH_head _ _ _ (bytesLE_length _ _), le4 _ (by have := sumI_range G; omega)]
  have tA : l.take (32 + P.length) = sealed G ++ P := by
    rw [hl]; rw [sealed, List.append_assoc]; exact List.take_left' hSl
  have fA : fldH l (32 + P.length) 4 = (sumI (sealed G ++ P)).toNat := by
    rw [hl]; rw [sealed, List.append_assoc]
    rw [show fldH _ (32 + P.length) 4 = fldH _ (32 + P.length + 0) 4 from rfl, fldH_skip _ _ _ _ _ hSl, fldH_head _ _ _ (bytesLE_length _ _), le4 _ (by have := sumI_range (sealed G ++ P); omega)]
  have dP : (l.drop 32).take P.length = P := by
    rw [hl, sealed, List.append_assoc, List.append_assoc]
    exact fld_at (sealed G) P _ 32 P.length (by rw [sealed_len, hGl]) rfl
  have f2 : fldH l 2 1 = K := by rw [hb]; exact bl2 _ _ _ _ _ _ _ _ _ _ _ _ h1
  have f3 : fldH l 3 1 = if lst then 1 else 0 := by rw [hb]; exact bl3 ..
  have f4 : fldH l 4 4 = IX := by rw [hb]; exact bl4 _ _ _ _ _ _ _ _ _ _ _ _ h2
  have f8 : fldH l 8 4 = LE := by rw [hb]; exact bl8 _ _ _ _ _ _ _ _ _ _ _ _ h3
  have f12 : fldH l 12 4 = ST := by rw [hb]; exact bl12 _ _ _ _ _ _ _ _ _ _ _ _ h4
  have f16 : fldH l 16 4 = BN := by rw [hb]; exact bl16 _ _ _ _ _ _ _ _ _ _ _ _ h5
  have f20 : fldH l 20 4 = LK := by rw [hb]; exact bl20 _ _ _ _ _ _ _ _ _ _ _ _ h6
  have f24 : fldH l 24 4 = P.length := by rw [hb]; exact bl24 _ _ _ _ _ _ _ _ _ _ _ _ h7
  have hst : startsH l = true := by rw [hb]; exact bl_starts ..
  have hl3 : (fldH l 3 1 == 1) = lst := by rw [f3]; cases lst <;> rfl
  have hl3' : decide (fldH l 3 1 ≤ 1) = true := by rw [f3]; cases lst <;> rfl
  have hok : okH l = true := by unfold okH; rw [hl3, hl3', f2, f4, f8, f12, f16, f20, f24, hr]; rfl
  have hsd : saidH l = ⟨K, IX, LE, ST, BN, lst, LK, (P.length : Nat)⟩ := by unfold saidH; rw [hl3, f2, f4, f8, f12, f16, f20, f24]
  have hget : getH l = (0, ⟨K, IX, LE, ST, BN, lst, LK, (P.length : Nat)⟩) := by
    unfold getH
    rw [if_neg (by rw [hst]; simp), if_neg (by omega), if_neg (by rw [t28, f28]; have := sumI_range G; omega), if_neg (by rw [hok]; simp), hsd]
  refine ⟨hget, ?_, f24⟩
  unfold openH
  rw [hget, f24, tA, fA, dP, if_neg (by simp), if_neg (by omega), if_neg (by have := sumI_range (sealed G ++ P); omega)]
theorem valLE_inj {a b : List UInt8} (hl : a.length = b.length) (h : valLE a = valLE b) : a = b := by
  rw [← bytesLE_val a, ← bytesLE_val b, h, hl]
theorem fldH_set (l : List UInt8) (i p n : Nat) (y : UInt8) (h : p + n ≤ i ∨ i < p) : fldH (l.set i y) p n = fldH l p n := by
  unfold fldH
  rcases h with h | h
  · rw [List.drop_set, if_neg (by omega), List.take_set_of_le (by omega)]
  · rw [List.drop_set_of_lt h]
theorem sums_change (l : List UInt8) (m i : Nat) (y : UInt8) (hl : m + 4 ≤ l.length) (hi : i < m + 4) (h : sumI (l.take m) = (fldH l m 4 : Int)) (hy : y ≠ l[i]'(by omega)) : sumI ((l.set i y).take m) ≠ (fldH (l.set i y) m 4 : Int) := by
  by_cases him : i < m
  · rw [fldH_set _ _ _ _ _ (.inr him), ← h, List.take_set]
    exact sumI_change (l.take m) i (by rw [List.length_take]; omega) y (by rw [List.getElem_take]; exact hy)
  · rw [List.take_set_of_le (by omega), h]
    intro he
    have h1 : fldH l m 4 = fldH (l.set i y) m 4 := by omega
    unfold fldH at h1
    have h2 := valLE_inj (by simp) h1
    have h3 : ((l.drop m).take 4)[i - m]? = (((l.set i y).drop m).take 4)[i - m]? := by rw [← h2]
    rw [List.getElem?_take_of_lt (by omega), List.getElem?_take_of_lt (by omega), List.getElem?_drop, List.getElem?_drop, show m + (i - m) = i by omega, List.getElem?_set_self (by omega), List.getElem?_eq_getElem (by omega)] at h3
    injection h3 with h3
    exact hy h3.symm
theorem getH_set (l : List UInt8) (i : Nat) (y : UInt8) (hi : 32 ≤ i) : getH (l.set i y) = getH l := by
  have hs : startsH (l.set i y) = startsH l := by unfold startsH; rw [List.getElem?_set_ne (by omega), List.getElem?_set_ne (by omega)]
  have hok : okH (l.set i y) = okH l := by
    unfold okH
    rw [fldH_set _ _ 3 1 _ (.inl (by omega)), fldH_set _ _ 2 1 _ (.inl (by omega)), fldH_set _ _ 4 4 _ (.inl (by omega)), fldH_set _ _ 8 4 _ (.inl (by omega)), fldH_set _ _ 12 4 _ (.inl (by omega)), fldH_set _ _ 16 4 _ (.inl (by omega)), fldH_set _ _ 20 4 _ (.inl (by omega)), fldH_set _ _ 24 4 _ (.inl (by omega))]
  have hsd : saidH (l.set i y) = saidH l := by
    unfold saidH
    rw [fldH_set _ _ 3 1 _ (.inl (by omega)), fldH_set _ _ 2 1 _ (.inl (by omega)), fldH_set _ _ 4 4 _ (.inl (by omega)), fldH_set _ _ 8 4 _ (.inl (by omega)), fldH_set _ _ 12 4 _ (.inl (by omega)), fldH_set _ _ 16 4 _ (.inl (by omega)), fldH_set _ _ 20 4 _ (.inl (by omega)), fldH_set _ _ 24 4 _ (.inl (by omega))]
  unfold getH
  rw [hs, hok, hsd, List.length_set, List.take_set_of_le (by omega), fldH_set _ _ 28 4 _ (.inl (by omega))]
/-- a byte of a block changed -/
theorem open_changed (l : List UInt8) (n i : Nat) (y : UInt8) (hlen : l.length = 36 + n) (hg : (getH l).1 = 0) (hn : fldH l 24 4 = n) (hA : sumI (l.take (32 + n)) = (fldH l (32 + n) 4 : Int)) (hi : i < l.length) (hy : y ≠ l[i]) :
    ((openH (l.set i y)).1 != 0) = true ∧ ((getH (l.set i y)).1 != 0) = decide (i < 32) := by
  obtain ⟨_, _, h28, _, _⟩ := getH_ok hg
  by_cases h32 : i < 32
  · have hne : (getH (l.set i y)).1 ≠ 0 := fun h0 => by
      obtain ⟨_, _, h28', _, _⟩ := getH_ok h0
      exact sums_change l 28 i y (by omega) (by omega) h28 hy h28'
    refine ⟨?_, by rw [decide_eq_true h32]; simpa using hne⟩
    unfold openH
    rw [if_pos hne]
    simpa using hne
  · rw [getH_set l i y (by omega), hg]
    refine ⟨?_, by rw [decide_eq_false h32]; rfl⟩
    unfold openH
    rw [getH_set l i y (by omega), if_neg (by simpa using hg), fldH_set _ _ 24 4 _ (.inl (by omega)), hn, if_neg (by rw [List.length_set]; omega), if_pos (sums_change l (32 + n) i y (by omega) (by omega) hA hy)]
    rfl
end Go.Proofs.YtkmhmehofipehaaDoor
/- How the bytes of a tail begin; the fields of a tail, as bytes say them. -/
namespace Go.Proofs.YtkmhmehofipehaaDoor
set_option linter.unusedVariables false
open Go.RowKit
/-- the number that stands at a place of bytes -/
def fldT (l : List UInt8) (p n : Nat) : Nat := valLE ((l.drop p).take n)
theorem fldT_lt (l : List UInt8) (p n : Nat) : fldT l p n < 256 ^ n := by
  have h1 := valLE_lt ((l.drop p).take n)
  have h2 : ((l.drop p).take n).length ≤ n := by simp; omega
  exact Nat.lt_of_lt_of_le h1 (Nat.pow_le_pow_right (by omega) h2)
theorem takeUt_at (p n : Nat) (T : List UInt8) (h : p + n ≤ T.length) (hn : 1 ≤ n ∧ n ≤ 8) : takeU (0, p) T (n : Int) = ((0, p + n), (T.drop p).take n) := by
  unfold takeU tnext
  rw [if_neg (by simp), if_neg (by omega), Int.toNat_natCast, if_neg (by omega)]
theorem takeU_end (p n : Nat) (T : List UInt8) (h : T.length < p + n) (hn : 1 ≤ n ∧ n ≤ 8) : takeU (0, p) T (n : Int) = ((10, p), []) := by
  unfold takeU tnext
  rw [if_neg (by simp), if_neg (by omega), Int.toNat_natCast, if_pos (by omega)]
theorem takeU_err (e : Int) (p n : Nat) (T : List UInt8) (h : e ≠ 0) : takeU (e, p) T (n : Int) = ((e, p), []) := by
  unfold takeU
  rw [if_pos h]
theorem takeRaw2_ok (T : List UInt8) (h : 2 ≤ T.length) : takeRaw (0, 0) T 2 = ((0, 2), T.take 2) := by
  unfold takeRaw tnext
  rw [if_neg (by simp), if_neg (by omega), if_neg (by show ¬ T.length - 0 < 2; omega)]; rfl
theorem takeRaw2_end (T : List UInt8) (h : T.length < 2) : takeRaw (0, 0) T 2 = ((10, 0), []) := by
  unfold takeRaw tnext
  rw [if_neg (by simp), if_neg (by omega), if_pos (by show T.length - 0 < 2; omega)]
def startsT (l : List UInt8) : Bool := (l[0]?.getD 69 == 69) && (l[1]?.getD 78 == 78)
theorem byte_is (x : UInt8) (n : Nat) (hn : n < 256) : ((x.toNat : Int) == (n : Int)) = (x == UInt8.ofNat n) := by
  have h : ((x.toNat : Int) = (n : Int)) ↔ x = UInt8.ofNat n := by
    constructor
    · intro h
      have h2 : x.toNat = n := by omega
      rw [← h2]; simp
    · intro h
      rw [h]; simp; omega
  rw [Bool.eq_iff_iff]
  simp [h]
def plcT (l : List UInt8) (n : Nat) : List Int := (List.range n).map fun i => (fldT l (14 + 5 * i) 5 : Int)
theorem plcT_succ (l : List UInt8) (n : Nat) : plcT l (n + 1) = plcT l n ++ [(fldT l (14 + 5 * n) 5 : Int)] := by
  unfold plcT; rw [List.range_succ, List.map_append]; rfl
theorem plcT_len (l : List UInt8) (n : Nat) : (plcT l n).length = n := by simp [plcT]
/-- the code, how many bytes, the count, the sum, the places -/
def getT (l : List UInt8) : Int × Int × Int × Int × List Int :=
  if startsT l = false then (31, 0, 0, 0, []) else if l.length < 14 then (10, 0, 0, 0, []) else if 16777216 < fldT l 10 4 then (60, 0, 0, 0, [])
  else if l.length < 18 + 5 * fldT l 10 4 then (10, 0, 0, 0, []) else if sumI (l.take (14 + 5 * fldT l 10 4)) ≠ (fldT l (14 + 5 * fldT l 10 4) 4 : Int) then (33, 0, 0, 0, [])
  else if rightB (fldT l 2 4 : Nat) (plcT l (fldT l 10 4)) = false then (60, 0, 0, 0, [])
  else (0, (18 + 5 * fldT l 10 4 : Nat), (fldT l 2 4 : Nat), (fldT l 6 4 : Nat), plcT l (fldT l 10 4))
def GetTPost (w : World) (r : Int × Int × Int × Int × List Int) (e : Ending) (w' : World) : Prop :=
  ∃ (A : Option Addr) (c : Nat), e = .returned (.tuple #[.agg #[.int .i64 r.2.2.1, .int .u32 r.2.2.2.1, .slice A r.2.2.2.2.length c], .int .i64 r.2.1, .int .i64 r.1]) ∧ SeesI w' A r.2.2.2.2 ∧ r.2.2.2.2.length ≤ c ∧ c ≤ maxLen ∧ Below w.heap.size w w'
/-- as GetTPost; the places lie in a row of the call's own -/
def GetTPostF (w : World) (r : Int × Int × Int × Int × List Int) (e : Ending) (w' : World) : Prop :=
  ∃ (A : Option Addr) (c : Nat), e = .returned (.tuple #[.agg #[.int .i64 r.2.2.1, .int .u32 r.2.2.2.1, .slice A r.2.2.2.2.length c], .int .i64 r.2.1, .int .i64 r.1]) ∧ SeesI w' A r.2.2.2.2 ∧ r.2.2.2.2.length ≤ c ∧ c ≤ maxLen ∧ Below w.heap.size w w' ∧ ∀ a, A = some a → w.heap.size ≤ a.block
theorem GetTPostF.post {w : World} {r : Int × Int × Int × Int × List Int} {e : Ending} {w' : World} (h : GetTPostF w r e w') : GetTPost w r e w' := by
  obtain ⟨A, c, h1, h2, h3, h4, h5, _⟩ := h
  exact ⟨A, c, h1, h2, h3, h4, h5⟩
set_option maxHeartbeats 1000000 in
theorem tstarts_any (A : Option Addr) (c : Nat) (l : List UInt8) (w : World) (hl : SeesB w A l) :
    Calls Tryd.prog 90 #[.slice A l.length c] w fun e w' => e = .returned (.bool (startsT l)) ∧ w = w' := by
  by_cases h0 : 0 < l.length
  · obtain ⟨a, rfl, ca⟩ := hl.at h0
    have ca0 : w.cell? a = some (.int .u8 (l[0].toNat : Int)) := ca
    have g0 : l[0]?.getD 69 = l[0] := by rw [List.getElem?_eq_getElem h0]; rfl
    have b0 : ((l[0].toNat : Int) == 69) = (l[0] == 69) := byte_is l[0] 69 (by omega)
    have d0 : decide ((l.length : Int) < 1) = false := decide_eq_false (by omega)
    have d0' : (0 : Int) < (l.length : Int) := by omega
    cases hx : (l[0] == 69) with
    | false =>
      rw [hx] at b0
      rw [show startsT l = false by unfold startsT; rw [g0, hx]; rfl]
      clear g0 hx ca
      go_enter Tryd.func90, Tryd.ntmps90
      go_wp2_with fail
      go_ret
      exact ⟨rfl, rfl⟩
    | true =>
      rw [hx] at b0
      by_cases h1 : 1 < l.length
      · obtain ⟨a', ha, cb⟩ := hl.at h1
        injection ha with ha
        subst ha
        have ca1 : w.cell? { block := a.block, off := a.off + 1 } = some (.int .u8 (l[1].toNat : Int)) := cb
        have g1 : l[1]?.getD 78 = l[1] := by rw [List.getElem?_eq_getElem h1]; rfl
        have b1 : ((l[1].toNat : Int) == 78) = (l[1] == 78) := byte_is l[1] 78 (by omega)
        have d1 : decide ((l.length : Int) < 2) = false := decide_eq_false (by omega)
        have d1' : (1 : Int) < (l.length : Int) := by omega
        have e : startsT l = (l[1] == 78) := by unfold startsT; rw [g0, g1, hx]; rfl
        cases hy : (l[1] == 78)
        all_goals
          rw [hy] at b1 e
          rw [e]
          clear g0 g1 hx hy e ca cb
          go_enter Tryd.func90, Tryd.ntmps90
          go_wp2_with fail
          go_ret
          exact ⟨rfl, rfl⟩
      · have d1 : decide ((l.length : Int) < 2) = true := decide_eq_true (by omega)
        have g1 : l[1]?.getD 78 = 78 := by rw [List.getElem?_eq_none (by omega)]; rfl
        rw [show startsT l = true by unfold startsT; rw [g0, g1, hx]; rfl]
        clear g0 g1 hx ca
        go_enter Tryd.func90, Tryd.ntmps90
        go_wp2_with fail
        go_ret
        exact ⟨rfl, rfl⟩
  · obtain rfl : l = [] := List.length_eq_zero_iff.1 (by omega)
    go_enter Tryd.func90, Tryd.ntmps90
    go_wp2_with fail
    go_ret
    exact ⟨rfl, rfl⟩
end Go.Proofs.YtkmhmehofipehaaDoor
/- A tail laid and read, in plain Lean: each from the other. -/
namespace Go.Proofs.YtkmhmehofipehaaDoor
set_option linter.unusedVariables false
open Go.RowKit
theorem fldT_skip (X R : List UInt8) (p q n : Nat) (h : X.length = p) : fldT (X ++ R) (p + q) n = fldT R q n := by
  subst h; unfold fldT; rw [← List.drop_drop, List.drop_left]
theorem fldT_head (X R : List UInt8) (n : Nat) (h : X.length = n) : fldT (X ++ R) 0 n = valLE X := by
  subst h; unfold fldT; rw [List.drop_zero, List.take_left]
theorem le4T (v : Nat) (h : v < 4294967296) : valLE (bytesLE v 4) = v := valLE_of v 4 h
theorem le5 (v : Nat) (h : v < 1099511627776) : valLE (bytesLE v 5) = v := valLE_of v 5 h
theorem places_at (l : List Int) (R : List UInt8) (i : Nat) (hi : i < l.length) (h : ∀ (i : Nat) (h : i < l.length), 0 ≤ l[i] ∧ l[i] < 1099511627776) : (fldT (placesB l ++ R) (5 * i) 5 : Int) = l[i] := by
  induction l generalizing i with
  | nil => simp at hi
  | cons x l ih =>
    have e : placesB (x :: l) ++ R = bytesLE x.toNat 5 ++ (placesB l ++ R) := by simp [placesB]
    rw [e]
    have hx := h 0 (by simp)
    simp only [List.getElem_cons_zero] at hx
    cases i with
    | zero =>
      rw [show 5 * 0 = 0 from rfl, fldT_head _ _ 5 (bytesLE_length _ _), le5 _ (by omega), List.getElem_cons_zero]
      omega
    | succ i =>
      rw [show 5 * (i + 1) = 5 + 5 * i by omega, fldT_skip _ _ 5 _ _ (bytesLE_length _ _), List.getElem_cons_succ]
      exact ih i (by simpa using hi) (fun j hj => by have := h (j + 1) (by simpa using hj); simpa using this)
theorem plc_places (P : List UInt8) (l : List Int) (R : List UInt8) (hP : P.length = 14) (h : ∀ (i : Nat) (h : i < l.length), 0 ≤ l[i] ∧ l[i] < 1099511627776) : plcT (P ++ (placesB l ++ R)) l.length = l := by
  apply List.ext_getElem
  · exact plcT_len _ _
  · intro i h1 h2
    have e : (plcT (P ++ (placesB l ++ R)) l.length)[i]'h1 = (fldT (P ++ (placesB l ++ R)) (14 + 5 * i) 5 : Int) := by simp [plcT]
    rw [e, fldT_skip P _ 14 _ _ hP]
    exact places_at l R i h2 h
/-- what is laid is read -/
theorem getT_put (count sum : Nat) (l : List Int) (M : List UInt8) (hc : count < 4294967296) (hs : sum < 4294967296) (hr : rightB count l = true) :
    getT (sealed (tailHead count sum l) ++ M) = ((0 : Int), (((sealed (tailHead count sum l)).length : Nat) : Int), ((count : Nat) : Int), ((sum : Nat) : Int), l) := by
  obtain ⟨_, _, hll, hpl⟩ := right_range hr
  have hHl := tailHead_len count sum l
  obtain ⟨H, hH⟩ : ∃ H, H = tailHead count sum l := ⟨_, rfl⟩
  rw [← hH] at hHl
  rw [← hH]
  obtain ⟨b, hb⟩ : ∃ b, b = sealed H ++ M := ⟨_, rfl⟩
  rw [← hb]
  have hsl : (sealed H).length = 18 + 5 * l.length := by unfold sealed; rw [List.length_append, bytesLE_length, hHl]; omega
  have hbl : b.length = 18 + 5 * l.length + M.length := by rw [hb, List.length_append, hsl]
  have e1 : b = H ++ (bytesLE (sumI H).toNat 4 ++ M) := by rw [hb]; unfold sealed; rw [List.append_assoc]
  have e2 : b = [69, 78] ++ (bytesLE count 4 ++ (bytesLE sum 4 ++ (bytesLE l.length 4 ++ (placesB l ++ (bytesLE (sumI H).toNat 4 ++ M))))) := by
    rw [e1, hH]; simp [tailHead, threeB, List.append_assoc]
  have e3 : b = threeB count sum l.length 3 ++ (placesB l ++ (bytesLE (sumI H).toNat 4 ++ M)) := by
    rw [e1]
    have : H = threeB count sum l.length 3 ++ placesB l := hH
    rw [this, List.append_assoc]
  have f2 : fldT b 2 4 = count := by
    rw [e2, show fldT _ 2 4 = fldT _ (2 + 0) 4 from rfl, fldT_skip _ _ 2 _ _ rfl, fldT_head _ _ 4 (bytesLE_length _ _), le4T _ hc]
  have f6 : fldT b 6 4 = sum := by
    rw [e2, show fldT _ 6 4 = fldT _ (2 + (4 + 0)) 4 from rfl, fldT_skip _ _ 2 _ _ rfl, fldT_skip _ _ 4 _ _ (bytesLE_length _ _), fldT_head _ _ 4 (bytesLE_length _ _), le4T _ hs]
  have f10 : fldT b 10 4 = l.length := by
    rw [e2, show fldT _ 10 4 = fldT _ (2 + (4 + (4 + 0))) 4 from rfl, fldT_skip _ _ 2 _ _ rfl, fldT_skip _ _ 4 _ _ (bytesLE_length _ _), fldT_skip _ _ 4 _ _ (bytesLE_length _ _), fldT_head _ _ 4 (bytesLE_length _ _), le4T _ (by omega)]
  have hst : startsT b = true := by rw [e2]; simp [startsT]
  have hpc : plcT b l.length = l := by rw [e3]; exact plc_places _ l _ (threeB_len _ _ _) hpl
  have hsr := sumI_range H
  have htk : b.take (14 + 5 * l.length) = H := by rw [e1]; exact List.take_left' hHl
  have hfs : fldT b (14 + 5 * l.length) 4 = (sumI H).toNat := by
    rw [e1, show fldT _ (14 + 5 * l.length) 4 = fldT (H ++ (bytesLE (sumI H).toNat 4 ++ M)) (14 + 5 * l.length + 0) 4 from rfl, fldT_skip _ _ _ _ _ hHl, fldT_head _ _ 4 (bytesLE_length _ _), le4T _ (by omega)]
  unfold getT
  rw [if_neg (by rw [hst]; simp), if_neg (by omega), f10, if_neg (by omega), if_neg (by omega), if_neg (by rw [htk, hfs]; omega), f2, f6, hpc, if_neg (by rw [hr]; simp), hsl]
theorem cut_bytes (b : List UInt8) (p n : Nat) (h : p + n ≤ b.length) : bytesLE (fldT b p n) n = (b.drop p).take n := by
  have hl : ((b.drop p).take n).length = n := by simp; omega
  have h1 := bytesLE_val ((b.drop p).take n)
  rw [hl] at h1
  exact h1
theorem take_more (b : List UInt8) (p n : Nat) : b.take (p + n) = b.take p ++ (b.drop p).take n := by
  rw [List.take_add]
theorem places_cut (b : List UInt8) (n : Nat) (h : 14 + 5 * n ≤ b.length) : b.take 14 ++ placesB (plcT b n) = b.take (14 + 5 * n) := by
  induction n with
  | zero => simp [plcT, placesB]
  | succ n ih =>
    have e : placesB (plcT b (n + 1)) = placesB (plcT b n) ++ bytesLE (fldT b (14 + 5 * n) 5) 5 := by
      rw [plcT_succ]; simp [placesB]
    rw [e, ← List.append_assoc, ih (by omega), cut_bytes b _ 5 (by omega), show 14 + 5 * (n + 1) = (14 + 5 * n) + 5 by omega]
    exact (take_more b (14 + 5 * n) 5).symm
theorem startsT_two (b : List UInt8) (h : startsT b = true) (hl : 2 ≤ b.length) : b.take 2 = [69, 78] := by
  match b, hl with
  | x :: y :: t, _ =>
    unfold startsT at h
    simp at h
    simp [h.1, h.2]
/-- what is read is laid -/
theorem put_getT (b : List UInt8) (h : (getT b).1 = 0) :
    ∃ (N cnt sm : Nat), getT b = (0, ((18 + 5 * N : Nat) : Int), (cnt : Int), (sm : Int), plcT b N) ∧ cnt < 4294967296 ∧ sm < 4294967296 ∧ 18 + 5 * N ≤ b.length ∧ N ≤ 16777216 ∧ rightB (cnt : Nat) (plcT b N) = true ∧ sealed (tailHead cnt sm (plcT b N)) = b.take (18 + 5 * N) := by
  unfold getT at h ⊢
  split at h
  · exact absurd h (by decide)
  · split at h
    · exact absurd h (by decide)
    · split at h
      · exact absurd h (by decide)
      · split at h
        · exact absurd h (by decide)
        · split at h
          · exact absurd h (by decide)
          · split at h
            · exact absurd h (by decide)
            · rename_i h1 h2 h3 h4 h5 h6
              rw [if_neg h1, if_neg h2, if_neg h3, if_neg h4, if_neg h5, if_neg h6]
              refine ⟨fldT b 10 4, fldT b 2 4, fldT b 6 4, rfl, fldT_lt b 2 4, fldT_lt b 6 4, by omega, by omega, by simpa using h6, ?_⟩
              have hst : startsT b = true := by simpa using h1
              have hs : sumI (b.take (14 + 5 * fldT b 10 4)) = (fldT b (14 + 5 * fldT b 10 4) 4 : Int) := by simpa using h5
              have e14 : threeB (fldT b 2 4) (fldT b 6 4) (plcT b (fldT b 10 4)).length 3 = b.take 14 := by
                rw [plcT_len, show (14 : Nat) = 2 + 4 + 4 + 4 from rfl, take_more b (2 + 4 + 4) 4, take_more b (2 + 4) 4, take_more b 2 4, ← cut_bytes b 2 4 (by omega), ← cut_bytes b (2 + 4) 4 (by omega), ← cut_bytes b (2 + 4 + 4) 4 (by omega), startsT_two b hst (by omega)]
                simp [threeB]
              have eh : tailHead (fldT b 2 4) (fldT b 6 4) (plcT b (fldT b 10 4)) = b.take (14 + 5 * fldT b 10 4) := by
                unfold tailHead
                rw [e14, places_cut b _ (by omega)]
              unfold sealed
              rw [eh, hs, Int.toNat_natCast, cut_bytes b _ 4 (by omega), show 18 + 5 * fldT b 10 4 = (14 + 5 * fldT b 10 4) + 4 by omega]
              exact (take_more b (14 + 5 * fldT b 10 4) 4).symm
end Go.Proofs.YtkmhmehofipehaaDoor
