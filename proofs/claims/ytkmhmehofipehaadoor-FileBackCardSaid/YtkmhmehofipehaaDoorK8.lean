/- A block opened: the reference's Open. -/
import Derived.Test.YtkmhmehofipehaaDoorK7
import Derived.Test.YtkmhmehofipehaaDoorK3
import Derived.Deep.RegionHeld3
import Derived.Test.YtkmhmehofipehaaDoorK1
import Derived.ProofKit
import Derived.OpenShut
import Derived.ShutString
import Derived.ChangeOld
import Derived.Below
import Derived.Test.YtkmhmehofipehaaDoorProg
import Derived.WalkSpells
import Derived.WalkLawsBesides
import Derived.Deep.Slices
import Derived.Deep.Fields
import Derived.ChangeSame
import Derived.Lib.UnsafeStr
import Derived.Lib.BufferWrite
namespace Go.Proofs.YtkmhmehofipehaaDoor
set_option linter.unusedVariables false
open Go.RowKit
theorem hopen_any (t : Nat) (A : Option Addr) (c : Nat) (l : List UInt8) (w : World) (hl : SeesB w A l) (hc : l.length ≤ c) (hcm : c ≤ maxLen) (hlen : l.length ≤ 140737488355328) (ht : Tab w t) :
    Calls Tryd.prog 41 #[.pointer (some ⟨t, 0, none⟩), .slice A l.length c] w (OpenPost w (openH l)) := by
  by_cases he : (getH l).1 = 0
  · exact hopen_ok t A c l w ht hl hc hcm hlen he
  · rw [show openH l = ((getH l).1, HeadV.zero, [], 0) by unfold openH; rw [if_pos he]]
    exact hopen_err t A c l w ht hl hc hcm hlen he
set_option maxHeartbeats 2000000 in
theorem hropen_err (A : Option Addr) (c : Nat) (l : List UInt8) (w : World) (hl : SeesB w A l) (hc : l.length ≤ c) (hcm : c ≤ maxLen) (hlen : l.length ≤ 140737488355328) (he : (getH l).1 ≠ 0) :
    Calls Tryd.prog 26 #[.slice A l.length c] w (OpenPost w ((getH l).1, HeadV.zero, [], 0)) := by
  have HG := hid (fun W (hl : SeesB W A l) => hrget_any A c l W hl hc hcm hlen)
  have d1 : ((getH l).1 != 0) = true := by simpa using he
  generalize getH l = r at *
  obtain ⟨er, k, idx, len, stp, bnd, lst, lnk, siz⟩ := r
  unfold GetHPost HeadV.cells at HG
  simp only at HG d1
  clear he
  have hb : Below w.heap.size w (w.alloc (.cells #[.int .i64 0, .int .i64 0, .int .i64 0, .int .i64 0, .int .i64 0, .bool false, .int .u32 0, .int .i64 0] 52)) := (Below.refl _ w).alloc (Nat.le_refl _) _
  have hrow := heap_alloc_new w (.cells #[.int .i64 0, .int .i64 0, .int .i64 0, .int .i64 0, .int .i64 0, .bool false, .int .u32 0, .int .i64 0] 52)
  go_enter Tryd.func26, Tryd.ntmps26
  go_wp2_with fail
  generalize w.alloc (.cells #[.int .i64 0, .int .i64 0, .int .i64 0, .int .i64 0, .int .i64 0, .bool false, .int .u32 0, .int .i64 0] 52) = w0 at *
  have hlt0 : w.heap.size < w0.heap.size := (Array.getElem?_eq_some_iff.1 hrow).1
  refine (HG.out w0 (hl.below hb)).mono ?_
  rintro e w1 ⟨rfl, hb1⟩
  have hbw1 := hb.trans (hb1.mono hb.size)
  have hrow1 := (hb1.block w.heap.size hlt0).trans hrow
  have hlt1 := Nat.lt_of_lt_of_le hlt0 hb1.size
  have hb2 : Below w1.heap.size w1 (w1.alloc (.cells #[.int .i64 k, .int .i64 idx, .int .i64 len, .int .i64 stp, .int .i64 bnd, .bool lst, .int .u32 lnk, .int .i64 siz] 52)) := (Below.refl _ _).alloc (Nat.le_refl _) _
  have hr2 := heap_alloc_new w1 (.cells #[.int .i64 k, .int .i64 idx, .int .i64 len, .int .i64 stp, .int .i64 bnd, .bool lst, .int .u32 lnk, .int .i64 siz] 52)
  have hbw2 := hbw1.trans (hb2.mono hbw1.size)
  have hrow2 := (hb2.block w.heap.size hlt1).trans hrow1
  have hlt1w := hlt1
  clear hb hrow hb1 hbw1 hrow1 hb2 hlt1 HG
  go_wp2_with first | (refine wpList_store_row rfl 52 (.tmp 2) (.tmp 16) rfl rfl w.heap.size rfl #[.int .i64 0, .int .i64 0, .int .i64 0, .int .i64 0, .int .i64 0, .bool false, .int .u32 0, .int .i64 0] rfl 52 #[.int .i64 0, .int .i64 0, .int .i64 0, .int .i64 0, .int .i64 0, .bool false, .int .u32 0, .int .i64 0] hrow2 (by kernel_rfl) rfl (by simp [Value.oneCell']) ?_)
  exact bodyPost_ret (v := .tuple #[.agg #[.int .i64 0, .int .i64 0, .int .i64 0, .int .i64 0, .int .i64 0, .bool false, .int .u32 0, .int .i64 0], .slice none 0 0, .int .u32 0, .int .i64 er]) (results_row_tmp3 (fn := Tryd.f26) (p := 2) (u := 3) (x := 4) (y := 5) (ty := 52) rfl _ _ w.heap.size _ _ _ _ rfl (setRow_heap _ _ _ _ _ _ hrow2) Tryd.underlying52 rfl (by kernel_rfl)) rfl ⟨none, 0, rfl, Sees.nil _ _, Nat.le_refl _, Nat.zero_le _, below_setRow hbw2 (Nat.le_refl _) _⟩
set_option maxRecDepth 40000 in
set_option maxHeartbeats 8000000 in
theorem hropen_ok (A : Option Addr) (c : Nat) (l : List UInt8) (w : World) (hl : SeesB w A l) (hc : l.length ≤ c) (hcm : c ≤ maxLen) (hlen : l.length ≤ 140737488355328) (he : (getH l).1 = 0) :
    Calls Tryd.prog 26 #[.slice A l.length c] w (OpenPost w (openH l)) := by
  obtain ⟨_, h32, _, _, hsd⟩ := getH_ok he
  obtain ⟨R, hR⟩ : ∃ R, R = openH l := ⟨_, rfl⟩
  rw [← hR]
  have hgl : getH l = (0, saidH l) := Prod.ext he hsd
  have hR2 : R = if l.length < 36 + fldH l 24 4 then (10, HeadV.zero, [], 0) else if sumI (l.take (32 + fldH l 24 4)) ≠ (fldH l (32 + fldH l 24 4) 4 : Int) then (33, HeadV.zero, [], 0) else (0, saidH l, (l.drop 32).take (fldH l 24 4), sumI (l.take (32 + fldH l 24 4))) := by
    rw [hR]; unfold openH; rw [if_neg (by simpa using he), hsd]
  have HR := hid hR2
  obtain ⟨a, rfl, _⟩ := hl.at (show 0 < l.length by omega)
  have HG := hid (fun W (hl : SeesB W (some a) l) => hrget_any (some a) c l W hl hc hcm hlen)
  rw [hgl] at HG
  unfold GetHPost saidH HeadV.cells at HG
  unfold saidH at HR
  simp only at HG
  have hn : fldH l 24 4 < 4294967296 := fldH_lt l 24 4
  generalize fldH l 24 4 = n at *
  generalize ((fldH l 2 1 : Nat) : Int) = k at *
  generalize ((fldH l 4 4 : Nat) : Int) = idx at *
  generalize ((fldH l 8 4 : Nat) : Int) = len at *
  generalize ((fldH l 12 4 : Nat) : Int) = stp at *
  generalize ((fldH l 16 4 : Nat) : Int) = bnd at *
  generalize (fldH l 3 1 == 1) = lst at *
  generalize ((fldH l 20 4 : Nat) : Int) = lnk at *
  clear hR hR2 hgl hsd he
  by_cases hlong : l.length < 36 + n
  · have d2 : decide ((l.length : Int) < 36 + (n : Int)) = true := decide_eq_true (by omega)
    obtain rfl : R = (10, HeadV.zero, [], 0) := by rw [HR.out, if_pos hlong]
    clear hlong HR
    have hb : Below w.heap.size w (w.alloc (.cells #[.int .i64 0, .int .i64 0, .int .i64 0, .int .i64 0, .int .i64 0, .bool false, .int .u32 0, .int .i64 0] 52)) := (Below.refl _ w).alloc (Nat.le_refl _) _
    have hrow := heap_alloc_new w (.cells #[.int .i64 0, .int .i64 0, .int .i64 0, .int .i64 0, .int .i64 0, .bool false, .int .u32 0, .int .i64 0] 52)
    go_enter Tryd.func26, Tryd.ntmps26
    go_wp2_with fail
    generalize w.alloc (.cells #[.int .i64 0, .int .i64 0, .int .i64 0, .int .i64 0, .int .i64 0, .bool false, .int .u32 0, .int .i64 0] 52) = w0 at *
    have hlt0 : w.heap.size < w0.heap.size := (Array.getElem?_eq_some_iff.1 hrow).1
    refine (HG.out w0 (hl.below hb)).mono ?_
    rintro e w1 ⟨rfl, hb1⟩
    have hbw1 := hb.trans (hb1.mono hb.size)
    have hrow1 := (hb1.block w.heap.size hlt0).trans hrow
    have hlt1 := Nat.lt_of_lt_of_le hlt0 hb1.size
    have hb2 : Below w1.heap.size w1 (w1.alloc (.cells #[.int .i64 k, .int .i64 idx, .int .i64 len, .int .i64 stp, .int .i64 bnd, .bool lst, .int .u32 lnk, .int .i64 (n : Nat)] 52)) := (Below.refl _ _).alloc (Nat.le_refl _) _
    have hr2 := heap_alloc_new w1 (.cells #[.int .i64 k, .int .i64 idx, .int .i64 len, .int .i64 stp, .int .i64 bnd, .bool lst, .int .u32 lnk, .int .i64 (n : Nat)] 52)
    have hbw2 := hbw1.trans (hb2.mono hbw1.size)
    have hrow2 := (hb2.block w.heap.size hlt1).trans hrow1
    have hlt1w := hlt1
    clear hb hrow hb1 hbw1 hrow1 hb2 hlt1 HG
    have k7 : (w1.alloc (.cells #[.int .i64 k, .int .i64 idx, .int .i64 len, .int .i64 stp, .int .i64 bnd, .bool lst, .int .u32 lnk, .int .i64 (n : Nat)] 52)).cell? ⟨w1.heap.size, 7, none⟩ = some (.int .i64 (n : Nat)) := by rw [cell_of_row _ _ _ _ _ _ hr2]; rfl
    go_wp2_with first | (refine wpList_store_row rfl 52 (.tmp 2) (.tmp 24) rfl rfl w.heap.size rfl #[.int .i64 0, .int .i64 0, .int .i64 0, .int .i64 0, .int .i64 0, .bool false, .int .u32 0, .int .i64 0] rfl 52 #[.int .i64 0, .int .i64 0, .int .i64 0, .int .i64 0, .int .i64 0, .bool false, .int .u32 0, .int .i64 0] hrow2 (by kernel_rfl) rfl (by simp [Value.oneCell']) ?_)
    exact bodyPost_ret (v := .tuple #[.agg #[.int .i64 0, .int .i64 0, .int .i64 0, .int .i64 0, .int .i64 0, .bool false, .int .u32 0, .int .i64 0], .slice none 0 0, .int .u32 0, .int .i64 10]) (results_row_tmp3 (fn := Tryd.f26) (p := 2) (u := 3) (x := 4) (y := 5) (ty := 52) rfl _ _ w.heap.size _ _ _ _ rfl (setRow_heap _ _ _ _ _ _ hrow2) Tryd.underlying52 rfl (by kernel_rfl)) rfl ⟨none, 0, rfl, Sees.nil _ _, Nat.le_refl _, Nat.zero_le _, below_setRow hbw2 (Nat.le_refl _) _⟩
  have d2 : decide ((l.length : Int) < 36 + (n : Int)) = false := decide_eq_false (by omega)
  have hst : (l.take (32 + n)).length = 32 + n := by rw [List.length_take]; omega
  have hsr := sumI_range (l.take (32 + n))
  obtain ⟨S, hS⟩ := Int.eq_ofNat_of_zero_le hsr.1
  have hsum := fun W (hl : SeesB W (some a) (l.take (32 + n))) => rsum_any (some a) c (l.take (32 + n)) W hl (by omega)
  rw [hst, hS] at hsum
  rw [hS] at hsr
  have hS4 : S < 4294967296 := by omega
  have hat := fun W (h : SeesB W (some a) l) => hrat_any a c l (32 + n) W h (by omega) hc hcm
  rw [show ((32 + n : Nat) : Int) = 32 + (n : Int) by omega] at hat
  have v5 : fldH l (32 + n) 4 < 4294967296 := fldH_lt l (32 + n) 4
  obtain ⟨p, hp⟩ : ∃ p, p = (l.drop 32).take n := ⟨_, rfl⟩
  have hpl : p.length = n := by rw [hp]; simp; omega
  have hmid : Hid (S ≠ fldH l (32 + n) 4 → R = (33, HeadV.zero, [], 0)) := hid (fun h => by rw [HR.out, if_neg hlong, if_pos (by rw [hS]; omega)])
  have hmid2 : Hid (S = fldH l (32 + n) 4 → R = (0, ⟨k, idx, len, stp, bnd, lst, lnk, n⟩, p, (S : Int))) := hid (fun h => by rw [HR.out, if_neg hlong, if_neg (by rw [hS, h]; simp), hS, hp])
  generalize fldH l (32 + n) 4 = su at *
  have HSUM := hid hsum
  have HAT := hid hat
  have HPL := hid hpl
  have g1 : (32 : Int) + n ≤ c := by omega
  have g2 : ¬ c = 32 + n := by omega
  have g3 : (32 : Int) + n ≤ l.length := by omega
  have g4 : (l.length : Int) ≤ c := by omega
  have g5 : ¬ c = 32 := by omega
  have g6 : (0 : Int) ≤ 32 + n := by omega
  have g7 : (32 : Int) ≤ 32 + n := by omega
  clear hat hsum hS hsr hst HR hpl hlong
  have hb : Below w.heap.size w (w.alloc (.cells #[.int .i64 0, .int .i64 0, .int .i64 0, .int .i64 0, .int .i64 0, .bool false, .int .u32 0, .int .i64 0] 52)) := (Below.refl _ w).alloc (Nat.le_refl _) _
  have hrow := heap_alloc_new w (.cells #[.int .i64 0, .int .i64 0, .int .i64 0, .int .i64 0, .int .i64 0, .bool false, .int .u32 0, .int .i64 0] 52)
  go_enter Tryd.func26, Tryd.ntmps26
  go_wp2_with fail
  generalize w.alloc (.cells #[.int .i64 0, .int .i64 0, .int .i64 0, .int .i64 0, .int .i64 0, .bool false, .int .u32 0, .int .i64 0] 52) = w0 at *
  have hlt0 : w.heap.size < w0.heap.size := (Array.getElem?_eq_some_iff.1 hrow).1
  refine (HG.out w0 (hl.below hb)).mono ?_
  rintro e w1 ⟨rfl, hb1⟩
  have hbw1 := hb.trans (hb1.mono hb.size)
  have hrow1 := (hb1.block w.heap.size hlt0).trans hrow
  have hlt1 := Nat.lt_of_lt_of_le hlt0 hb1.size
  have hb2 : Below w1.heap.size w1 (w1.alloc (.cells #[.int .i64 k, .int .i64 idx, .int .i64 len, .int .i64 stp, .int .i64 bnd, .bool lst, .int .u32 lnk, .int .i64 (n : Nat)] 52)) := (Below.refl _ _).alloc (Nat.le_refl _) _
  have hr2 := heap_alloc_new w1 (.cells #[.int .i64 k, .int .i64 idx, .int .i64 len, .int .i64 stp, .int .i64 bnd, .bool lst, .int .u32 lnk, .int .i64 (n : Nat)] 52)
  have hbw2 := hbw1.trans (hb2.mono hbw1.size)
  have hrow2 := (hb2.block w.heap.size hlt1).trans hrow1
  have hlt1w := hlt1
  clear hb hrow hb1 hbw1 hrow1 hb2 hlt1 HG
  have k7 : (w1.alloc (.cells #[.int .i64 k, .int .i64 idx, .int .i64 len, .int .i64 stp, .int .i64 bnd, .bool lst, .int .u32 lnk, .int .i64 (n : Nat)] 52)).cell? ⟨w1.heap.size, 7, none⟩ = some (.int .i64 (n : Nat)) := by rw [cell_of_row _ _ _ _ _ _ hr2]; rfl
  have hlt2 : w.heap.size < (w1.alloc (.cells #[.int .i64 k, .int .i64 idx, .int .i64 len, .int .i64 stp, .int .i64 bnd, .bool lst, .int .u32 lnk, .int .i64 (n : Nat)] 52)).heap.size := (Array.getElem?_eq_some_iff.1 hrow2).1
  have hlw := hl.below hbw2
  have hls : SeesB (w1.alloc (.cells #[.int .i64 k, .int .i64 idx, .int .i64 len, .int .i64 stp, .int .i64 bnd, .bool lst, .int .u32 lnk, .int .i64 (n : Nat)] 52)) (some a) (l.take (32 + n)) := by unfold SeesB; rw [List.map_take]; exact Sees.take hlw (32 + n)
  go_wp2_with fail
  generalize (w1.alloc (.cells #[.int .i64 k, .int .i64 idx, .int .i64 len, .int .i64 stp, .int .i64 bnd, .bool lst, .int .u32 lnk, .int .i64 (n : Nat)] 52)) = w2 at *
  refine (HSUM.out _ hls).mono ?_
  rintro e w3 ⟨rfl, rfl⟩
  go_wp2_with fail
  refine (HAT.out _ hlw).mono ?_
  rintro e w3 ⟨rfl, rfl⟩
  have hlt1 : w1.heap.size < w2.heap.size := (Array.getElem?_eq_some_iff.1 hr2).1
  clear hls HSUM HAT k7
  by_cases heq : S = su
  · have dd : ((S : Int) != (su : Int)) = false := by rw [heq]; simp
    obtain rfl := hmid2.out heq
    have hr5 : w2.drew.heap[w1.heap.size]? = some (.cells #[.int .i64 k, .int .i64 idx, .int .i64 len, .int .i64 stp, .int .i64 bnd, .bool lst, .int .u32 lnk, .int .i64 (n : Nat)] 52 (0, 0)) := hr2
    have hrow5 : w2.drew.heap[w.heap.size]? = some (.cells #[.int .i64 0, .int .i64 0, .int .i64 0, .int .i64 0, .int .i64 0, .bool false, .int .u32 0, .int .i64 0] 52 (0, 0)) := hrow2
    have hbw5 : Below w.heap.size w w2.drew := hbw2.drew
    have hrow8 := setRow_heap w2.drew w.heap.size _ #[.int .i64 k, .int .i64 idx, .int .i64 len, .int .i64 stp, .int .i64 bnd, .bool lst, .int .u32 lnk, .int .i64 (n : Nat)] _ _ hrow5
    have hr8 := (setRow_other w2.drew w.heap.size w1.heap.size #[.int .i64 k, .int .i64 idx, .int .i64 len, .int .i64 stp, .int .i64 bnd, .bool lst, .int .u32 lnk, .int .i64 (n : Nat)] (by omega)).trans hr5
    have hbw8 := below_setRow hbw5 (Nat.le_refl _) #[.int .i64 k, .int .i64 idx, .int .i64 len, .int .i64 stp, .int .i64 bnd, .bool lst, .int .u32 lnk, .int .i64 (n : Nat)]
    have hs8 : SeesB (w2.drew.setRow w.heap.size #[.int .i64 k, .int .i64 idx, .int .i64 len, .int .i64 stp, .int .i64 bnd, .bool lst, .int .u32 lnk, .int .i64 (n : Nat)]) (some { block := a.block, off := a.off + 32 }) p := by rw [hp]; exact (hl.below hbw8).cutTo 32 n
    have hp8 : n ≤ c - 32 := by omega
    have hc8 : c - 32 ≤ maxLen := by omega
    clear heq hmid hmid2 hp hl hlw
    have g8 : IntKind.i64.wrap (32 + (n : Int)) = 32 + (n : Int) := by rw [IntKind.wrap_i64]; omega
    go_wp2_with fail
    refine wp_region_held_drew (S := fun w' => w'.heap[w1.heap.size]? = some (.cells #[.int .i64 k, .int .i64 idx, .int .i64 len, .int .i64 stp, .int .i64 bnd, .bool lst, .int .u32 lnk, .int .i64 (n : Nat)] 52 (0, 0))) (by kernel_rfl) hr5 (fun hHeld => ?_)
    refine wpAnyH_takeD (i := 0) (d := some 40) (v := (.agg #[.int .i64 k, .int .i64 idx, .int .i64 len, .int .i64 stp, .int .i64 bnd, .bool lst, .int .u32 lnk, .int .i64 (n : Nat)])) rfl rfl (by kernel_rfl) (by kernel_rfl) (by kernel_rfl) (fun _ _ _ h => h) (Or.inl ⟨by rfl, ?hy0⟩) hHeld ?rest0
    case hy0 =>
      intro wS hS
      exact run_load_rowop 52 (.tmp 6) rfl w1.heap.size (by rfl) #[.int .i64 k, .int .i64 idx, .int .i64 len, .int .i64 stp, .int .i64 bnd, .bool lst, .int .u32 lnk, .int .i64 (n : Nat)] _ _ hS _ Tryd.underlying52 rfl (by kernel_rfl)
    (try simp only [Act.put, List.setIfInBounds_toArray, List.set_cons_zero, List.set_cons_succ])
    refine wpAnyH_takeD (i := 1) (d := some 41) (v := ?v1) rfl rfl (by kernel_rfl) (by kernel_rfl) (by kernel_rfl) (fun _ _ _ h => h) (Or.inl ⟨by rfl, ?hy1⟩) hHeld ?rest1
    case hy1 =>
      intro wS hS
      go_simp
      all_goals with_reducible rfl
    (try simp only [Act.put, List.setIfInBounds_toArray, List.set_cons_zero, List.set_cons_succ])
    refine wpAnyH_takeD (i := 2) (d := some 42) (v := ?v2) rfl rfl (by kernel_rfl) (by kernel_rfl) (by kernel_rfl) (fun _ _ _ h => h) (Or.inl ⟨by rfl, ?hy2⟩) hHeld ?rest2
    case hy2 =>
      intro wS hS
      go_simp
      all_goals with_reducible rfl
    (try simp only [Act.put, List.setIfInBounds_toArray, List.set_cons_zero, List.set_cons_succ])
    refine wpAnyH_takeD (i := 3) (d := some 43) (v := ?v3) rfl rfl (by kernel_rfl) (by kernel_rfl) (by kernel_rfl) (fun _ _ _ h => h) (Or.inl ⟨by rfl, ?hy3⟩) hHeld ?rest3
    case hy3 =>
      intro wS hS
      have k7 : wS.cell? ⟨w1.heap.size, 7, none⟩ = some (.int .i64 (n : Nat)) := by rw [cell_of_row _ _ _ _ _ _ hS]; rfl
      go_simp
      all_goals with_reducible rfl
    (try simp only [Act.put, List.setIfInBounds_toArray, List.set_cons_zero, List.set_cons_succ])
    refine wpAnyH_takeD (i := 4) (d := some 44) (v := ?v4) rfl rfl (by kernel_rfl) (by kernel_rfl) (by kernel_rfl) (fun _ _ _ h => h) (Or.inl ⟨by rfl, ?hy4⟩) hHeld ?rest4
    case hy4 =>
      intro wS hS
      go_simp
      all_goals with_reducible rfl
    (try simp only [Act.put, List.setIfInBounds_toArray, List.set_cons_zero, List.set_cons_succ])
    refine wpAnyH_takeD (i := 5) (d := some 45) (v := ?v5) rfl rfl (by kernel_rfl) (by kernel_rfl) (by kernel_rfl) (fun _ _ _ h => h) (Or.inl ⟨by rfl, ?hy5⟩) hHeld ?rest5
    case hy5 =>
      intro wS hS
      go_simp
      all_goals with_reducible rfl
    (try simp only [Act.put, List.setIfInBounds_toArray, List.set_cons_zero, List.set_cons_succ])
    refine wpAnyH_takeD (i := 6) (d := some 46) (v := ?v6) rfl rfl (by kernel_rfl) (by kernel_rfl) (by kernel_rfl) (fun _ _ _ h => h) (Or.inl ⟨by rfl, ?hy6⟩) hHeld ?rest6
    case hy6 =>
      intro wS hS
      go_simp
      all_goals with_reducible rfl
    (try simp only [Act.put, List.setIfInBounds_toArray, List.set_cons_zero, List.set_cons_succ])
    refine wpAnyH_ready (rs := [7]) (by kernel_rfl) (by simp) (AllReadyH.cons rfl (fun K hK => ?_) AllReadyH.nil)
    rw [if_pos (by rfl)]
    refine wp_store_row 52 (.tmp 2) (.tmp 40) rfl rfl w.heap.size rfl #[.int .i64 k, .int .i64 idx, .int .i64 len, .int .i64 stp, .int .i64 bnd, .bool lst, .int .u32 lnk, .int .i64 (n : Nat)] rfl 52 #[.int .i64 0, .int .i64 0, .int .i64 0, .int .i64 0, .int .i64 0, .bool false, .int .u32 0, .int .i64 0] hrow5 (by kernel_rfl) rfl (by simp [Value.oneCell']) ?_
    refine hK.out _ _ hr8 (fun hHeld => ?_)
    clear hK K
    (try simp only [Act.put, List.setIfInBounds_toArray, List.set_cons_zero, List.set_cons_succ])
    refine wpAnyH_takeD (i := 8) (d := some 3) (v := ?v8) rfl rfl (by kernel_rfl) (by kernel_rfl) (by kernel_rfl) (fun _ _ _ h => h) (Or.inl ⟨by rfl, ?hy8⟩) hHeld ?rest8
    case hy8 =>
      intro wS hS
      go_simp
      all_goals with_reducible rfl
    (try simp only [Act.put, List.setIfInBounds_toArray, List.set_cons_zero, List.set_cons_succ])
    refine wpAnyH_takeD (i := 9) (d := some 4) (v := ?v9) rfl rfl (by kernel_rfl) (by kernel_rfl) (by kernel_rfl) (fun _ _ _ h => h) (Or.inl ⟨by rfl, ?hy9⟩) hHeld ?rest9
    case hy9 =>
      intro wS hS
      go_simp
      all_goals with_reducible rfl
    (try simp only [Act.put, List.setIfInBounds_toArray, List.set_cons_zero, List.set_cons_succ])
    refine wpAnyH_takeD (i := 10) (d := some 5) (v := ?v10) rfl rfl (by kernel_rfl) (by kernel_rfl) (by kernel_rfl) (fun _ _ _ h => h) (Or.inl ⟨by rfl, ?hy10⟩) hHeld ?rest10
    case hy10 =>
      intro wS hS
      go_simp
      all_goals with_reducible rfl
    (try simp only [Act.put, List.setIfInBounds_toArray, List.set_cons_zero, List.set_cons_succ])
    refine wpAnyH_done (by kernel_rfl) ?_ _
    go_wp2_with fail
    rw [show (32 + (n : Int)).toNat - 32 = n by omega]
    exact bodyPost_ret (v := .tuple #[.agg #[.int .i64 k, .int .i64 idx, .int .i64 len, .int .i64 stp, .int .i64 bnd, .bool lst, .int .u32 lnk, .int .i64 (n : Nat)], .slice (some { block := a.block, off := a.off + 32 }) n (c - 32), .int .u32 (S : Int), .int .i64 0]) (results_row_tmp3 (fn := Tryd.f26) (p := 2) (u := 3) (x := 4) (y := 5) (ty := 52) rfl _ _ w.heap.size _ _ _ _ rfl hrow8 Tryd.underlying52 rfl (by kernel_rfl)) rfl ⟨_, c - 32, by rw [HPL.out]; rfl, hs8, by rw [HPL.out]; exact hp8, hc8, hbw8⟩
  · have dd : ((S : Int) != (su : Int)) = true := by simp; omega
    obtain rfl := hmid.out heq
    clear heq hmid hmid2
    go_wp2_with first | (refine wpList_store_row rfl 52 (.tmp 2) (.tmp 39) rfl rfl w.heap.size rfl #[.int .i64 0, .int .i64 0, .int .i64 0, .int .i64 0, .int .i64 0, .bool false, .int .u32 0, .int .i64 0] rfl 52 #[.int .i64 0, .int .i64 0, .int .i64 0, .int .i64 0, .int .i64 0, .bool false, .int .u32 0, .int .i64 0] hrow2 (by kernel_rfl) rfl (by simp [Value.oneCell']) ?_)
    exact bodyPost_ret (v := .tuple #[.agg #[.int .i64 0, .int .i64 0, .int .i64 0, .int .i64 0, .int .i64 0, .bool false, .int .u32 0, .int .i64 0], .slice none 0 0, .int .u32 0, .int .i64 33]) (results_row_tmp3 (fn := Tryd.f26) (p := 2) (u := 3) (x := 4) (y := 5) (ty := 52) rfl _ _ w.heap.size _ _ _ _ rfl (setRow_heap _ _ _ _ _ _ hrow2) Tryd.underlying52 rfl (by kernel_rfl)) rfl ⟨none, 0, rfl, Sees.nil _ _, Nat.le_refl _, Nat.zero_le _, below_setRow hbw2 (Nat.le_refl _) _⟩
theorem hropen_any (A : Option Addr) (c : Nat) (l : List UInt8) (w : World) (hl : SeesB w A l) (hc : l.length ≤ c) (hcm : c ≤ maxLen) (hlen : l.length ≤ 140737488355328) :
    Calls Tryd.prog 26 #[.slice A l.length c] w (OpenPost w (openH l)) := by
  by_cases he : (getH l).1 = 0
  · exact hropen_ok A c l w hl hc hcm hlen he
  · rw [show openH l = ((getH l).1, HeadV.zero, [], 0) by unfold openH; rw [if_pos he]]
    exact hropen_err A c l w hl hc hcm hlen he
end Go.Proofs.YtkmhmehofipehaaDoor
/- How long a block is. -/
namespace Go.Proofs.YtkmhmehofipehaaDoor
set_option linter.unusedVariables false
open Go.RowKit
def longH (k idx len stp bnd : Int) (lst : Bool) (lnk siz : Int) : Int := if rightH k idx len stp bnd lst lnk siz = true then 36 + siz else 0
set_option maxHeartbeats 2000000 in
theorem hlong_any (k idx len stp bnd : Int) (lst : Bool) (lnk siz : Int) (w : World) :
    Calls Tryd.prog 42 #[.agg #[.int .i64 k, .int .i64 idx, .int .i64 len, .int .i64 stp, .int .i64 bnd, .bool lst, .int .u32 lnk, .int .i64 siz]] w fun e w' => e = .returned (.int .i64 (longH k idx len stp bnd lst lnk siz)) ∧ Below w.heap.size w w' := by
  have hb : Below w.heap.size w (w.alloc (.cells #[.int .i64 k, .int .i64 idx, .int .i64 len, .int .i64 stp, .int .i64 bnd, .bool lst, .int .u32 lnk, .int .i64 siz] 52)) := (Below.refl _ w).alloc (Nat.le_refl _) _
  have hrow := heap_alloc_new w (.cells #[.int .i64 k, .int .i64 idx, .int .i64 len, .int .i64 stp, .int .i64 bnd, .bool lst, .int .u32 lnk, .int .i64 siz] 52)
  cases hr : rightH k idx len stp bnd lst lnk siz with
  | false =>
    go_enter Tryd.func42, Tryd.ntmps42
    go_wp2_with fail
    refine (hright_any k idx len stp bnd lst lnk siz _).mono ?_
    rintro e w1 ⟨rfl, hb1⟩
    rw [hr]
    go_wp2_with fail
    go_ret
    exact ⟨ret_int (by unfold longH; rw [hr]; rfl), hb.trans (hb1.mono hb.size)⟩
  | true =>
    have hr2 := (of_decide_eq_true hr).2.2.2.2.2.1
    go_enter Tryd.func42, Tryd.ntmps42
    go_wp2_with fail
    generalize w.alloc (.cells #[.int .i64 k, .int .i64 idx, .int .i64 len, .int .i64 stp, .int .i64 bnd, .bool lst, .int .u32 lnk, .int .i64 siz] 52) = w0 at *
    have hlt0 : w.heap.size < w0.heap.size := (Array.getElem?_eq_some_iff.1 hrow).1
    refine (hright_any k idx len stp bnd lst lnk siz _).mono ?_
    rintro e w1 ⟨rfl, hb1⟩
    rw [hr]
    have hrow1 := (hb1.block w.heap.size hlt0).trans hrow
    have c7 : w1.cell? ⟨w.heap.size, 7, none⟩ = some (.int .i64 siz) := by rw [cell_of_row _ _ _ _ _ _ hrow1]; rfl
    have hw1 : wrap64 (32 + siz) = 32 + siz := by unfold wrap64; omega
    have hw2 : wrap64 (32 + siz + 4) = 32 + siz + 4 := by unfold wrap64; omega
    have hw3 : wrap64 (36 + siz) = 36 + siz := by unfold wrap64; omega
    have HR := hid hr
    clear hr
    go_wp2_with fail
    go_ret
    exact ⟨ret_int (by unfold longH; rw [HR.out, if_pos rfl] <;> first | rfl | omega), hb.trans (hb1.mono hb.size)⟩
end Go.Proofs.YtkmhmehofipehaaDoor
/- Arguments opened: what a value that was read as data is. -/
namespace Go.Proofs.YtkmhmehofipehaaDoor
set_option linter.unusedVariables false
open Go.ChangeShapes Go.WideShapes Go.ChangeAt Go.RowKit
section
variable {H : Type} {enc : TypeId × Value → H} {P : Program} {w : World} {base b0 : Nat} {spare : Nat → Bool} {held : Bool} {r : Reach}
theorem wf_u8 {z : Int} (h : (Lit.int .u8 z).wf = true) : 0 ≤ z ∧ z < 256 := by
  simp [Lit.wf, IntKind.min, IntKind.max, IntKind.signed, IntKind.bits] at h; omega
theorem wf_u32 {z : Int} (h : (Lit.int .u32 z).wf = true) : 0 ≤ z ∧ z < 4294967296 := by
  simp [Lit.wf, IntKind.min, IntKind.max, IntKind.signed, IntKind.bits] at h; omega
theorem wf_u64 {z : Int} (h : (Lit.int .u64 z).wf = true) : 0 ≤ z ∧ z < 18446744073709551616 := by
  simp [Lit.wf, IntKind.min, IntKind.max, IntKind.signed, IntKind.bits] at h; omega
theorem wf_i64 {z : Int} (h : (Lit.int .i64 z).wf = true) : -9223372036854775808 ≤ z ∧ z < 9223372036854775808 := by
  simp [Lit.wf, IntKind.min, IntKind.max, IntKind.signed, IntKind.bits] at h; omega
theorem ints_raw {t e : TypeId} {k : IntKind} {v : Value} {y : DataW H × List MemPlace} {n : Nat} (ht : P.underlying t = some (.slice e)) (he : P.underlying e = some (.int k)) (hc : P.cellsOf e = 1)
    (h : DataW.trod enc P w base spare held n t [v] = some y) :
    ∃ (A : Option Addr) (c : Nat) (zs : List Int), v = .slice A zs.length c ∧ Sees w A (zs.map fun z => .int k z) ∧ zs.length ≤ c ∧ c ≤ maxLen ∧ (∀ z ∈ zs, (Lit.int k z).wf = true) := by
  rcases open_ints ht he hc h with ⟨hcs, _⟩ | ⟨x, l, c', zs, hcs, _, hl, hm, hz, _, hcell, hwz⟩
  · injection hcs with hcs _
    subst hcs
    exact ⟨none, 0, [], rfl, Sees.nil _ _, by simp, by simp, by simp⟩
  · injection hcs with hcs _
    subst hcs
    have hln : l ≤ zs.length := by rw [hz]; split <;> omega
    have hlen : (zs.take l).length = l := by simp; omega
    refine ⟨some x, c', zs.take l, by rw [hlen], ?_, by rw [hlen]; exact hl, hm, fun z hz' => hwz z (List.mem_of_mem_take hz')⟩
    intro i v hv
    refine ⟨x, rfl, ?_⟩
    rw [List.getElem?_map] at hv
    have hin : i < l := by
      rcases Nat.lt_or_ge i l with h1 | h1
      · exact h1
      · rw [List.getElem?_eq_none (by simp; omega)] at hv; cases hv
    rw [List.getElem?_take_of_lt hin] at hv
    rw [hcell i (by omega)]
    rw [List.getElem?_eq_getElem (by omega : i < zs.length)] at hv
    rw [← hv]; simp [List.getD, List.getElem?_eq_getElem (by omega : i < zs.length)]
theorem int_raw {t : TypeId} {k : IntKind} {v : Value} {y : DataW H × List MemPlace} {n : Nat} (ht : P.underlying t = some (.int k)) (h : DataW.trod enc P w base spare held n t [v] = some y) :
    ∃ z, v = .int k z ∧ (Lit.int k z).wf = true := by
  obtain ⟨z, h1, _, hw⟩ := DataW.trod_int ht h
  injection h1 with h1 _
  exact ⟨z, h1, hw⟩
theorem open_ints_of {t e : TypeId} {k : IntKind} {v : Value} {d : DataW H} {p : List MemPlace} (ht : P.underlying t = some (.slice e)) (he : P.underlying e = some (.int k)) (hc : P.cellsOf e = 1)
    (hv : Value.okWide P w r b0 t v) (h : DataW.Trod enc P w base spare held t v d p) :
    ∃ (A : Option Addr) (c : Nat) (zs : List Int), v = .slice A zs.length c ∧ Sees w A (zs.map fun z => .int k z) ∧ zs.length ≤ c ∧ c ≤ maxLen ∧ (∀ z ∈ zs, (Lit.int k z).wf = true) := by
  obtain ⟨A, n, c, rfl⟩ := okWide_slice ht hv
  obtain ⟨fuel, hf⟩ := h
  rcases open_ints ht he hc hf with ⟨hcs, _⟩ | ⟨x, l, c', zs, hcs, _, hl, hm, hz, _, hcell, hwz⟩
  · simp [Value.cells] at hcs
    obtain ⟨rfl, rfl, rfl⟩ := hcs
    exact ⟨none, 0, [], rfl, Sees.nil _ _, by simp, by simp, by simp⟩
  · simp [Value.cells] at hcs
    obtain ⟨rfl, rfl, rfl⟩ := hcs
    have hln : n ≤ zs.length := by rw [hz]; split <;> omega
    have hlen : (zs.take n).length = n := by simp; omega
    refine ⟨some x, c, zs.take n, by rw [hlen], ?_, by rw [hlen]; exact hl, hm, fun z hz' => hwz z (List.mem_of_mem_take hz')⟩
    intro i v hv
    refine ⟨x, rfl, ?_⟩
    rw [List.getElem?_map] at hv
    have hin : i < n := by
      rcases Nat.lt_or_ge i n with h1 | h1
      · exact h1
      · rw [List.getElem?_eq_none (by simp; omega)] at hv; cases hv
    rw [List.getElem?_take_of_lt hin] at hv
    rw [hcell i (by omega)]
    rw [List.getElem?_eq_getElem (by omega : i < zs.length)] at hv
    rw [← hv]; simp [List.getD, List.getElem?_eq_getElem (by omega : i < zs.length)]
theorem open_bytes {t e : TypeId} {v : Value} {d : DataW H} {p : List MemPlace} (ht : P.underlying t = some (.slice e)) (he : P.underlying e = some (.int .u8)) (hc : P.cellsOf e = 1)
    (hv : Value.okWide P w r b0 t v) (h : DataW.Trod enc P w base spare held t v d p) :
    ∃ (A : Option Addr) (c : Nat) (l : List UInt8), v = .slice A l.length c ∧ SeesB w A l ∧ l.length ≤ c ∧ c ≤ maxLen := by
  obtain ⟨A, c, zs, rfl, hs, h1, h2, hw⟩ := open_ints_of ht he hc hv h
  refine ⟨A, c, zs.map fun z => UInt8.ofNat z.toNat, by simp, ?_, by simpa using h1, h2⟩
  have e : (zs.map fun z => UInt8.ofNat z.toNat).map byteV = zs.map fun z => Value.int .u8 z := by
    rw [List.map_map]
    apply List.map_congr_left
    intro z hz
    have := wf_u8 (hw z hz)
    simp [byteV]; omega
  unfold SeesB; rw [e]; exact hs
end
end Go.Proofs.YtkmhmehofipehaaDoor
/- Slices of acts: four cells each. -/
namespace Go.Proofs.YtkmhmehofipehaaDoor
set_option linter.unusedVariables false
open Go.RowKit
/-- a call of a maker -/
structure Deed where
  k : Int
  v : Nat
  n : Int
  s : ByteArray
def Deed.cells (d : Deed) : List Value := [.int .i64 d.k, .int .u64 (d.v : Int), .int .i64 d.n, .string d.s]
def Deed.fine (d : Deed) : Prop := d.v < 18446744073709551616
/-- a slice that begins at A reads as these acts -/
def SeesA (w : World) (A : Option Addr) (l : List Deed) : Prop := ∀ (i : Nat) (h : i < l.length), ∃ a, A = some a ∧ w.cell? (a.add (i * 4)) = some (.int .i64 l[i].k) ∧ w.cell? ((a.add (i * 4)).add 1) = some (.int .u64 (l[i].v : Int)) ∧ w.cell? ((a.add (i * 4)).add 2) = some (.int .i64 l[i].n) ∧ w.cell? ((a.add (i * 4)).add 3) = some (.string l[i].s)
theorem SeesA.below {w w' : World} {A : Option Addr} {l : List Deed} (h : SeesA w A l) (hb : Below w.heap.size w w') : SeesA w' A l := by
  intro i hi
  obtain ⟨a, ha, h0, h1, h2, h3⟩ := h i hi
  exact ⟨a, ha, (hb.cell (block_lt_of_cell h0)).trans h0, (hb.cell (block_lt_of_cell h1)).trans h1, (hb.cell (block_lt_of_cell h2)).trans h2, (hb.cell (block_lt_of_cell h3)).trans h3⟩
theorem addr_one (a : Addr) (j : Nat) (h : j ≠ 0) : a.add j = { block := a.block, off := a.off + j } := by unfold Addr.add; rw [if_neg h]
theorem SeesA.at {w : World} {A : Option Addr} {l : List Deed} (h : SeesA w A l) {i : Nat} (hi : i < l.length) : ∃ a, A = some a ∧ w.cell? (a.add (i * 4)) = some (.int .i64 l[i].k) ∧ w.cell? { block := (a.add (i * 4)).block, off := (a.add (i * 4)).off + 1 } = some (.int .u64 (l[i].v : Int)) ∧ w.cell? { block := (a.add (i * 4)).block, off := (a.add (i * 4)).off + 2 } = some (.int .i64 l[i].n) ∧ w.cell? { block := (a.add (i * 4)).block, off := (a.add (i * 4)).off + 3 } = some (.string l[i].s) := by
  obtain ⟨a, ha, h0, h1, h2, h3⟩ := h i hi
  rw [addr_one _ 1 (by omega)] at h1
  rw [addr_one _ 2 (by omega)] at h2
  rw [addr_one _ 3 (by omega)] at h3
  exact ⟨a, ha, h0, h1, h2, h3⟩
section
open Go.ChangeShapes Go.WideShapes Go.ChangeAt Go.Deep
variable {H : Type} {enc : TypeId × Value → H} {P : Program} {w : World} {base b0 : Nat} {spare : Nat → Bool} {held : Bool} {r : Reach}
theorem open_slice_fields {t e : TypeId} {fs : Array Field} {fuel : Nat} {cs : List Value} {x : DataW H × List MemPlace} (ht : P.underlying t = some (.slice e)) (he : P.underlying e = some (.struct fs))
    (hone : oneCellFields P fs = true) (hC : P.cellsOf e = fs.size) (h : DataW.trod enc P w base spare held fuel t cs = some x) :
    (cs = [.slice none 0 0] ∧ x = (.nil, [])) ∨
    ∃ (a : Addr) (len cap m : Nat) (D : Nat → DataW H) (Pl : Nat → List MemPlace), cs = [.slice (some a) len cap] ∧ base ≤ a.block ∧ len ≤ cap ∧ cap ≤ maxLen ∧ m = (if spare a.block then cap else len) ∧
      x = (.slice ((List.range len).map D) ((List.range (m - len)).map fun j => D (len + j)), MemPlace.row a (m * fs.size) ++ (List.range m).flatMap Pl) ∧
      ∀ i, i < m → ∃ (ys : List (DataW H × List MemPlace)) (n : Nat), D i = .agg (ys.map (·.1)) ∧ Pl i = ys.flatMap (·.2) ∧ ys.length = fs.size ∧
        ∀ (j : Nat) (f : Field), fs[j]? = some f → ∃ (v : Value) (y : DataW H × List MemPlace), w.cell? (a.add (i * fs.size + j)) = some v ∧ ys[j]? = some y ∧ DataW.trod enc P w base spare held n f.type [v] = some y := by
  rcases open_slice ht h with h0 | ⟨a, len, cap, m, n, D, Pl, hcs, hb, hl, hm, hmm, hx, hi⟩
  · exact .inl h0
  · refine .inr ⟨a, len, cap, m, D, Pl, hcs, hb, hl, hm, hmm, by rw [hC] at hx; exact hx, fun i him => ?_⟩
    obtain ⟨cs', hc, ht'⟩ := hi i him
    rw [hC] at hc
    obtain ⟨ys, n', hn', hy, hlen, hyl, hf⟩ := DataW.trod_struct he ht'
    obtain ⟨_, hcl, hat⟩ := World.cells?_some hc
    simp only [Prod.mk.injEq] at hy
    refine ⟨ys, n', hy.1, hy.2, hyl, fun j f hj => ?_⟩
    obtain ⟨ho, hk⟩ := hone_of hone j f hj
    have hjl : j < fs.size := (Array.getElem?_eq_some_iff.1 hj).1
    have hcell := hat j hjl
    have hv : cs'[j]? = some (cs'[j]'(by omega)) := List.getElem?_eq_getElem (by omega)
    have h1 := hf j f hj
    rw [ho, hk] at h1
    have hone' : (cs'.drop j).take 1 = [cs'[j]'(by omega)] := by
      rw [List.drop_eq_getElem_cons (by omega)]
      rfl
    rw [hone'] at h1
    have hys : ys[j]? = some (ys[j]'(by omega)) := List.getElem?_eq_getElem (by omega)
    refine ⟨_, _, ?_, hys, h1.trans hys⟩
    rw [← Go.Deep.add_add, hcell, hv]
/-- the act that lies at an address -/
noncomputable def deedAt (w : World) (a : Addr) : Deed :=
  ⟨match w.cell? a with | some (.int _ z) => z | _ => 0, match w.cell? (a.add 1) with | some (.int _ z) => z.toNat | _ => 0, match w.cell? (a.add 2) with | some (.int _ z) => z | _ => 0, match w.cell? (a.add 3) with | some (.string s) => s | _ => ByteArray.empty⟩
theorem open_acts {t e : TypeId} {v : Value} {d : DataW H} {p : List MemPlace} (ht : P.underlying t = some (.slice e)) (f0 f1 f2 f3 : Field) (he : P.underlying e = some (.struct #[f0, f1, f2, f3]))
    (hone : oneCellFields P #[f0, f1, f2, f3] = true) (hC : P.cellsOf e = 4) (k0 : P.underlying f0.type = some (.int .i64)) (k1 : P.underlying f1.type = some (.int .u64)) (k2 : P.underlying f2.type = some (.int .i64)) (k3 : P.underlying f3.type = some .string)
    (hv : Value.okWide P w r b0 t v) (h : DataW.Trod enc P w base spare held t v d p) :
    ∃ (A : Option Addr) (c : Nat) (l : List Deed), v = .slice A l.length c ∧ SeesA w A l ∧ l.length ≤ c ∧ c ≤ maxLen ∧ ∀ x ∈ l, x.fine := by
  obtain ⟨A, n, c, rfl⟩ := okWide_slice ht hv
  obtain ⟨fuel, hf⟩ := h
  rcases open_slice_fields ht he hone hC hf with ⟨hcs, _⟩ | ⟨a, len, cap, m, D, Pl, hcs, _, hl, hm, hmm, _, hi⟩
  · simp [Value.cells] at hcs
    obtain ⟨rfl, rfl, rfl⟩ := hcs
    exact ⟨none, 0, [], rfl, fun i hi => by simp at hi, by simp, by simp, by simp⟩
  · simp [Value.cells] at hcs
    obtain ⟨rfl, rfl, rfl⟩ := hcs
    have hnm : n ≤ m := by rw [hmm]; split <;> omega
    have key : ∀ i, i < n → w.cell? (a.add (i * 4)) = some (.int .i64 (deedAt w (a.add (i * 4))).k) ∧ w.cell? ((a.add (i * 4)).add 1) = some (.int .u64 ((deedAt w (a.add (i * 4))).v : Int)) ∧ w.cell? ((a.add (i * 4)).add 2) = some (.int .i64 (deedAt w (a.add (i * 4))).n) ∧ w.cell? ((a.add (i * 4)).add 3) = some (.string (deedAt w (a.add (i * 4))).s) ∧ (deedAt w (a.add (i * 4))).fine := by
      intro i hin
      obtain ⟨ys, q, _, _, _, hg⟩ := hi i (by omega)
      obtain ⟨v0, y0, c0, _, t0⟩ := hg 0 f0 rfl
      obtain ⟨v1, y1, c1, _, t1⟩ := hg 1 f1 rfl
      obtain ⟨v2, y2, c2, _, t2⟩ := hg 2 f2 rfl
      obtain ⟨v3, y3, c3, _, t3⟩ := hg 3 f3 rfl
      obtain ⟨z0, rfl, _⟩ := int_raw k0 t0
      obtain ⟨z1, rfl, hz1⟩ := int_raw k1 t1
      obtain ⟨z2, rfl, _⟩ := int_raw k2 t2
      obtain ⟨s, hs, _⟩ := DataW.trod_string k3 t3
      injection hs with hs _
      subst hs
      have hw := wf_u64 hz1
      change w.cell? (a.add (i * 4 + 0)) = _ at c0
      change w.cell? (a.add (i * 4 + 1)) = _ at c1
      change w.cell? (a.add (i * 4 + 2)) = _ at c2
      change w.cell? (a.add (i * 4 + 3)) = _ at c3
      rw [Nat.add_zero] at c0
      rw [← addr_add] at c1 c2 c3
      unfold deedAt Deed.fine
      simp only [c0, c1, c2, c3]
      exact ⟨trivial, by rw [Int.toNat_of_nonneg hw.1], trivial, trivial, by omega⟩
    refine ⟨some a, c, (List.range n).map fun i => deedAt w (a.add (i * 4)), by simp, ?_, by simpa using hl, hm, ?_⟩
    · intro i hi'
      have hin : i < n := by simpa using hi'
      obtain ⟨h0, h1, h2, h3, _⟩ := key i hin
      refine ⟨a, rfl, ?_⟩
      simp only [List.getElem_map, List.getElem_range]
      exact ⟨h0, h1, h2, h3⟩
    · intro x hx
      obtain ⟨i, hi', rfl⟩ := List.mem_map.1 hx
      exact (key i (by simpa using hi')).2.2.2.2
end
end Go.Proofs.YtkmhmehofipehaaDoor
/- Rows of bytes: made, and with a frozen end. -/
namespace Go.Proofs.YtkmhmehofipehaaDoor
set_option linter.unusedVariables false
open Go.RowKit
theorem mk_info : (Tryd.prog.info? 5).map (fun i => (i.zero, i.size, i.bytes)) = some (some (.int .u8 0), 1, 1) := by kernel_rfl
theorem mk_bytes (n : Nat) (hn : n ≤ 281474976710656) (w : World) : (Instr.makeSlice 32 (.int .i64 (n : Int)) (.int .i64 (n : Int))).run Tryd.prog w =
    .ok (.slice (some ⟨w.heap.size, 0, none⟩) n n) (w.alloc (.cells (madeCells #[.int .u8 0] n) 5)) := by
  obtain ⟨i, h0, h1, h2, h3⟩ := info_parts mk_info
  have hr := run_make (P := Tryd.prog) w 32 5 i (.int .u8 0) Tryd.underlying32 h0 h1 .i64 .i64 n n (by omega) (by omega) (by rw [h3]; omega) (by omega)
  simp only [Int.toNat_natCast, h2, Nat.mul_one] at hr
  exact hr
theorem mk_own (n : Nat) (hn : n ≤ 281474976710656) (w : World) : (w.alloc (.cells (madeCells #[.int .u8 0] n) 5)).ownsRow w.heap.size 5 1 (.slice (some ⟨w.heap.size, 0, none⟩) n n) n (List.replicate n (.int .u8 0)) := by
  refine ⟨by simp, .inr ⟨w.heap.size, n, _, rfl, Nat.le_refl _, heap_alloc_new _ _, Nat.le_refl _, by unfold maxLen; omega, by simp [size_madeCells], ?_⟩⟩
  rw [toList_madeCells_one, Nat.mul_one, List.take_of_length_le (by simp)]
/-- a row of bytes whose end may be frozen -/
def RowF (w : World) (g : Nat) (fr : Nat × Nat) (xs : List Value) : Prop := ∃ cur : Array Value, w.heap[g]? = some (.cells cur 5 fr) ∧ xs.length ≤ fr.1 ∧ xs.length ≤ cur.size ∧ cur.toList.take xs.length = xs
theorem RowF.cellAt {w : World} {g : Nat} {fr : Nat × Nat} {xs : List Value} (h : RowF w g fr xs) (j : Nat) (hj : j < xs.length) : w.cell? ⟨g, j, none⟩ = xs[j]? := by
  obtain ⟨cur, hg, h1, h2, h3⟩ := h
  rw [cell_of_row w g j cur 5 fr hg]
  have : xs[j]? = (cur.toList.take xs.length)[j]? := by rw [h3]
  rw [this, List.getElem?_take, if_pos hj]
  simp
theorem RowF.frozenAt {w : World} {g : Nat} {fr : Nat × Nat} {xs : List Value} (h : RowF w g fr xs) (j : Nat) (hj : j < xs.length) : w.frozen? ⟨g, j, none⟩ = false := by
  obtain ⟨cur, hg, h1, h2, h3⟩ := h
  obtain ⟨lo, hi⟩ := fr
  simp only [World.frozen?, hg]
  have : ¬ lo ≤ j := by have : xs.length ≤ lo := h1; omega
  simp [this]
theorem RowF.stored {w : World} {g : Nat} {fr : Nat × Nat} {xs : List Value} (h : RowF w g fr xs) (j : Nat) (u : Value) : RowF (w.setCell ⟨g, j, none⟩ u) g fr (xs.set j u) := by
  obtain ⟨cur, hg, h1, h2, h3⟩ := h
  refine ⟨cur.setIfInBounds j u, ?_, by simpa using h1, by simpa using h2, ?_⟩
  · simp [World.setCell, Array.getElem?_modify, hg]
  · rw [List.length_set, Array.toList_setIfInBounds, List.take_set, h3]
theorem RowF.sees {w : World} {g : Nat} {fr : Nat × Nat} {l : List UInt8} (h : RowF w g fr (l.map byteV)) : SeesB w (some ⟨g, 0, none⟩) l := by
  intro i v hv
  refine ⟨_, rfl, ?_⟩
  have e : (Addr.add ⟨g, 0, none⟩ i) = ⟨g, i, none⟩ := by unfold Addr.add; split <;> simp_all
  rw [e, h.cellAt i (List.getElem?_eq_some_iff.1 hv).1, hv]
/-- a text as a row of bytes -/
theorem conv_row (s : ByteArray) (w : World) : ∃ (c : Nat) (fr : Nat × Nat) (w' : World), (convert 9 32 (.string s)).run Tryd.prog w = .ok (.slice (some ⟨w.heap.size, 0, none⟩) s.size c) w' ∧ Below w.heap.size w w' ∧ RowF w' w.heap.size fr (s.data.toList.map byteV) ∧ s.data.toList.length = s.size := by
  refine ⟨_, ((Lib.bytesCells w 5 s).size, (Lib.bytesCells w 5 s).size + 1), _, Lib.run_convert_string_bytes w _ _ _ s Tryd.underlying9 Tryd.underlying32 Tryd.underlying5, ⟨rfl, rfl, rfl, by rw [Lib.bytesWorld_size]; omega, fun b hb => Lib.bytesWorld_at_old w _ s b hb⟩, ?_, by rw [Array.length_toList]; rfl⟩
  have hl : (s.data.toList.map byteV).length = s.data.size := by rw [List.length_map, Array.length_toList]
  have hz : s.data.size ≤ (Lib.bytesCells w 5 s).size := by unfold Lib.bytesCells; simp
  refine ⟨_, Lib.bytesWorld_at_new w _ s, by rw [hl]; exact hz, by rw [hl]; exact hz, ?_⟩
  rw [hl]
  unfold Lib.bytesCells
  rw [Array.toList_append, List.take_append_of_le_length (by simp)]
  rw [List.take_of_length_le (by simp)]
  simp [byteV]
end Go.Proofs.YtkmhmehofipehaaDoor
/- Small letters: the program's and the reference's. -/
namespace Go.Proofs.YtkmhmehofipehaaDoor
set_option linter.unusedVariables false
open Go.RowKit
def foldN (n : Nat) : Nat := if 65 ≤ n ∧ n ≤ 90 then n + 32 else n
theorem foldN_lt (n : Nat) (h : n < 256) : foldN n < 256 := by unfold foldN; split <;> omega
def foldB (b : UInt8) : UInt8 := UInt8.ofNat (foldN b.toNat)
theorem foldB_v (b : UInt8) : byteV (foldB b) = .int .u8 (foldN b.toNat : Nat) := by
  have := foldN_lt b.toNat b.toNat_lt
  unfold byteV foldB
  rw [UInt8.toNat_ofNat', Nat.mod_eq_of_lt this]
def foldS (s : ByteArray) : ByteArray := ⟨(s.data.toList.map foldB).toArray⟩
theorem foldS_size (s : ByteArray) : (foldS s).size = s.size := by
  show (s.data.toList.map foldB).toArray.size = s.data.size
  simp
theorem small_any (b : UInt8) (w : World) : Calls Tryd.prog 115 #[byteV b] w fun e w' => e = .returned (byteV (foldB b)) ∧ w = w' := by
  rw [foldB_v]
  have hb := b.toNat_lt
  unfold byteV
  generalize b.toNat = x at *
  by_cases h1 : 65 ≤ x
  · have d1 : decide (65 ≤ (x : Int)) = true := decide_eq_true (by omega)
    by_cases h2 : x ≤ 90
    · have d2 : decide ((x : Int) ≤ 90) = true := decide_eq_true (by omega)
      have e : ((foldN x : Nat) : Int) = (x : Int) + 32 := by unfold foldN; rw [if_pos ⟨h1, h2⟩]; omega
      rw [e]
      clear e
      have z : ((x : Int) + 32) % 256 = (x : Int) + 32 := by omega
      go_enter Tryd.func115, Tryd.ntmps115
      go_wp2_with fail
      go_ret
      exact ⟨rfl, rfl⟩
    · have d2 : decide ((x : Int) ≤ 90) = false := decide_eq_false (by omega)
      have e : foldN x = x := by unfold foldN; rw [if_neg (by omega)]
      rw [e]
      clear e
      go_enter Tryd.func115, Tryd.ntmps115
      go_wp2_with fail
      go_ret
      exact ⟨rfl, rfl⟩
  · have d1 : decide (65 ≤ (x : Int)) = false := decide_eq_false (by omega)
    have e : foldN x = x := by unfold foldN; rw [if_neg (by omega)]
    rw [e]
    clear e
    go_enter Tryd.func115, Tryd.ntmps115
    go_wp2_with fail
    go_ret
    exact ⟨rfl, rfl⟩
/-- the first so many bytes are small -/
def foldTo (l : List UInt8) (k : Nat) : List UInt8 := (l.take k).map foldB ++ l.drop k
theorem foldTo_length (l : List UInt8) (k : Nat) : (foldTo l k).length = l.length := by unfold foldTo; simp; omega
theorem foldTo_at (l : List UInt8) (k : Nat) (h : k < l.length) : (foldTo l k)[k]? = some l[k] := by
  unfold foldTo
  rw [List.getElem?_append_right (by simp; omega)]
  simp [h, Nat.min_eq_left (Nat.le_of_lt h)]
theorem foldTo_set (l : List UInt8) (k : Nat) (h : k < l.length) : (foldTo l k).set k (foldB l[k]) = foldTo l (k + 1) := by
  unfold foldTo
  rw [List.set_append_right _ _ (by simp; omega)]
  have e : k - (List.map foldB (List.take k l)).length = 0 := by simp; omega
  rw [e, List.drop_eq_getElem_cons h, List.set_cons_zero, List.take_succ_eq_append_getElem h, List.map_append, List.append_assoc]
  rfl
theorem foldTo_all (l : List UInt8) : foldTo l l.length = l.map foldB := by unfold foldTo; simp
set_option maxRecDepth 20000 in
set_option maxHeartbeats 1000000 in
theorem fold_any (s : ByteArray) (w : World) (hs : s.size ≤ 140737488355328) :
    Calls Tryd.prog 111 #[.string s] w fun e w' => e = .returned (.string (foldS s)) ∧ Below w.heap.size w w' := by
  obtain ⟨c, fr, w1, hcv, hb, hrow, hlen⟩ := conv_row s w
  unfold foldS
  generalize s.data.toList = l at *
  have hsl : l.length ≤ 140737488355328 := by omega
  go_enter Tryd.func111, Tryd.ntmps111
  go_wp2_with fail
  rw [← hlen] at *
  go_loopw [10] (fun i wr => ∃ k : Nat, k ≤ l.length ∧ i = .int .i64 (k : Int) ∧ RowF wr w.heap.size fr ((foldTo l k).map byteV) ∧ Below w.heap.size w wr) (fun i _ => l.length - (intOf i).toNat)
  case atStart => exact ⟨0, by omega, rfl, by simpa [foldTo] using hrow, hb⟩
  case round =>
    obtain ⟨k, hk, rfl, hr, hbr⟩ := hrel
    by_cases hlt : k < l.length
    · have dk : decide ((k : Int) < (l.length : Int)) = true := decide_eq_true (by omega)
      have hm : k < ((foldTo l k).map byteV).length := by rw [List.length_map, foldTo_length]; exact hlt
      have hc := hr.cellAt k hm
      rw [List.getElem?_map, foldTo_at l k hlt, Option.map_some] at hc
      have hf := hr.frozenAt k hm
      have hst := hr.stored k (byteV (foldB l[k]))
      rw [← List.map_set, foldTo_set l k hlt] at hst
      clear hr hm
      have hcall := small_any l[k] wr
      generalize byteV l[k] = bv at *
      obtain ⟨y, hy⟩ : ∃ y : Int, byteV (foldB l[k]) = .int .u8 y := ⟨_, rfl⟩
      rw [hy] at hst hcall
      clear hy
      go_wp2_with fail
      refine hcall.mono ?_
      rintro e w2 ⟨rfl, rfl⟩
      clear hcall
      go_wp2_with fail
      exact ⟨⟨k + 1, by omega, by go_num, hst, hbr.setCell (Nat.le_refl _) _⟩, by simp [intOf]; omega⟩
    · obtain rfl : k = l.length := by omega
      have dk : decide ((l.length : Int) < (l.length : Int)) = false := decide_eq_false (by omega)
      rw [foldTo_all] at hr
      have hcv2 := conv_bs (some ⟨w.heap.size, 0, none⟩) c (l.map foldB) wr hr.sees
      rw [List.length_map] at hcv2
      clear hcv
      go_wp2_with fail
      go_ret
      exact ⟨rfl, hbr⟩
end Go.Proofs.YtkmhmehofipehaaDoor
/- Small letters: the reference's. -/
namespace Go.Proofs.YtkmhmehofipehaaDoor
set_option linter.unusedVariables false
open Go.RowKit
def fillTo (l : List UInt8) (k : Nat) : List Value := (l.take k).map (fun b => byteV (foldB b)) ++ List.replicate (l.length - k) (.int .u8 0)
theorem fillTo_length (l : List UInt8) (k : Nat) (h : k ≤ l.length) : (fillTo l k).length = l.length := by unfold fillTo; simp; omega
theorem fillTo_set (l : List UInt8) (k : Nat) (h : k < l.length) : (fillTo l k).set k (byteV (foldB l[k])) = fillTo l (k + 1) := by
  unfold fillTo
  rw [List.set_append_right _ _ (by simp; omega)]
  have e : k - (List.map (fun b => byteV (foldB b)) (List.take k l)).length = 0 := by simp; omega
  obtain ⟨m, hm⟩ : ∃ m, l.length - k = m + 1 := ⟨l.length - k - 1, by omega⟩
  rw [e, hm, show l.length - (k + 1) = m by omega, List.replicate_succ, List.set_cons_zero, List.take_succ_eq_append_getElem h, List.map_append, List.append_assoc]
  rfl
theorem fillTo_all (l : List UInt8) : fillTo l l.length = (l.map foldB).map byteV := by unfold fillTo; simp
set_option maxRecDepth 20000 in
set_option maxHeartbeats 1000000 in
theorem rfold_any (s : ByteArray) (w : World) (hs : s.size ≤ 140737488355328) :
    Calls Tryd.prog 80 #[.string s] w fun e w' => e = .returned (.string (foldS s)) ∧ Below w.heap.size w w' := by
  have hmk := mk_bytes s.size (by omega) w
  have hown := mk_own s.size (by omega) w
  have hb0 : Below w.heap.size w (w.alloc (.cells (madeCells #[.int .u8 0] s.size) 5)) := (Below.refl _ _).alloc (Nat.le_refl _) _
  have hidx : ∀ (k : Nat) (h : k < s.size), ∃ h2 : k < s.data.toList.length, s[k]'h = s.data.toList[k] := fun k h => ⟨by simpa using h, by simp [ByteArray.getElem_eq_getElem_data]⟩
  have hlen : s.data.toList.length = s.size := by rw [Array.length_toList]; rfl
  unfold foldS
  generalize s.data.toList = l at *
  go_enter Tryd.func80, Tryd.ntmps80
  go_wp2_with fail
  generalize hw0 : w.alloc (.cells (madeCells #[.int .u8 0] s.size) 5) = w0 at *
  clear hw0
  go_loopw [4] (fun i wr => ∃ k : Nat, k ≤ s.size ∧ i = .int .i64 (k : Int) ∧ wr.ownsRow w.heap.size 5 1 (.slice (some ⟨w.heap.size, 0, none⟩) s.size s.size) s.size (fillTo l k) ∧ Below w.heap.size w wr) (fun i _ => s.size - (intOf i).toNat)
  case atStart => exact ⟨0, by omega, rfl, by simpa [fillTo, hlen] using hown, hb0⟩
  case round =>
    obtain ⟨k, hk, rfl, ho, hb⟩ := hrel
    by_cases hlt : k < s.size
    · have dk : decide ((k : Int) < (s.size : Int)) = true := decide_eq_true (by omega)
      have hlt' : k < s.size := by omega
      obtain ⟨h2, hix⟩ := hidx k hlt'
      have hxb := (l[k]'h2).toNat_lt
      have hset := fillTo_set l k h2
      rw [foldB_v] at hset
      have hFN := hid (show foldN (l[k]'h2).toNat = if 65 ≤ (l[k]'h2).toNat ∧ (l[k]'h2).toNat ≤ 90 then (l[k]'h2).toNat + 32 else (l[k]'h2).toNat from rfl)
      have hxn : (s[k]'hlt').toNat = (l[k]'h2).toNat := by rw [hix]
      clear hix
      generalize (l[k]'h2).toNat = x at *
      have hgc : ∀ u : Value, ∃ v, (fillTo l k)[k]? = some v := fun u => ⟨_, List.getElem?_eq_getElem (by rw [fillTo_length l k (by omega)]; omega)⟩
      obtain ⟨u0, hu0⟩ := hgc undef
      have hc := (ho.cellAt k (by omega)).trans hu0
      have hf := ho.frozenAt k
      have hst := (ho.stored k (.int .u8 (x : Int))).1
      have hb1 : Below w.heap.size w (wr.setCell ⟨w.heap.size, k, none⟩ (.int .u8 (x : Int))) := hb.setCell (Nat.le_refl _) _
      by_cases h65 : 65 ≤ x
      · have d65 : decide (65 ≤ (x : Int)) = true := decide_eq_true (by omega)
        by_cases h90 : x ≤ 90
        · have d90 : decide ((x : Int) ≤ 90) = true := decide_eq_true (by omega)
          have z : ((x : Int) + 32) % 256 = (x : Int) + 32 := by omega
          have hc2 := hst.cellAt k (by omega)
          rw [List.getElem?_set_self (by rw [fillTo_length l k (by omega)]; omega)] at hc2
          have hf2 := hst.frozenAt k
          have hst2 := (hst.stored k (.int .u8 ((x : Int) + 32))).1
          have hb2 : Below w.heap.size w ((wr.setCell ⟨w.heap.size, k, none⟩ (.int .u8 (x : Int))).setCell ⟨w.heap.size, k, none⟩ (.int .u8 ((x : Int) + 32))) := hb1.setCell (Nat.le_refl _) _
          rw [List.set_set, show (x : Int) + 32 = ((foldN x : Nat) : Int) by rw [hFN.out, if_pos ⟨h65, h90⟩]; omega, hset] at hst2
          rw [show ((foldN x : Nat) : Int) = (x : Int) + 32 by rw [hFN.out, if_pos ⟨h65, h90⟩]; omega] at hst2
          clear hst hset ho
          go_wp2_with fail
          exact ⟨⟨k + 1, by omega, by go_num, hst2, hb2⟩, by simp [intOf]; omega⟩
        · have d90 : decide ((x : Int) ≤ 90) = false := decide_eq_false (by omega)
          rw [show foldN x = x by rw [hFN.out, if_neg (by omega)]] at hset
          rw [hset] at hst
          clear hset ho
          go_wp2_with fail
          exact ⟨⟨k + 1, by omega, by go_num, hst, hb1⟩, by simp [intOf]; omega⟩
      · have d65 : decide (65 ≤ (x : Int)) = false := decide_eq_false (by omega)
        rw [show foldN x = x by rw [hFN.out, if_neg (by omega)]] at hset
        rw [hset] at hst
        clear hset ho
        go_wp2_with fail
        exact ⟨⟨k + 1, by omega, by go_num, hst, hb1⟩, by simp [intOf]; omega⟩
    · obtain rfl : k = s.size := by omega
      have dk : decide ((s.size : Int) < (s.size : Int)) = false := decide_eq_false (by omega)
      rw [show fillTo l s.size = (l.map foldB).map byteV by rw [← hlen, fillTo_all]] at ho
      have hsee : SeesB wr (some ⟨w.heap.size, 0, none⟩) (l.map foldB) := own_sees ho
      have hcv2 := conv_bs (some ⟨w.heap.size, 0, none⟩) s.size (l.map foldB) wr hsee
      rw [List.length_map, hlen] at hcv2
      clear ho hsee
      go_wp2_with fail
      go_ret
      exact ⟨rfl, hb⟩
end Go.Proofs.YtkmhmehofipehaaDoor
