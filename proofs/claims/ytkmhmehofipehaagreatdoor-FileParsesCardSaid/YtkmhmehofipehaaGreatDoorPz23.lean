/- A block opened by the reference: where its payload lies. -/
import Derived.Test.YtkmhmehofipehaaGreatDoorPz7
import Derived.Test.YtkmhmehofipehaaGreatDoorPz10
import Derived.Deep.QuietTactic
import Derived.BigQuiet
namespace Go.Proofs.YtkmhmehofipehaaGreatDoor
set_option linter.unusedVariables false
open Go.RowKit
def OpenPostR (A0 : Option Addr) (w : World) (r : Int × HeadV × List UInt8 × Int) (e : Ending) (w' : World) : Prop :=
  ∃ (A : Option Addr) (c : Nat), e = .returned (.tuple #[.agg r.2.1.cells, .slice A r.2.2.1.length c, .int .u32 r.2.2.2, .int .i64 r.1]) ∧ SeesB w' A r.2.2.1 ∧ r.2.2.1.length ≤ c ∧ c ≤ maxLen ∧ Below w.heap.size w w' ∧ ∀ x, A = some x → ∃ a0, A0 = some a0 ∧ x.block = a0.block
set_option maxHeartbeats 2000000 in
theorem hropenR_err (A : Option Addr) (c : Nat) (l : List UInt8) (w : World) (hl : SeesB w A l) (hc : l.length ≤ c) (hcm : c ≤ maxLen) (hlen : l.length ≤ 140737488355328) (he : (getH l).1 ≠ 0) :
    Calls Tryz.prog 19 #[.slice A l.length c] w (OpenPostR A w ((getH l).1, HeadV.zero, [], 0)) := by
  have HG := hid (fun W (hl : SeesB W A l) => hrget_any A c l W hl hc hcm hlen)
  have d1 : ((getH l).1 != 0) = true := by simpa using he
  generalize getH l = r at *
  obtain ⟨er, k, idx, len, stp, bnd, lst, lnk, siz⟩ := r
  unfold GetHPost HeadV.cells at HG
  simp only at HG d1
  clear he
  have hb : Below w.heap.size w (w.alloc (.cells #[.int .i64 0, .int .i64 0, .int .i64 0, .int .i64 0, .int .i64 0, .bool false, .int .u32 0, .int .i64 0] 67)) := (Below.refl _ w).alloc (Nat.le_refl _) _
  have hrow := heap_alloc_new w (.cells #[.int .i64 0, .int .i64 0, .int .i64 0, .int .i64 0, .int .i64 0, .bool false, .int .u32 0, .int .i64 0] 67)
  go_enter Tryz.func19, Tryz.ntmps19
  go_wp2_with fail
  generalize w.alloc (.cells #[.int .i64 0, .int .i64 0, .int .i64 0, .int .i64 0, .int .i64 0, .bool false, .int .u32 0, .int .i64 0] 67) = w0 at *
  have hlt0 : w.heap.size < w0.heap.size := (Array.getElem?_eq_some_iff.1 hrow).1
  refine (HG.out w0 (hl.below hb)).mono ?_
  rintro e w1 ⟨rfl, hb1⟩
  have hbw1 := hb.trans (hb1.mono hb.size)
  have hrow1 := (hb1.block w.heap.size hlt0).trans hrow
  have hlt1 := Nat.lt_of_lt_of_le hlt0 hb1.size
  have hb2 : Below w1.heap.size w1 (w1.alloc (.cells #[.int .i64 k, .int .i64 idx, .int .i64 len, .int .i64 stp, .int .i64 bnd, .bool lst, .int .u32 lnk, .int .i64 siz] 67)) := (Below.refl _ _).alloc (Nat.le_refl _) _
  have hr2 := heap_alloc_new w1 (.cells #[.int .i64 k, .int .i64 idx, .int .i64 len, .int .i64 stp, .int .i64 bnd, .bool lst, .int .u32 lnk, .int .i64 siz] 67)
  have hbw2 := hbw1.trans (hb2.mono hbw1.size)
  have hrow2 := (hb2.block w.heap.size hlt1).trans hrow1
  have hlt1w := hlt1
  clear hb hrow hb1 hbw1 hrow1 hb2 hlt1 HG
  go_wp2_with first | (refine wpList_store_row rfl 67 (.tmp 2) (.tmp 16) rfl rfl w.heap.size rfl #[.int .i64 0, .int .i64 0, .int .i64 0, .int .i64 0, .int .i64 0, .bool false, .int .u32 0, .int .i64 0] rfl 67 #[.int .i64 0, .int .i64 0, .int .i64 0, .int .i64 0, .int .i64 0, .bool false, .int .u32 0, .int .i64 0] hrow2 (by kernel_rfl) rfl (by simp [Value.oneCell']) ?_)
  exact bodyPost_ret (v := .tuple #[.agg #[.int .i64 0, .int .i64 0, .int .i64 0, .int .i64 0, .int .i64 0, .bool false, .int .u32 0, .int .i64 0], .slice none 0 0, .int .u32 0, .int .i64 er]) (results_row_tmp3 (fn := Tryz.f19) (p := 2) (u := 3) (x := 4) (y := 5) (ty := 67) rfl _ _ w.heap.size _ _ _ _ rfl (setRow_heap _ _ _ _ _ _ hrow2) Tryz.underlying67 rfl (by kernel_rfl)) rfl ⟨none, 0, rfl, Sees.nil _ _, Nat.le_refl _, Nat.zero_le _, below_setRow hbw2 (Nat.le_refl _) _, fun a ha => by cases ha⟩
set_option maxRecDepth 40000 in
set_option maxHeartbeats 8000000 in
theorem hropenR_ok (A : Option Addr) (c : Nat) (l : List UInt8) (w : World) (hl : SeesB w A l) (hc : l.length ≤ c) (hcm : c ≤ maxLen) (hlen : l.length ≤ 140737488355328) (he : (getH l).1 = 0) :
    Calls Tryz.prog 19 #[.slice A l.length c] w (OpenPostR A w (openH l)) := by
  obtain ⟨_, h32, _, _, hsd⟩ := getH_ok he
  obtain ⟨R, hR⟩ : ∃ R, R = openH l := ⟨_, rfl⟩
  rw [← hR]
  have hgl : getH l = (0, saidH l) := Prod.ext he hsd
  have hR2 : R = if l.length < 36 + fldH l 24 4 then (10, HeadV.zero, [], 0) else if sumI (l.take (32 + fldH l 24 4)) ≠ (fldH l (32 + fldH l 24 4) 4 : Int) then (33, HeadV.zero, [], 0) else (0, saidH l, (l.drop 32).take (fldH l 24 4), sumI (l.take (32 + fldH l 24 4))) := by
    rw [hR]; unfold openH; rw [if_neg (by simpa using he), hsd]
  have HR := hid hR2
  obtain ⟨a, rfl, _⟩ := hl.at (show 0 < l.length by omega)
  have HG := hid (fun W (hl : SeesB W (some a) l) => hrget_any (some a) c l W hl hc hcm hlen)
  rw [hgl] at HG
  unfold GetHPost saidH HeadV.cells at HG
  unfold saidH at HR
  simp only at HG
  have hn : fldH l 24 4 < 4294967296 := fldH_lt l 24 4
  generalize fldH l 24 4 = n at *
  generalize ((fldH l 2 1 : Nat) : Int) = k at *
  generalize ((fldH l 4 4 : Nat) : Int) = idx at *
  generalize ((fldH l 8 4 : Nat) : Int) = len at *
  generalize ((fldH l 12 4 : Nat) : Int) = stp at *
  generalize ((fldH l 16 4 : Nat) : Int) = bnd at *
  generalize (fldH l 3 1 == 1) = lst at *
  generalize ((fldH l 20 4 : Nat) : Int) = lnk at *
  clear hR hR2 hgl hsd he
  by_cases hlong : l.length < 36 + n
  · have d2 : decide ((l.length : Int) < 36 + (n : Int)) = true := decide_eq_true (by omega)
    obtain rfl : R = (10, HeadV.zero, [], 0) := by rw [HR.out, if_pos hlong]
    clear hlong HR
    have hb : Below w.heap.size w (w.alloc (.cells #[.int .i64 0, .int .i64 0, .int .i64 0, .int .i64 0, .int .i64 0, .bool false, .int .u32 0, .int .i64 0] 67)) := (Below.refl _ w).alloc (Nat.le_refl _) _
    have hrow := heap_alloc_new w (.cells #[.int .i64 0, .int .i64 0, .int .i64 0, .int .i64 0, .int .i64 0, .bool false, .int .u32 0, .int .i64 0] 67)
    go_enter Tryz.func19, Tryz.ntmps19
    go_wp2_with fail
    generalize w.alloc (.cells #[.int .i64 0, .int .i64 0, .int .i64 0, .int .i64 0, .int .i64 0, .bool false, .int .u32 0, .int .i64 0] 67) = w0 at *
    have hlt0 : w.heap.size < w0.heap.size := (Array.getElem?_eq_some_iff.1 hrow).1
    refine (HG.out w0 (hl.below hb)).mono ?_
    rintro e w1 ⟨rfl, hb1⟩
    have hbw1 := hb.trans (hb1.mono hb.size)
    have hrow1 := (hb1.block w.heap.size hlt0).trans hrow
    have hlt1 := Nat.lt_of_lt_of_le hlt0 hb1.size
    have hb2 : Below w1.heap.size w1 (w1.alloc (.cells #[.int .i64 k, .int .i64 idx, .int .i64 len, .int .i64 stp, .int .i64 bnd, .bool lst, .int .u32 lnk, .int .i64 (n : Nat)] 67)) := (Below.refl _ _).alloc (Nat.le_refl _) _
    have hr2 := heap_alloc_new w1 (.cells #[.int .i64 k, .int .i64 idx, .int .i64 len, .int .i64 stp, .int .i64 bnd, .bool lst, .int .u32 lnk, .int .i64 (n : Nat)] 67)
    have hbw2 := hbw1.trans (hb2.mono hbw1.size)
    have hrow2 := (hb2.block w.heap.size hlt1).trans hrow1
    have hlt1w := hlt1
    clear hb hrow hb1 hbw1 hrow1 hb2 hlt1 HG
    have k7 : (w1.alloc (.cells #[.int .i64 k, .int .i64 idx, .int .i64 len, .int .i64 stp, .int .i64 bnd, .bool lst, .int .u32 lnk, .int .i64 (n : Nat)] 67)).cell? ⟨w1.heap.size, 7, none⟩ = some (.int .i64 (n : Nat)) := by rw [cell_of_row _ _ _ _ _ _ hr2]; rfl
    go_wp2_with first | (refine wpList_store_row rfl 67 (.tmp 2) (.tmp 24) rfl rfl w.heap.size rfl #[.int .i64 0, .int .i64 0, .int .i64 0, .int .i64 0, .int .i64 0, .bool false, .int .u32 0, .int .i64 0] rfl 67 #[.int .i64 0, .int .i64 0, .int .i64 0, .int .i64 0, .int .i64 0, .bool false, .int .u32 0, .int .i64 0] hrow2 (by kernel_rfl) rfl (by simp [Value.oneCell']) ?_)
    exact bodyPost_ret (v := .tuple #[.agg #[.int .i64 0, .int .i64 0, .int .i64 0, .int .i64 0, .int .i64 0, .bool false, .int .u32 0, .int .i64 0], .slice none 0 0, .int .u32 0, .int .i64 10]) (results_row_tmp3 (fn := Tryz.f19) (p := 2) (u := 3) (x := 4) (y := 5) (ty := 67) rfl _ _ w.heap.size _ _ _ _ rfl (setRow_heap _ _ _ _ _ _ hrow2) Tryz.underlying67 rfl (by kernel_rfl)) rfl ⟨none, 0, rfl, Sees.nil _ _, Nat.le_refl _, Nat.zero_le _, below_setRow hbw2 (Nat.le_refl _) _, fun a ha => by cases ha⟩
  have d2 : decide ((l.length : Int) < 36 + (n : Int)) = false := decide_eq_false (by omega)
  have hst : (l.take (32 + n)).length = 32 + n := by rw [List.length_take]; omega
  have hsr := sumI_range (l.take (32 + n))
  obtain ⟨S, hS⟩ := Int.eq_ofNat_of_zero_le hsr.1
  have hsum := fun W (hl : SeesB W (some a) (l.take (32 + n))) => rsum_any (some a) c (l.take (32 + n)) W hl (by omega)
  rw [hst, hS] at hsum
  rw [hS] at hsr
  have hS4 : S < 4294967296 := by omega
  have hat := fun W (h : SeesB W (some a) l) => hrat_any a c l (32 + n) W h (by omega) hc hcm
  rw [show ((32 + n : Nat) : Int) = 32 + (n : Int) by omega] at hat
  have v5 : fldH l (32 + n) 4 < 4294967296 := fldH_lt l (32 + n) 4
  obtain ⟨p, hp⟩ : ∃ p, p = (l.drop 32).take n := ⟨_, rfl⟩
  have hpl : p.length = n := by rw [hp]; simp; omega
  have hmid : Hid (S ≠ fldH l (32 + n) 4 → R = (33, HeadV.zero, [], 0)) := hid (fun h => by rw [HR.out, if_neg hlong, if_pos (by rw [hS]; omega)])
  have hmid2 : Hid (S = fldH l (32 + n) 4 → R = (0, ⟨k, idx, len, stp, bnd, lst, lnk, n⟩, p, (S : Int))) := hid (fun h => by rw [HR.out, if_neg hlong, if_neg (by rw [hS, h]; simp), hS, hp])
  generalize fldH l (32 + n) 4 = su at *
  have HSUM := hid hsum
  have HAT := hid hat
  have HPL := hid hpl
  have g1 : (32 : Int) + n ≤ c := by omega
  have g2 : ¬ c = 32 + n := by omega
  have g3 : (32 : Int) + n ≤ l.length := by omega
  have g4 : (l.length : Int) ≤ c := by omega
  have g5 : ¬ c = 32 := by omega
  have g6 : (0 : Int) ≤ 32 + n := by omega
  have g7 : (32 : Int) ≤ 32 + n := by omega
  clear hat hsum hS hsr hst HR hpl hlong
  have hb : Below w.heap.size w (w.alloc (.cells #[.int .i64 0, .int .i64 0, .int .i64 0, .int .i64 0, .int .i64 0, .bool false, .int .u32 0, .int .i64 0] 67)) := (Below.refl _ w).alloc (Nat.le_refl _) _
  have hrow := heap_alloc_new w (.cells #[.int .i64 0, .int .i64 0, .int .i64 0, .int .i64 0, .int .i64 0, .bool false, .int .u32 0, .int .i64 0] 67)
  go_enter Tryz.func19, Tryz.ntmps19
  go_wp2_with fail
  generalize w.alloc (.cells #[.int .i64 0, .int .i64 0, .int .i64 0, .int .i64 0, .int .i64 0, .bool false, .int .u32 0, .int .i64 0] 67) = w0 at *
  have hlt0 : w.heap.size < w0.heap.size := (Array.getElem?_eq_some_iff.1 hrow).1
  refine (HG.out w0 (hl.below hb)).mono ?_
  rintro e w1 ⟨rfl, hb1⟩
  have hbw1 := hb.trans (hb1.mono hb.size)
  have hrow1 := (hb1.block w.heap.size hlt0).trans hrow
  have hlt1 := Nat.lt_of_lt_of_le hlt0 hb1.size
  have hb2 : Below w1.heap.size w1 (w1.alloc (.cells #[.int .i64 k, .int .i64 idx, .int .i64 len, .int .i64 stp, .int .i64 bnd, .bool lst, .int .u32 lnk, .int .i64 (n : Nat)] 67)) := (Below.refl _ _).alloc (Nat.le_refl _) _
  have hr2 := heap_alloc_new w1 (.cells #[.int .i64 k, .int .i64 idx, .int .i64 len, .int .i64 stp, .int .i64 bnd, .bool lst, .int .u32 lnk, .int .i64 (n : Nat)] 67)
  have hbw2 := hbw1.trans (hb2.mono hbw1.size)
  have hrow2 := (hb2.block w.heap.size hlt1).trans hrow1
  have hlt1w := hlt1
  clear hb hrow hb1 hbw1 hrow1 hb2 hlt1 HG
  have k7 : (w1.alloc (.cells #[.int .i64 k, .int .i64 idx, .int .i64 len, .int .i64 stp, .int .i64 bnd, .bool lst, .int .u32 lnk, .int .i64 (n : Nat)] 67)).cell? ⟨w1.heap.size, 7, none⟩ = some (.int .i64 (n : Nat)) := by rw [cell_of_row _ _ _ _ _ _ hr2]; rfl
  have hlt2 : w.heap.size < (w1.alloc (.cells #[.int .i64 k, .int .i64 idx, .int .i64 len, .int .i64 stp, .int .i64 bnd, .bool lst, .int .u32 lnk, .int .i64 (n : Nat)] 67)).heap.size := (Array.getElem?_eq_some_iff.1 hrow2).1
  have hlw := hl.below hbw2
  have hls : SeesB (w1.alloc (.cells #[.int .i64 k, .int .i64 idx, .int .i64 len, .int .i64 stp, .int .i64 bnd, .bool lst, .int .u32 lnk, .int .i64 (n : Nat)] 67)) (some a) (l.take (32 + n)) := by unfold SeesB; rw [List.map_take]; exact Sees.take hlw (32 + n)
  go_wp2_with fail
  generalize (w1.alloc (.cells #[.int .i64 k, .int .i64 idx, .int .i64 len, .int .i64 stp, .int .i64 bnd, .bool lst, .int .u32 lnk, .int .i64 (n : Nat)] 67)) = w2 at *
  refine (HSUM.out _ hls).mono ?_
  rintro e w3 ⟨rfl, rfl⟩
  go_wp2_with fail
  refine (HAT.out _ hlw).mono ?_
  rintro e w3 ⟨rfl, rfl⟩
  have hlt1 : w1.heap.size < w2.heap.size := (Array.getElem?_eq_some_iff.1 hr2).1
  clear hls HSUM HAT k7
  by_cases heq : S = su
  · have dd : ((S : Int) != (su : Int)) = false := by rw [heq]; simp
    obtain rfl := hmid2.out heq
    have hr5 : w2.drew.heap[w1.heap.size]? = some (.cells #[.int .i64 k, .int .i64 idx, .int .i64 len, .int .i64 stp, .int .i64 bnd, .bool lst, .int .u32 lnk, .int .i64 (n : Nat)] 67 (0, 0)) := hr2
    have hrow5 : w2.drew.heap[w.heap.size]? = some (.cells #[.int .i64 0, .int .i64 0, .int .i64 0, .int .i64 0, .int .i64 0, .bool false, .int .u32 0, .int .i64 0] 67 (0, 0)) := hrow2
    have hbw5 : Below w.heap.size w w2.drew := hbw2.drew
    have hrow8 := setRow_heap w2.drew w.heap.size _ #[.int .i64 k, .int .i64 idx, .int .i64 len, .int .i64 stp, .int .i64 bnd, .bool lst, .int .u32 lnk, .int .i64 (n : Nat)] _ _ hrow5
    have hr8 := (setRow_other w2.drew w.heap.size w1.heap.size #[.int .i64 k, .int .i64 idx, .int .i64 len, .int .i64 stp, .int .i64 bnd, .bool lst, .int .u32 lnk, .int .i64 (n : Nat)] (by omega)).trans hr5
    have hbw8 := below_setRow hbw5 (Nat.le_refl _) #[.int .i64 k, .int .i64 idx, .int .i64 len, .int .i64 stp, .int .i64 bnd, .bool lst, .int .u32 lnk, .int .i64 (n : Nat)]
    have hs8 : SeesB (w2.drew.setRow w.heap.size #[.int .i64 k, .int .i64 idx, .int .i64 len, .int .i64 stp, .int .i64 bnd, .bool lst, .int .u32 lnk, .int .i64 (n : Nat)]) (some { block := a.block, off := a.off + 32 }) p := by rw [hp]; exact (hl.below hbw8).cutTo 32 n
    have hp8 : n ≤ c - 32 := by omega
    have hc8 : c - 32 ≤ maxLen := by omega
    clear heq hmid hmid2 hp hl hlw
    have g8 : IntKind.i64.wrap (32 + (n : Int)) = 32 + (n : Int) := by rw [IntKind.wrap_i64]; omega
    go_wp2_with fail
    refine wp_region_held_drew (S := fun w' => w'.heap[w1.heap.size]? = some (.cells #[.int .i64 k, .int .i64 idx, .int .i64 len, .int .i64 stp, .int .i64 bnd, .bool lst, .int .u32 lnk, .int .i64 (n : Nat)] 67 (0, 0))) (by kernel_rfl) hr5 (fun hHeld => ?_)
    refine wpAnyH_takeD (i := 0) (d := some 40) (v := (.agg #[.int .i64 k, .int .i64 idx, .int .i64 len, .int .i64 stp, .int .i64 bnd, .bool lst, .int .u32 lnk, .int .i64 (n : Nat)])) rfl rfl (by kernel_rfl) (by kernel_rfl) (by kernel_rfl) (fun _ _ _ h => h) (Or.inl ⟨by rfl, ?hy0⟩) hHeld ?rest0
    case hy0 =>
      intro wS hS
      exact run_load_rowop 67 (.tmp 6) rfl w1.heap.size (by rfl) #[.int .i64 k, .int .i64 idx, .int .i64 len, .int .i64 stp, .int .i64 bnd, .bool lst, .int .u32 lnk, .int .i64 (n : Nat)] _ _ hS _ Tryz.underlying67 rfl (by kernel_rfl)
    (try simp only [Act.put, List.setIfInBounds_toArray, List.set_cons_zero, List.set_cons_succ])
    refine wpAnyH_takeD (i := 1) (d := some 41) (v := ?v1) rfl rfl (by kernel_rfl) (by kernel_rfl) (by kernel_rfl) (fun _ _ _ h => h) (Or.inl ⟨by rfl, ?hy1⟩) hHeld ?rest1
    case hy1 =>
      intro wS hS
      go_simp
      all_goals with_reducible rfl
    (try simp only [Act.put, List.setIfInBounds_toArray, List.set_cons_zero, List.set_cons_succ])
    refine wpAnyH_takeD (i := 2) (d := some 42) (v := ?v2) rfl rfl (by kernel_rfl) (by kernel_rfl) (by kernel_rfl) (fun _ _ _ h => h) (Or.inl ⟨by rfl, ?hy2⟩) hHeld ?rest2
    case hy2 =>
      intro wS hS
      go_simp
      all_goals with_reducible rfl
    (try simp only [Act.put, List.setIfInBounds_toArray, List.set_cons_zero, List.set_cons_succ])
    refine wpAnyH_takeD (i := 3) (d := some 43) (v := ?v3) rfl rfl (by kernel_rfl) (by kernel_rfl) (by kernel_rfl) (fun _ _ _ h => h) (Or.inl ⟨by rfl, ?hy3⟩) hHeld ?rest3
    case hy3 =>
      intro wS hS
      have k7 : wS.cell? ⟨w1.heap.size, 7, none⟩ = some (.int .i64 (n : Nat)) := by rw [cell_of_row _ _ _ _ _ _ hS]; rfl
      go_simp
      all_goals with_reducible rfl
    (try simp only [Act.put, List.setIfInBounds_toArray, List.set_cons_zero, List.set_cons_succ])
    refine wpAnyH_takeD (i := 4) (d := some 44) (v := ?v4) rfl rfl (by kernel_rfl) (by kernel_rfl) (by kernel_rfl) (fun _ _ _ h => h) (Or.inl ⟨by rfl, ?hy4⟩) hHeld ?rest4
    case hy4 =>
      intro wS hS
      go_simp
      all_goals with_reducible rfl
    (try simp only [Act.put, List.setIfInBounds_toArray, List.set_cons_zero, List.set_cons_succ])
    refine wpAnyH_takeD (i := 5) (d := some 45) (v := ?v5) rfl rfl (by kernel_rfl) (by kernel_rfl) (by kernel_rfl) (fun _ _ _ h => h) (Or.inl ⟨by rfl, ?hy5⟩) hHeld ?rest5
    case hy5 =>
      intro wS hS
      go_simp
      all_goals with_reducible rfl
    (try simp only [Act.put, List.setIfInBounds_toArray, List.set_cons_zero, List.set_cons_succ])
    refine wpAnyH_takeD (i := 6) (d := some 46) (v := ?v6) rfl rfl (by kernel_rfl) (by kernel_rfl) (by kernel_rfl) (fun _ _ _ h => h) (Or.inl ⟨by rfl, ?hy6⟩) hHeld ?rest6
    case hy6 =>
      intro wS hS
      go_simp
      all_goals with_reducible rfl
    (try simp only [Act.put, List.setIfInBounds_toArray, List.set_cons_zero, List.set_cons_succ])
    refine wpAnyH_ready (rs := [7]) (by kernel_rfl) (by simp) (AllReadyH.cons rfl (fun K hK => ?_) AllReadyH.nil)
    rw [if_pos (by rfl)]
    refine wp_store_row 67 (.tmp 2) (.tmp 40) rfl rfl w.heap.size rfl #[.int .i64 k, .int .i64 idx, .int .i64 len, .int .i64 stp, .int .i64 bnd, .bool lst, .int .u32 lnk, .int .i64 (n : Nat)] rfl 67 #[.int .i64 0, .int .i64 0, .int .i64 0, .int .i64 0, .int .i64 0, .bool false, .int .u32 0, .int .i64 0] hrow5 (by kernel_rfl) rfl (by simp [Value.oneCell']) ?_
    refine hK.out _ _ hr8 (fun hHeld => ?_)
    clear hK K
    (try simp only [Act.put, List.setIfInBounds_toArray, List.set_cons_zero, List.set_cons_succ])
    refine wpAnyH_takeD (i := 8) (d := some 3) (v := ?v8) rfl rfl (by kernel_rfl) (by kernel_rfl) (by kernel_rfl) (fun _ _ _ h => h) (Or.inl ⟨by rfl, ?hy8⟩) hHeld ?rest8
    case hy8 =>
      intro wS hS
      go_simp
      all_goals with_reducible rfl
    (try simp only [Act.put, List.setIfInBounds_toArray, List.set_cons_zero, List.set_cons_succ])
    refine wpAnyH_takeD (i := 9) (d := some 4) (v := ?v9) rfl rfl (by kernel_rfl) (by kernel_rfl) (by kernel_rfl) (fun _ _ _ h => h) (Or.inl ⟨by rfl, ?hy9⟩) hHeld ?rest9
    case hy9 =>
      intro wS hS
      go_simp
      all_goals with_reducible rfl
    (try simp only [Act.put, List.setIfInBounds_toArray, List.set_cons_zero, List.set_cons_succ])
    refine wpAnyH_takeD (i := 10) (d := some 5) (v := ?v10) rfl rfl (by kernel_rfl) (by kernel_rfl) (by kernel_rfl) (fun _ _ _ h => h) (Or.inl ⟨by rfl, ?hy10⟩) hHeld ?rest10
    case hy10 =>
      intro wS hS
      go_simp
      all_goals with_reducible rfl
    (try simp only [Act.put, List.setIfInBounds_toArray, List.set_cons_zero, List.set_cons_succ])
    refine wpAnyH_done (by kernel_rfl) ?_ _
    go_wp2_with fail
    rw [show (32 + (n : Int)).toNat - 32 = n by omega]
    exact bodyPost_ret (v := .tuple #[.agg #[.int .i64 k, .int .i64 idx, .int .i64 len, .int .i64 stp, .int .i64 bnd, .bool lst, .int .u32 lnk, .int .i64 (n : Nat)], .slice (some { block := a.block, off := a.off + 32 }) n (c - 32), .int .u32 (S : Int), .int .i64 0]) (results_row_tmp3 (fn := Tryz.f19) (p := 2) (u := 3) (x := 4) (y := 5) (ty := 67) rfl _ _ w.heap.size _ _ _ _ rfl hrow8 Tryz.underlying67 rfl (by kernel_rfl)) rfl ⟨_, c - 32, by rw [HPL.out]; rfl, hs8, by rw [HPL.out]; exact hp8, hc8, hbw8, fun x hx => ⟨a, rfl, by injection hx with hx; rw [← hx]⟩⟩
  · have dd : ((S : Int) != (su : Int)) = true := by simp; omega
    obtain rfl := hmid.out heq
    clear heq hmid hmid2
    go_wp2_with first | (refine wpList_store_row rfl 67 (.tmp 2) (.tmp 39) rfl rfl w.heap.size rfl #[.int .i64 0, .int .i64 0, .int .i64 0, .int .i64 0, .int .i64 0, .bool false, .int .u32 0, .int .i64 0] rfl 67 #[.int .i64 0, .int .i64 0, .int .i64 0, .int .i64 0, .int .i64 0, .bool false, .int .u32 0, .int .i64 0] hrow2 (by kernel_rfl) rfl (by simp [Value.oneCell']) ?_)
    exact bodyPost_ret (v := .tuple #[.agg #[.int .i64 0, .int .i64 0, .int .i64 0, .int .i64 0, .int .i64 0, .bool false, .int .u32 0, .int .i64 0], .slice none 0 0, .int .u32 0, .int .i64 33]) (results_row_tmp3 (fn := Tryz.f19) (p := 2) (u := 3) (x := 4) (y := 5) (ty := 67) rfl _ _ w.heap.size _ _ _ _ rfl (setRow_heap _ _ _ _ _ _ hrow2) Tryz.underlying67 rfl (by kernel_rfl)) rfl ⟨none, 0, rfl, Sees.nil _ _, Nat.le_refl _, Nat.zero_le _, below_setRow hbw2 (Nat.le_refl _) _, fun a ha => by cases ha⟩
theorem hropenR_any (A : Option Addr) (c : Nat) (l : List UInt8) (w : World) (hl : SeesB w A l) (hc : l.length ≤ c) (hcm : c ≤ maxLen) (hlen : l.length ≤ 140737488355328) :
    Calls Tryz.prog 19 #[.slice A l.length c] w (OpenPostR A w (openH l)) := by
  by_cases he : (getH l).1 = 0
  · exact hropenR_ok A c l w hl hc hcm hlen he
  · rw [show openH l = ((getH l).1, HeadV.zero, [], 0) by unfold openH; rw [if_pos he]]
    exact hropenR_err A c l w hl hc hcm hlen he
end Go.Proofs.YtkmhmehofipehaaGreatDoor
/- Contract: the reference's Right. -/
namespace Go.Proofs.YtkmhmehofipehaaGreatDoor
set_option linter.unusedVariables false
open Go.RowKit
def lastOf (l : List Int) (k : Nat) : Int := if k = 0 then -1 else l.getD (k - 1) 0
theorem below_drewN {B : Nat} {a w : World} (h : Below B a w) (n : Nat) : Below B a (w.drewN n) := ⟨h.os, h.tape, h.output, h.size, h.block⟩
theorem rises_bad {la x : Int} {l : List Int} (h : fallB x la 1099511627776 = true) : risesB la 1099511627776 (x :: l) = false := by simp [risesB, h]
theorem rises_good {la x : Int} {l : List Int} (h : fallB x la 1099511627776 = false) : risesB la 1099511627776 (x :: l) = risesB x 1099511627776 l := by simp [risesB, h]
set_option maxHeartbeats 4000000 in
set_option maxRecDepth 20000 in
theorem rright_any (count sum : Int) (A : Option Addr) (c : Nat) (l : List Int) (w : World) (hl : SeesI w A l) (hlen : l.length ≤ 9223372036854775807) :
    Calls Tryz.prog 44 #[.agg #[.int .i64 count, .int .u32 sum, .slice A l.length c]] w (BoolPost w w.heap.size (rightB count l)) := by
  have hb0 : Below w.heap.size w (w.alloc (.cells #[.int .i64 count, .int .u32 sum, .slice A l.length c] 33)) := (Below.refl _ w).alloc (Nat.le_refl _) _
  by_cases h1 : count < 0
  · have d1 : decide (count < 0) = true := by simpa using h1
    go_enter Tryz.func44, Tryz.ntmps44
    go_wp2_with fail
    go_ret
    exact ⟨by rw [rightB]; simp; omega, hb0⟩
  have d1 : decide (count < 0) = false := by simpa using h1
  by_cases h2 : 4294967295 < count
  · have d2 : decide (4294967295 < count) = true := by simpa using h2
    go_enter Tryz.func44, Tryz.ntmps44
    go_wp2_with fail
    go_ret
    exact ⟨by rw [rightB]; simp; omega, hb0⟩
  have d2 : decide (4294967295 < count) = false := by simpa using h2
  by_cases h3 : 16777216 < l.length
  · have d3 : decide (16777216 < (l.length : Int)) = true := by simp; omega
    go_enter Tryz.func44, Tryz.ntmps44
    go_wp2_with fail
    go_ret
    exact ⟨by rw [rightB]; simp; omega, hb0⟩
  have d3 : decide (16777216 < (l.length : Int)) = false := by simp; omega
  have hR : rightB count l = risesB (-1) 1099511627776 l := by
    rw [rightB, show decide (0 ≤ count) = true by simp; omega, show decide (count ≤ 4294967295) = true by simp; omega, show decide (l.length ≤ 16777216) = true by simp; omega]; rfl
  rw [hR]
  clear hR
  have hcx0 : (w.alloc (.cells #[.int .i64 count, .int .u32 sum, .slice A l.length c] 33)).cell? ⟨w.heap.size, 2, none⟩ = some (.slice A l.length c) := by rw [cell_of_row _ _ _ _ _ _ (heap_alloc_new _ _)]; rfl
  have hl0 := hl.below hb0
  go_enter Tryz.func44, Tryz.ntmps44
  go_wp2_with fail
  generalize hw0 : w.alloc (.cells #[.int .i64 count, .int .u32 sum, .slice A l.length c] 33) = w0 at *
  clear hw0
  go_loopw [3] (fun i wr => ∃ k : Nat, k ≤ l.length ∧ i = .int .i64 k ∧ (∃ m, wr = w0.drewN m) ∧ risesB (-1) 1099511627776 l = risesB (lastOf l k) 1099511627776 (l.drop k) ∧ -1 ≤ lastOf l k) (fun i _ => l.length - (intOf i).toNat)
  case atStart => exact ⟨0, by omega, rfl, ⟨0, rfl⟩, rfl, by simp [lastOf]⟩
  case round =>
    obtain ⟨k, hk, rfl, ⟨m, rfl⟩, hr, hla⟩ := hrel
    have HR := hid hr
    clear hr
    have hcx : (w0.drewN m).cell? ⟨w.heap.size, 2, none⟩ = some (.slice A l.length c) := hcx0
    by_cases hlt : k < l.length
    · obtain ⟨a, rfl, hc⟩ := hl0.at hlt
      have hcw : (w0.drewN m).cell? (a.add k) = some (.int .i64 l[k]) := hc
      have hd : decide (k < l.length) = true := by simp; omega
      have hnext : lastOf l (k + 1) = l[k] := by simp [lastOf, List.getD, hlt]
      have HN := hid hnext
      have hdrop : l.drop k = l[k] :: l.drop (k + 1) := List.drop_eq_getElem_cons hlt
      have HD := hid hdrop
      clear hnext hdrop
      generalize l[k] = x at hc hcw HN HD
      have hstay : fallB x (lastOf l k) 1099511627776 = true ∨ fallB x (lastOf l k) 1099511627776 = false := by cases fallB x (lastOf l k) 1099511627776 <;> simp
      by_cases hx0 : x < 0
      · have e0 : decide (x < 0) = true := by simpa using hx0
        have hf : fallB x (lastOf l k) 1099511627776 = true := by simp [fallB]; omega
        have HF := hid (rises_bad (l := l.drop (k + 1)) hf)
        clear hf hstay
        go_wp2_with fail
        go_quiet (fail)
        go_wp2_with fail
        go_ret
        exact ⟨by rw [HR.out, HD.out, HF.out]; rfl, below_drewN (below_drewN hb0 _) _⟩
      have e0 : decide (x < 0) = false := by simpa using hx0
      by_cases hx1 : 1099511627776 ≤ x
      · have e1 : decide (1099511627776 ≤ x) = true := by simpa using hx1
        have hf : fallB x (lastOf l k) 1099511627776 = true := by simp [fallB]; omega
        have HF := hid (rises_bad (l := l.drop (k + 1)) hf)
        clear hf hstay
        go_wp2_with fail
        go_quiet (fail)
        go_wp2_with fail
        go_ret
        exact ⟨by rw [HR.out, HD.out, HF.out]; rfl, below_drewN (below_drewN hb0 _) _⟩
      have e1 : decide (1099511627776 ≤ x) = false := by simpa using hx1
      by_cases hk0 : 0 < k
      · have e2 : decide (0 < (k : Int)) = true := by simp; omega
        have e2' : decide (0 < k) = true := by simp; omega
        obtain ⟨a', ha', hcy⟩ := hl0.at (show k - 1 < l.length by omega)
        have hlast : lastOf l k = l[k - 1]'(by omega) := by
          rw [lastOf, if_neg (by omega)]; simp [List.getD, List.getElem?_eq_getElem (show k - 1 < l.length by omega)]
        rw [hlast] at hstay hla
        have HL := hid hlast
        clear hlast
        generalize l[k - 1] = y at hcy hstay hla HL
        injection ha' with ha'
        subst ha'
        have hcy' : (w0.drewN m).cell? (a.add (k - 1)) = some (.int .i64 y) := hcy
        have hw1 : IntKind.i64.wrap ((k : Int) - 1) = (k : Int) - 1 := by rw [IntKind.wrap_i64]; omega
        have hn1 : 0 ≤ (k : Int) - 1 := by omega
        have hn2 : (k : Int) - 1 < l.length := by omega
        have hn3 : ((k : Int) - 1).toNat = k - 1 := by omega
        by_cases hxy : x ≤ y
        · have e3 : decide (x ≤ y) = true := by simpa using hxy
          have hf : fallB x y 1099511627776 = true := by simp [fallB]; omega
          have HF := hid (rises_bad (l := l.drop (k + 1)) hf)
          clear hf hstay
          go_wp2_with fail
          go_quiet (fail)
          go_wp2_with fail
          go_ret
          exact ⟨by rw [HR.out, HD.out, HL.out, HF.out]; rfl, below_drewN (below_drewN hb0 _) _⟩
        · have e3 : decide (x ≤ y) = false := by simpa using hxy
          have hf : fallB x y 1099511627776 = false := by simp [fallB]; omega
          have HF := hid (rises_good (l := l.drop (k + 1)) hf)
          clear hf hstay
          go_wp2_with fail
          go_quiet (fail)
          clear hw1 hn3
          go_wp2_with fail
          go_roundw
          case rel => exact ⟨k + 1, by omega, by go_num, ⟨_, rfl⟩, by rw [HR.out, HD.out, HL.out, HF.out, HN.out], by rw [HN.out]; omega⟩
          case measure => simp [intOf]; omega
      · have e2 : decide (0 < (k : Int)) = false := by simp; omega
        have e2' : decide (0 < k) = false := by simp; omega
        have hf : fallB x (lastOf l k) 1099511627776 = false := by
          have : lastOf l k = -1 := by rw [lastOf, if_pos (by omega)]
          rw [this]; simp [fallB]; omega
        have HF := hid (rises_good (l := l.drop (k + 1)) hf)
        clear hf hstay
        go_wp2_with fail
        go_quiet (fail)
        go_wp2_with fail
        go_roundw
        case rel => exact ⟨k + 1, by omega, by go_num, ⟨_, rfl⟩, by rw [HR.out, HD.out, HF.out, HN.out], by rw [HN.out]; omega⟩
        case measure => simp [intOf]; omega
    · obtain rfl : k = l.length := by omega
      go_wp2_with fail
      go_ret
      exact ⟨by rw [HR.out, List.drop_length]; rfl, below_drewN hb0 _⟩
theorem rright_is (count sum : Int) (A : Option Addr) (c : Nat) (l : List Int) (w : World) (hl : SeesI w A l) (hlen : l.length ≤ 9223372036854775807) (v : Bool) (hv : rightB count l = v) :
    Calls Tryz.prog 44 #[.agg #[.int .i64 count, .int .u32 sum, .slice A l.length c]] w fun e w' => e = .returned (.bool v) ∧ Below w.heap.size w w' :=
  hv ▸ rright_any count sum A c l w hl hlen
end Go.Proofs.YtkmhmehofipehaaGreatDoor
