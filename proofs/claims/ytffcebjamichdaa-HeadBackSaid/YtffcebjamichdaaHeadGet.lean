/- A head read: the program's Get. -/
import Derived.Test.YtffcebjamichdaaHeadTake
import Derived.Test.YtffcebjamichdaaCrcWalks2
import Derived.Test.YtffcebjamichdaaHeld3
import Derived.Deep.RegionHeld3
namespace Go.Proofs.Ytffcebjamichdaa
set_option linter.unusedVariables false
open Go.RowKit
/-- a head's values -/
structure HeadV where
  k : Int
  idx : Int
  len : Int
  stp : Int
  bnd : Int
  lst : Bool
  lnk : Int
  siz : Int
def HeadV.cells (h : HeadV) : Array Value := #[.int .i64 h.k, .int .i64 h.idx, .int .i64 h.len, .int .i64 h.stp, .int .i64 h.bnd, .bool h.lst, .int .u32 h.lnk, .int .i64 h.siz]
def HeadV.zero : HeadV := ⟨0, 0, 0, 0, 0, false, 0, 0⟩
/-- the head that bytes of enough length say -/
def saidH (l : List UInt8) : HeadV := ⟨(fldH l 2 1 : Nat), (fldH l 4 4 : Nat), (fldH l 8 4 : Nat), (fldH l 12 4 : Nat), (fldH l 16 4 : Nat), fldH l 3 1 == 1, (fldH l 20 4 : Nat), (fldH l 24 4 : Nat)⟩
def getH (l : List UInt8) : Int × HeadV :=
  if startsH l = false then (30, HeadV.zero) else if l.length < 32 then (10, HeadV.zero) else if sumI (l.take 28) ≠ (fldH l 28 4 : Int) then (33, HeadV.zero)
  else if okH l = false then (32, HeadV.zero) else (0, saidH l)
def GetHPost (w : World) (r : Int × HeadV) (e : Ending) (w' : World) : Prop :=
  e = .returned (.tuple #[.agg r.2.cells, .int .i64 r.1]) ∧ Below w.heap.size w w'
set_option maxHeartbeats 2000000 in
theorem hget_sync (t : Nat) (A : Option Addr) (c : Nat) (l : List UInt8) (w : World) (hl : SeesB w A l) (hs : startsH l = false) :
    Calls Try.prog 20 #[.pointer (some ⟨t, 0, none⟩), .slice A l.length c] w (GetHPost w (30, HeadV.zero)) := by
  have hb : Below w.heap.size w (w.alloc (.cells #[.int .i64 0, .int .i64 0, .int .i64 0, .int .i64 0, .int .i64 0, .bool false, .int .u32 0, .int .i64 0] 24)) := (Below.refl _ w).alloc (Nat.le_refl _) _
  have hrow := heap_alloc_new w (.cells #[.int .i64 0, .int .i64 0, .int .i64 0, .int .i64 0, .int .i64 0, .bool false, .int .u32 0, .int .i64 0] 24)
  go_enter Try.func20, Try.ntmps20
  go_wp2_with fail
  generalize w.alloc (.cells #[.int .i64 0, .int .i64 0, .int .i64 0, .int .i64 0, .int .i64 0, .bool false, .int .u32 0, .int .i64 0] 24) = w0 at *
  have hlt0 : w.heap.size < w0.heap.size := (Array.getElem?_eq_some_iff.1 hrow).1
  refine (hstarts_any A c l w0 (hl.below hb)).mono ?_
  rintro e w1 ⟨rfl, rfl⟩
  rw [hs]
  go_wp2_with first | (refine wpList_store_row rfl 24 (.tmp 4) (.tmp 16) rfl rfl w.heap.size rfl #[.int .i64 0, .int .i64 0, .int .i64 0, .int .i64 0, .int .i64 0, .bool false, .int .u32 0, .int .i64 0] rfl 24 #[.int .i64 0, .int .i64 0, .int .i64 0, .int .i64 0, .int .i64 0, .bool false, .int .u32 0, .int .i64 0] hrow (by kernel_rfl) rfl (by simp [Value.oneCell']) ?_)
  exact bodyPost_ret (v := .tuple #[.agg #[.int .i64 0, .int .i64 0, .int .i64 0, .int .i64 0, .int .i64 0, .bool false, .int .u32 0, .int .i64 0], .int .i64 30]) (results_row_tmp (fn := Try.f20) (p := 4) (u := 5) (ty := 24) rfl _ _ w.heap.size _ _ _ _ rfl (setRow_heap _ _ _ _ _ _ hrow) Try.underlying24 rfl (by kernel_rfl)) rfl ⟨rfl, below_setRow hb (Nat.le_refl _) _⟩
set_option maxHeartbeats 2000000 in
theorem hget_end (t : Nat) (A : Option Addr) (c : Nat) (l : List UInt8) (w : World) (hl : SeesB w A l) (hs : startsH l = true) (hn : l.length < 32) :
    Calls Try.prog 20 #[.pointer (some ⟨t, 0, none⟩), .slice A l.length c] w (GetHPost w (10, HeadV.zero)) := by
  have d1 : decide ((l.length : Int) < 32) = true := by simp; omega
  have hb : Below w.heap.size w (w.alloc (.cells #[.int .i64 0, .int .i64 0, .int .i64 0, .int .i64 0, .int .i64 0, .bool false, .int .u32 0, .int .i64 0] 24)) := (Below.refl _ w).alloc (Nat.le_refl _) _
  have hrow := heap_alloc_new w (.cells #[.int .i64 0, .int .i64 0, .int .i64 0, .int .i64 0, .int .i64 0, .bool false, .int .u32 0, .int .i64 0] 24)
  go_enter Try.func20, Try.ntmps20
  go_wp2_with fail
  generalize w.alloc (.cells #[.int .i64 0, .int .i64 0, .int .i64 0, .int .i64 0, .int .i64 0, .bool false, .int .u32 0, .int .i64 0] 24) = w0 at *
  have hlt0 : w.heap.size < w0.heap.size := (Array.getElem?_eq_some_iff.1 hrow).1
  refine (hstarts_any A c l w0 (hl.below hb)).mono ?_
  rintro e w1 ⟨rfl, rfl⟩
  rw [hs]
  go_wp2_with first | (refine wpList_store_row rfl 24 (.tmp 4) (.tmp 21) rfl rfl w.heap.size rfl #[.int .i64 0, .int .i64 0, .int .i64 0, .int .i64 0, .int .i64 0, .bool false, .int .u32 0, .int .i64 0] rfl 24 #[.int .i64 0, .int .i64 0, .int .i64 0, .int .i64 0, .int .i64 0, .bool false, .int .u32 0, .int .i64 0] hrow (by kernel_rfl) rfl (by simp [Value.oneCell']) ?_)
  exact bodyPost_ret (v := .tuple #[.agg #[.int .i64 0, .int .i64 0, .int .i64 0, .int .i64 0, .int .i64 0, .bool false, .int .u32 0, .int .i64 0], .int .i64 10]) (results_row_tmp (fn := Try.f20) (p := 4) (u := 5) (ty := 24) rfl _ _ w.heap.size _ _ _ _ rfl (setRow_heap _ _ _ _ _ _ hrow) Try.underlying24 rfl (by kernel_rfl)) rfl ⟨rfl, below_setRow hb (Nat.le_refl _) _⟩
set_option maxHeartbeats 4000000 in
theorem hget_long (t : Nat) (A : Option Addr) (c : Nat) (l : List UInt8) (w : World) (ht : Tab w t) (hl : SeesB w A l) (hc : l.length ≤ c) (hcm : c ≤ maxLen) (hlen : l.length ≤ 140737488355328) (hs : startsH l = true) (hn : 32 ≤ l.length) :
    Calls Try.prog 20 #[.pointer (some ⟨t, 0, none⟩), .slice A l.length c] w (GetHPost w (getH l)) := by
  have d1 : decide ((l.length : Int) < 32) = false := by simp; omega
  obtain ⟨R, hR⟩ : ∃ R, R = getH l := ⟨_, rfl⟩
  rw [← hR]
  have HR := hid hR
  clear hR
  obtain ⟨a, rfl, _⟩ := hl.at (show 0 < l.length by omega)
  have g1 : (28 : Int) ≤ c := by omega
  have g2 : ¬ c = 28 := by omega
  have g3 : (28 : Int) ≤ l.length := by omega
  have g4 : (l.length : Int) ≤ c := by omega
  have h28 : (l.take 28).length = 28 := by rw [List.length_take]; omega
  have hsr := sumI_range (l.take 28)
  obtain ⟨S, hS⟩ := Int.eq_ofNat_of_zero_le hsr.1
  have hsum := fun W (ht : Tab W t) (hl : SeesB W (some a) (l.take 28)) => sum_any t (some a) c (l.take 28) W ht hl (by omega)
  rw [h28, hS] at hsum
  rw [hS] at hsr
  have hS4 : S < 4294967296 := by omega
  have HSUM := hid hsum
  have HS := hid hS
  have hdl : (l.drop 28).length = l.length - 28 := by simp
  have htk := fun W (h : SeesB W (some (a.add 28)) (l.drop 28)) => take_any (some (a.add 28)) (c - 28) (l.drop 28) W h (by omega)
  rw [hdl] at htk
  have HTK := hid htk
  have hu := fun g W (hT : Tk W g 0 0 (l.drop 28)) => takerU_any g 0 0 4 (l.drop 28) W hT (by omega)
  rw [show takeU (0, 0) (l.drop 28) 4 = ((0, 4), ((l.drop 28).drop 0).take 4) from takeU_at 0 4 (l.drop 28) (by omega) (by omega)] at hu
  unfold UPost at hu
  rw [show valLE (((l.drop 28).drop 0).take 4) = fldH l 28 4 from rfl] at hu
  have v5 := fldH_lt l 28 4
  obtain ⟨su, hsu⟩ : ∃ y, y = fldH l 28 4 := ⟨_, rfl⟩
  rw [← hsu] at v5 hu
  have HSU := hid hsu
  have HU := hid hu
  clear hu hsu hsum hS hsr h28 hdl htk
  have hb : Below w.heap.size w (w.alloc (.cells #[.int .i64 0, .int .i64 0, .int .i64 0, .int .i64 0, .int .i64 0, .bool false, .int .u32 0, .int .i64 0] 24)) := (Below.refl _ w).alloc (Nat.le_refl _) _
  have hrow := heap_alloc_new w (.cells #[.int .i64 0, .int .i64 0, .int .i64 0, .int .i64 0, .int .i64 0, .bool false, .int .u32 0, .int .i64 0] 24)
  go_enter Try.func20, Try.ntmps20
  go_wp2_with fail
  generalize w.alloc (.cells #[.int .i64 0, .int .i64 0, .int .i64 0, .int .i64 0, .int .i64 0, .bool false, .int .u32 0, .int .i64 0] 24) = w0 at *
  have hlt0 : w.heap.size < w0.heap.size := (Array.getElem?_eq_some_iff.1 hrow).1
  refine (hstarts_any (some a) c l w0 (hl.below hb)).mono ?_
  rintro e w1 ⟨rfl, rfl⟩
  rw [hs]
  have hlw := hl.below hb
  have htw := ht.keep hb ht.lt
  have hl28 : SeesB w0 (some a) (l.take 28) := by unfold SeesB; rw [List.map_take]; exact Sees.take hlw 28
  have hdr : SeesB w0 (some (a.add 28)) (l.drop 28) := by have := hlw.cutTo 28 (l.length - 28); rwa [List.take_of_length_le (by simp)] at this
  go_wp2_with fail
  have htd : Tab w0.drew t := htw
  have hld : SeesB w0.drew (some a) (l.take 28) := hl28
  have hdd : SeesB w0.drew (some (a.add 28)) (l.drop 28) := hdr
  go_region_held3 (fun w' => True) (trivial) (first | (go_at_call 33; refine (HSUM.out _ ?_ ?_).mono ?_; exact htd; exact hld; rintro e wa ⟨rfl, rfl⟩) | (go_at_call 34; refine (HTK.out _ ?_).mono ?_; exact hdd; rintro e w2 ⟨g, rfl, hg, hT, hb2⟩) | (go_at_call 35; refine (HU.out g _ ?_).mono ?_; exact hT; rintro e w3 ⟨rfl, hT3, hB3⟩))
  have hb2' := undrew hb2
  have hbw2 := hb.trans (hb2'.mono hb.size)
  have hrow2 := (hb2'.block w.heap.size hlt0).trans hrow
  have hgw : w.heap.size < g := Nat.lt_of_lt_of_le hlt0 hg
  have hlt2 := Nat.lt_of_lt_of_le hlt0 hb2'.size
  have hbw3 := But.below hbw2 hB3 (fun b h => by have h2 : b = g := h; omega) hbw2.size
  have hrow3 := (hB3.block w.heap.size hlt2 (fun h => by have h2 : w.heap.size = g := h; omega)).trans hrow2
  have hlt3 := Nat.lt_of_lt_of_le hlt2 hB3.size
  have hl3 := hl.below hbw3
  have HST := hid hs
  clear htd hld hdd hb2 hb2' hbw2 hrow2 hlt2 hT hT3 hB3 hg hgw hdr hl28 htw hlw hrow hb hlt0 HSUM HTK HU hs ht hl
  by_cases heq : S = su
  · have dd : ((S : Int) != (su : Int)) = false := by rw [heq]; simp
    have dd2 : (IntKind.u64.wrap (S : Int) != (su : Int)) = false := by
      rw [show IntKind.u64.wrap (S : Int) = (S : Int) by rw [IntKind.wrap_u64]; omega]; exact dd
    have HEQ := hid heq
    have HTAKE := hid (htake_any (some a) c l w3 hl3 hn hlen)
    clear heq
    go_wp2_with fail
    refine HTAKE.out.mono ?_
    rintro e w4 ⟨rfl, hb4⟩
    have hbw4 := hbw3.trans (hb4.mono hbw3.size)
    have hrow4 := (hb4.block w.heap.size hlt3).trans hrow3
    have hlt4 := Nat.lt_of_lt_of_le hlt3 hb4.size
    have hb5 : Below w4.heap.size w4 (w4.alloc (.cells (saidH l).cells 24)) := (Below.refl _ _).alloc (Nat.le_refl _) _
    have hr5 := heap_alloc_new w4 (.cells (saidH l).cells 24)
    have hbw5 := hbw4.trans (hb5.mono hbw4.size)
    have hrow5 := (hb5.block w.heap.size hlt4).trans hrow4
    have hmid : Hid (∀ b, okH l = b → R = if b = false then (32, HeadV.zero) else (0, saidH l)) := hid (fun b hb => by
      rw [HR.out]
      unfold getH
      rw [if_neg (by rw [HST.out]; simp), if_neg (by omega), if_neg (by rw [HS.out, HEQ.out, HSU.out]; simp), hb])
    unfold saidH at hmid
    unfold saidH HeadV.cells at hb5 hr5 hbw5 hrow5
    simp only at hb5 hr5 hbw5 hrow5
    generalize fldH l 2 1 = f0 at *
    generalize fldH l 4 4 = f1 at *
    generalize fldH l 8 4 = f2 at *
    generalize fldH l 12 4 = f3 at *
    generalize fldH l 16 4 = f4 at *
    generalize (fldH l 3 1 == 1) = f5 at *
    generalize fldH l 20 4 = f6 at *
    generalize fldH l 24 4 = f7 at *
    clear hb4 hb5 hbw3 hbw4 hrow3 hrow4 hl3 HTAKE
    cases hok : okH l with
    | false =>
      obtain rfl : R = (32, HeadV.zero) := by rw [hmid.out false hok, if_pos rfl]
      clear hok hmid HR
      go_wp2_with first | (refine wpList_store_row rfl 24 (.tmp 4) (.tmp 41) rfl rfl w.heap.size rfl #[.int .i64 0, .int .i64 0, .int .i64 0, .int .i64 0, .int .i64 0, .bool false, .int .u32 0, .int .i64 0] rfl 24 #[.int .i64 0, .int .i64 0, .int .i64 0, .int .i64 0, .int .i64 0, .bool false, .int .u32 0, .int .i64 0] hrow5 (by kernel_rfl) rfl (by simp [Value.oneCell']) ?_)
      exact bodyPost_ret (v := .tuple #[.agg #[.int .i64 0, .int .i64 0, .int .i64 0, .int .i64 0, .int .i64 0, .bool false, .int .u32 0, .int .i64 0], .int .i64 32]) (results_row_tmp (fn := Try.f20) (p := 4) (u := 5) (ty := 24) rfl _ _ w.heap.size _ _ _ _ rfl (setRow_heap _ _ _ _ _ _ hrow5) Try.underlying24 rfl (by kernel_rfl)) rfl ⟨rfl, below_setRow hbw5 (Nat.le_refl _) _⟩
    | true =>
      obtain rfl := by have := hmid.out true hok; rwa [if_neg (by simp)] at this
      clear hok hmid HR
      go_wp2_with first | (refine wpList_load_row rfl 24 _ rfl w4.heap.size rfl 24 #[.int .i64 (f0 : Nat), .int .i64 (f1 : Nat), .int .i64 (f2 : Nat), .int .i64 (f3 : Nat), .int .i64 (f4 : Nat), .bool f5, .int .u32 (f6 : Nat), .int .i64 (f7 : Nat)] (0, 0) _ hr5 Try.underlying24 rfl (by kernel_rfl) ?_) | (refine wpList_store_row rfl 24 (.tmp 4) (.tmp 42) rfl rfl w.heap.size rfl #[.int .i64 (f0 : Nat), .int .i64 (f1 : Nat), .int .i64 (f2 : Nat), .int .i64 (f3 : Nat), .int .i64 (f4 : Nat), .bool f5, .int .u32 (f6 : Nat), .int .i64 (f7 : Nat)] rfl 24 #[.int .i64 0, .int .i64 0, .int .i64 0, .int .i64 0, .int .i64 0, .bool false, .int .u32 0, .int .i64 0] hrow5 (by kernel_rfl) rfl (by simp [Value.oneCell']) ?_)
      exact bodyPost_ret (v := .tuple #[.agg #[.int .i64 (f0 : Nat), .int .i64 (f1 : Nat), .int .i64 (f2 : Nat), .int .i64 (f3 : Nat), .int .i64 (f4 : Nat), .bool f5, .int .u32 (f6 : Nat), .int .i64 (f7 : Nat)], .int .i64 0]) (results_row_tmp (fn := Try.f20) (p := 4) (u := 5) (ty := 24) rfl _ _ w.heap.size _ _ _ _ rfl (setRow_heap _ _ _ _ _ _ hrow5) Try.underlying24 rfl (by kernel_rfl)) rfl ⟨rfl, below_setRow hbw5 (Nat.le_refl _) _⟩
  · have dd : ((S : Int) != (su : Int)) = true := by simp; omega
    have dd2 : (IntKind.u64.wrap (S : Int) != (su : Int)) = true := by
      rw [show IntKind.u64.wrap (S : Int) = (S : Int) by rw [IntKind.wrap_u64]; omega]; exact dd
    obtain rfl : R = (33, HeadV.zero) := by
      rw [HR.out]; unfold getH
      rw [if_neg (by rw [HST.out]; simp), if_neg (by omega), if_pos (by rw [HS.out, ← HSU.out]; omega)]
    clear HR heq
    go_wp2_with first | (refine wpList_store_row rfl 24 (.tmp 4) (.tmp 33) rfl rfl w.heap.size rfl #[.int .i64 0, .int .i64 0, .int .i64 0, .int .i64 0, .int .i64 0, .bool false, .int .u32 0, .int .i64 0] rfl 24 #[.int .i64 0, .int .i64 0, .int .i64 0, .int .i64 0, .int .i64 0, .bool false, .int .u32 0, .int .i64 0] hrow3 (by kernel_rfl) rfl (by simp [Value.oneCell']) ?_)
    exact bodyPost_ret (v := .tuple #[.agg #[.int .i64 0, .int .i64 0, .int .i64 0, .int .i64 0, .int .i64 0, .bool false, .int .u32 0, .int .i64 0], .int .i64 33]) (results_row_tmp (fn := Try.f20) (p := 4) (u := 5) (ty := 24) rfl _ _ w.heap.size _ _ _ _ rfl (setRow_heap _ _ _ _ _ _ hrow3) Try.underlying24 rfl (by kernel_rfl)) rfl ⟨rfl, below_setRow hbw3 (Nat.le_refl _) _⟩
end Go.Proofs.Ytffcebjamichdaa
