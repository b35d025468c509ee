/- The walk of HeadChanges. -/
import Derived.Test.YtffcebjamichdaaLaw22Known
import Derived.Test.YtffcebjamichdaaHeadSeal
import Derived.Test.YtffcebjamichdaaHeadRefOpen
import Derived.Test.YtffcebjamichdaaHeadPlain
import Derived.Test.YtffcebjamichdaaApp
namespace Go.Proofs.Ytffcebjamichdaa.headChanges
set_option linter.unusedVariables false
open Go.RowKit
theorem elB : Elem Try.prog 25 5 1 1 := Elem.mk' Try.underlying25 (z := .int .u8 0) (by kernel_rfl) rfl (by omega)
theorem xor_byte (b : UInt8) (y : Int) (hy : 0 ≤ y ∧ y < 256) (h0 : y ≠ 0) : ∃ z : UInt8, z ≠ b ∧ Value.int .u8 (bits .xor .u8 (b.toNat : Int) y) = byteV z := by
  have hb := b.toNat_lt
  obtain ⟨Y, rfl⟩ := Int.eq_ofNat_of_zero_le hy.1
  have hx : b.toNat ^^^ Y < 2 ^ 8 := Nat.xor_lt_two_pow (by omega) (by omega)
  refine ⟨UInt8.ofNat (b.toNat ^^^ Y), ?_, ?_⟩
  · intro h
    have h1 := congrArg UInt8.toNat h
    rw [UInt8.toNat_ofNat', Nat.mod_eq_of_lt hx] at h1
    have h2 : Y = 0 := by
      apply xor_cancel (c := b.toNat)
      rw [Nat.zero_xor, Nat.xor_comm]; exact h1
    exact h0 (by omega)
  · rw [u8_xor_nat _ _ (by omega) (by omega)]
    unfold byteV
    rw [UInt8.toNat_ofNat', Nat.mod_eq_of_lt hx]
set_option maxHeartbeats 2000000 in
theorem walk_out (k idx len stp bnd : Int) (lst : Bool) (lnk siz : Int) (A : Option Addr) (c : Nat) (l : List UInt8) (at_ by_ : Int) (w : World) (h : 300 < l.length ∨ by_ = 0) :
    Calls Try.prog 8 #[.agg #[.int .i64 k, .int .i64 idx, .int .i64 len, .int .i64 stp, .int .i64 bnd, .bool lst, .int .u32 lnk, .int .i64 siz], .slice A l.length c, .int .i64 at_, .int .u8 by_] w fun e w' => e = .returned (.bool true) ∧ Below w.heap.size w w' := by
  have hb : Below w.heap.size w (w.alloc (.cells #[.int .i64 k, .int .i64 idx, .int .i64 len, .int .i64 stp, .int .i64 bnd, .bool lst, .int .u32 lnk, .int .i64 siz] 24)) := (Below.refl _ w).alloc (Nat.le_refl _) _
  obtain ⟨b1, hb1⟩ : ∃ b, decide (300 < (l.length : Int)) = b := ⟨_, rfl⟩
  obtain ⟨b4, hb4⟩ : ∃ b, (by_ == 0) = b := ⟨_, rfl⟩
  have hor : b1 = true ∨ (b1 = false ∧ b4 = true) := by
    subst hb1 hb4
    simp only [decide_eq_true_eq, decide_eq_false_iff_not, beq_iff_eq]
    omega
  clear h
  rcases hor with rfl | ⟨rfl, rfl⟩
  all_goals
    go_enter Try.func8, Try.ntmps8
    go_wp2_with fail
    refine (known_any _).mono ?_
    rintro e w2 ⟨rfl, hb2⟩
    go_wp2_with fail
    go_ret
    exact ⟨rfl, hb.trans (hb2.mono hb.size)⟩
set_option maxHeartbeats 2000000 in
theorem walk_bad (k idx len stp bnd : Int) (lst : Bool) (lnk siz : Int) (A : Option Addr) (c : Nat) (l : List UInt8) (at_ by_ : Int) (w : World) (hl : SeesB w A l) (hn : l.length ≤ 300) (h0 : by_ ≠ 0) (hr : rightH k idx len stp bnd lst lnk (l.length : Int) = false) :
    Calls Try.prog 8 #[.agg #[.int .i64 k, .int .i64 idx, .int .i64 len, .int .i64 stp, .int .i64 bnd, .bool lst, .int .u32 lnk, .int .i64 siz], .slice A l.length c, .int .i64 at_, .int .u8 by_] w fun e w' => e = .returned (.bool true) ∧ Below w.heap.size w w' := by
  have d1 : decide (300 < (l.length : Int)) = false := decide_eq_false (by omega)
  have d4 : (by_ == 0) = false := by simpa using h0
  have hb : Below w.heap.size w (w.alloc (.cells #[.int .i64 k, .int .i64 idx, .int .i64 len, .int .i64 stp, .int .i64 bnd, .bool lst, .int .u32 lnk, .int .i64 siz] 24)) := (Below.refl _ w).alloc (Nat.le_refl _) _
  have hrow := heap_alloc_new w (.cells #[.int .i64 k, .int .i64 idx, .int .i64 len, .int .i64 stp, .int .i64 bnd, .bool lst, .int .u32 lnk, .int .i64 siz] 24)
  go_enter Try.func8, Try.ntmps8
  go_wp2_with fail
  generalize w.alloc (.cells #[.int .i64 k, .int .i64 idx, .int .i64 len, .int .i64 stp, .int .i64 bnd, .bool lst, .int .u32 lnk, .int .i64 siz] 24) = w0 at *
  have hlt0 : w.heap.size < w0.heap.size := (Array.getElem?_eq_some_iff.1 hrow).1
  refine (make_any w0).mono ?_
  rintro e w1 ⟨rfl, hb1, ht1⟩
  have hbw1 := hb.trans (hb1.mono hb.size)
  have hrow1 := (hb1.block w.heap.size hlt0).trans hrow
  have hl1 := hl.below hbw1
  clear hb hrow hb1
  go_wp2_with first | (refine wpList_load_row rfl 24 (.tmp 4) rfl w.heap.size rfl 24 #[.int .i64 k, .int .i64 idx, .int .i64 len, .int .i64 stp, .int .i64 bnd, .bool lst, .int .u32 lnk, .int .i64 siz] (0, 0) _ hrow1 Try.underlying24 rfl (by kernel_rfl) ?_)
  refine (hseal_bad _ _ _ _ _ _ _ _ _ A c l _ (by omega) hr).mono ?_
  rintro e w2 ⟨rfl, hb2⟩
  have hbw2 := hbw1.trans (hb2.mono hbw1.size)
  go_wp2_with fail
  refine (known_any _).mono ?_
  rintro e w9 ⟨rfl, hb9⟩
  go_wp2_with fail
  go_ret
  exact ⟨rfl, hbw2.trans (hb9.mono hbw2.size)⟩
set_option maxHeartbeats 2000000 in
theorem walk_far (K IX LE ST BN LK : Nat) (lst : Bool) (siz : Int) (A : Option Addr) (c : Nat) (l : List UInt8) (at_ by_ : Int) (w : World) (hl : SeesB w A l) (hn : l.length ≤ 300) (h0 : by_ ≠ 0) (hr : rightH K IX LE ST BN lst LK (l.length : Int) = true) (hkk : K < 256 ∧ IX < 4294967296 ∧ LE < 4294967296 ∧ ST < 4294967296 ∧ BN < 4294967296 ∧ LK < 4294967296 ∧ l.length < 4294967296) (hf : at_ < 0 ∨ (36 + l.length : Int) ≤ at_) :
    Calls Try.prog 8 #[.agg #[.int .i64 (K : Int), .int .i64 (IX : Int), .int .i64 (LE : Int), .int .i64 (ST : Int), .int .i64 (BN : Int), .bool lst, .int .u32 (LK : Int), .int .i64 siz], .slice A l.length c, .int .i64 at_, .int .u8 by_] w fun e w' => e = .returned (.bool true) ∧ Below w.heap.size w w' := by
  have d1 : decide (300 < (l.length : Int)) = false := decide_eq_false (by omega)
  have d4 : (by_ == 0) = false := by simpa using h0
  obtain ⟨G, hG⟩ : ∃ G, G = sealed (headHead K lst IX LE ST BN LK l.length) := ⟨_, rfl⟩
  have hGl : G.length = 32 := by rw [hG, sealed_len, headHead_len]
  have hP := fun g W (h : Tab W g) (hl : SeesB W A l) => hseal_ok g K IX LE ST BN LK lst siz A c l W h hl (by omega) hr hkk
  rw [← hG] at hP
  obtain ⟨S, hS⟩ : ∃ S, S = sumI (G ++ l) := ⟨_, rfl⟩
  obtain ⟨B, hB⟩ : ∃ B, B = sealed (G ++ l) := ⟨_, rfl⟩
  rw [← hB, ← hS] at hP
  have hBl : B.length = 36 + l.length := by rw [hB, sealed_len, List.length_append, hGl]; omega
  obtain ⟨b2, hb2⟩ : ∃ b, decide (at_ < 0) = b := ⟨_, rfl⟩
  obtain ⟨b3, hb3⟩ : ∃ b, decide ((B.length : Int) ≤ at_) = b := ⟨_, rfl⟩
  have hor : b2 = true ∨ (b2 = false ∧ b3 = true) := by
    subst hb2 hb3
    simp only [decide_eq_true_eq, decide_eq_false_iff_not]
    omega
  have HP := hid hP
  clear hP hG hGl hS hB hBl hf hkk
  rcases hor with rfl | ⟨rfl, rfl⟩
  · have hb : Below w.heap.size w (w.alloc (.cells #[.int .i64 (K : Int), .int .i64 (IX : Int), .int .i64 (LE : Int), .int .i64 (ST : Int), .int .i64 (BN : Int), .bool lst, .int .u32 (LK : Int), .int .i64 siz] 24)) := (Below.refl _ w).alloc (Nat.le_refl _) _
    have hrow := heap_alloc_new w (.cells #[.int .i64 (K : Int), .int .i64 (IX : Int), .int .i64 (LE : Int), .int .i64 (ST : Int), .int .i64 (BN : Int), .bool lst, .int .u32 (LK : Int), .int .i64 siz] 24)
    go_enter Try.func8, Try.ntmps8
    go_wp2_with fail
    generalize w.alloc (.cells #[.int .i64 (K : Int), .int .i64 (IX : Int), .int .i64 (LE : Int), .int .i64 (ST : Int), .int .i64 (BN : Int), .bool lst, .int .u32 (LK : Int), .int .i64 siz] 24) = w0 at *
    have hlt0 : w.heap.size < w0.heap.size := (Array.getElem?_eq_some_iff.1 hrow).1
    refine (make_any w0).mono ?_
    rintro e w1 ⟨rfl, hb1, ht1⟩
    have hbw1 := hb.trans (hb1.mono hb.size)
    have hrow1 := (hb1.block w.heap.size hlt0).trans hrow
    have hl1 := hl.below hbw1
    clear hb hrow hb1
    go_wp2_with first | (refine wpList_load_row rfl 24 (.tmp 4) rfl w.heap.size rfl 24 #[.int .i64 (K : Int), .int .i64 (IX : Int), .int .i64 (LE : Int), .int .i64 (ST : Int), .int .i64 (BN : Int), .bool lst, .int .u32 (LK : Int), .int .i64 siz] (0, 0) _ hrow1 Try.underlying24 rfl (by kernel_rfl) ?_)
    refine (HP.out _ _ ht1 hl1).mono ?_
    rintro e w2 ⟨v, rfl, hv⟩
    obtain ⟨A1, d1', rfl, hs, hA, ho, hb2⟩ := hv.parts
    have hbw2 := hbw1.trans (hb2.mono hbw1.size)
    go_wp2_with fail
    refine (known_any _).mono ?_
    rintro e w9 ⟨rfl, hb9⟩
    go_wp2_with fail
    go_ret
    exact ⟨rfl, hbw2.trans (hb9.mono hbw2.size)⟩
  · have hb : Below w.heap.size w (w.alloc (.cells #[.int .i64 (K : Int), .int .i64 (IX : Int), .int .i64 (LE : Int), .int .i64 (ST : Int), .int .i64 (BN : Int), .bool lst, .int .u32 (LK : Int), .int .i64 siz] 24)) := (Below.refl _ w).alloc (Nat.le_refl _) _
    have hrow := heap_alloc_new w (.cells #[.int .i64 (K : Int), .int .i64 (IX : Int), .int .i64 (LE : Int), .int .i64 (ST : Int), .int .i64 (BN : Int), .bool lst, .int .u32 (LK : Int), .int .i64 siz] 24)
    go_enter Try.func8, Try.ntmps8
    go_wp2_with fail
    generalize w.alloc (.cells #[.int .i64 (K : Int), .int .i64 (IX : Int), .int .i64 (LE : Int), .int .i64 (ST : Int), .int .i64 (BN : Int), .bool lst, .int .u32 (LK : Int), .int .i64 siz] 24) = w0 at *
    have hlt0 : w.heap.size < w0.heap.size := (Array.getElem?_eq_some_iff.1 hrow).1
    refine (make_any w0).mono ?_
    rintro e w1 ⟨rfl, hb1, ht1⟩
    have hbw1 := hb.trans (hb1.mono hb.size)
    have hrow1 := (hb1.block w.heap.size hlt0).trans hrow
    have hl1 := hl.below hbw1
    clear hb hrow hb1
    go_wp2_with first | (refine wpList_load_row rfl 24 (.tmp 4) rfl w.heap.size rfl 24 #[.int .i64 (K : Int), .int .i64 (IX : Int), .int .i64 (LE : Int), .int .i64 (ST : Int), .int .i64 (BN : Int), .bool lst, .int .u32 (LK : Int), .int .i64 siz] (0, 0) _ hrow1 Try.underlying24 rfl (by kernel_rfl) ?_)
    refine (HP.out _ _ ht1 hl1).mono ?_
    rintro e w2 ⟨v, rfl, hv⟩
    obtain ⟨A1, d1', rfl, hs, hA, ho, hb2⟩ := hv.parts
    have hbw2 := hbw1.trans (hb2.mono hbw1.size)
    go_wp2_with fail
    refine (known_any _).mono ?_
    rintro e w9 ⟨rfl, hb9⟩
    go_wp2_with fail
    go_ret
    exact ⟨rfl, hbw2.trans (hb9.mono hbw2.size)⟩
set_option maxRecDepth 20000 in
set_option maxHeartbeats 4000000 in
theorem walk_in (K IX LE ST BN LK : Nat) (lst : Bool) (siz : Int) (A : Option Addr) (c : Nat) (l : List UInt8) (i : Nat) (by_ : Int) (w : World) (hl : SeesB w A l) (hn : l.length ≤ 300) (hy : 0 ≤ by_ ∧ by_ < 256) (h0 : by_ ≠ 0) (hr : rightH K IX LE ST BN lst LK (l.length : Int) = true) (hkk : K < 256 ∧ IX < 4294967296 ∧ LE < 4294967296 ∧ ST < 4294967296 ∧ BN < 4294967296 ∧ LK < 4294967296 ∧ l.length < 4294967296) (hi : i < 36 + l.length) :
    Calls Try.prog 8 #[.agg #[.int .i64 (K : Int), .int .i64 (IX : Int), .int .i64 (LE : Int), .int .i64 (ST : Int), .int .i64 (BN : Int), .bool lst, .int .u32 (LK : Int), .int .i64 siz], .slice A l.length c, .int .i64 (i : Int), .int .u8 by_] w fun e w' => e = .returned (.bool true) ∧ Below w.heap.size w w' := by
  have d1 : decide (300 < (l.length : Int)) = false := decide_eq_false (by omega)
  have d4 : (by_ == 0) = false := by simpa using h0
  obtain ⟨G, hG⟩ : ∃ G, G = sealed (headHead K lst IX LE ST BN LK l.length) := ⟨_, rfl⟩
  have hGl : G.length = 32 := by rw [hG, sealed_len, headHead_len]
  have hP := fun g W (h : Tab W g) (hl : SeesB W A l) => hseal_ok g K IX LE ST BN LK lst siz A c l W h hl (by omega) hr hkk
  rw [← hG] at hP
  obtain ⟨S, hS⟩ : ∃ S, S = sumI (G ++ l) := ⟨_, rfl⟩
  obtain ⟨B, hB⟩ : ∃ B, B = sealed (G ++ l) := ⟨_, rfl⟩
  rw [← hB, ← hS] at hP
  have hBl : B.length = 36 + l.length := by rw [hB, sealed_len, List.length_append, hGl]; omega
  have hiB : i < B.length := by omega
  have d2 : decide ((i : Int) < 0) = false := by simp
  have d3 : decide ((B.length : Int) ≤ (i : Int)) = false := decide_eq_false (by omega)
  have d3' : decide (B.length ≤ i) = false := decide_eq_false (by omega)
  obtain ⟨hg1, hg2, hg3⟩ := openH_sealed K IX LE ST BN LK lst l [] hkk hr
  rw [List.append_nil, ← hG, ← hB] at hg1 hg2 hg3
  have hA : sumI (B.take (32 + l.length)) = (fldH B (32 + l.length) 4 : Int) := by
    have hx : (G ++ l).length = 32 + l.length := by rw [List.length_append, hGl]
    rw [hB, sealed, List.take_left' hx, show fldH _ (32 + l.length) 4 = fldH (G ++ l ++ bytesLE (sumI (G ++ l)).toNat 4) (32 + l.length + 0) 4 from rfl, fldH_skip _ _ _ _ _ hx,
      show fldH (bytesLE (sumI (G ++ l)).toNat 4) 0 4 = fldH (bytesLE (sumI (G ++ l)).toNat 4 ++ []) 0 4 by rw [List.append_nil], fldH_head _ _ _ (bytesLE_length _ _), le4 _ (by have := sumI_range (G ++ l); omega)]
    have := sumI_range (G ++ l); omega
  obtain ⟨z, hz, hzv⟩ := xor_byte B[i] by_ hy h0
  obtain ⟨ho, hg⟩ := open_changed B l.length i z hBl (by rw [hg1]) hg3 hA hiB hz
  have HZ := hid hzv
  obtain ⟨m, hm⟩ : ∃ m, m = B.set i z := ⟨_, rfl⟩
  rw [← hm] at ho hg
  have HMV := hid (show m.map byteV = (B.map byteV).set i (byteV z) by rw [hm, List.map_set])
  have hml : m.length = B.length := by rw [hm]; simp
  have HML := hid hml
  have hcell : (B.map byteV)[i]? = some (.int .u8 (B[i].toNat : Int)) := by simp [hiB, byteV]
  have hO := fun t A c W (h : SeesB W A m) (hc : m.length ≤ c) (hcm : c ≤ maxLen) (ht : Tab W t) => hopen_any t A c m W h hc hcm (by omega) ht
  have hGt := fun t A c W (h : SeesB W A m) (hc : m.length ≤ c) (hcm : c ≤ maxLen) (ht : Tab W t) => hget_any t A c m W ht h hc hcm (by omega)
  clear hzv hm hml hg1 hg2 hg3 hA
  generalize openH m = r1 at *
  generalize getH m = r2 at *
  obtain ⟨er, ⟨k1, i1, l1, s1, b1, t1, n1, z1⟩, p1, u1⟩ := r1
  obtain ⟨eg, ⟨k2, i2, l2, s2, b2, t2, n2, z2⟩⟩ := r2
  unfold OpenPost HeadV.cells at hO
  unfold GetHPost HeadV.cells at hGt
  simp only at hO hGt ho hg
  obtain ⟨bb, hbb⟩ : ∃ b, decide (i < 32) = b := ⟨_, rfl⟩
  have d6 : decide ((i : Int) < 32) = bb := by rw [← hbb]; simp; omega
  rw [hbb] at hg
  have dbb : (bb == bb) = true := by simp
  clear hbb
  generalize hbi : B[i] = b at hz HZ hcell
  have HCELL := hid hcell
  have HP := hid hP
  have HO := hid hO
  have HG := hid hGt
  have hpos : 0 < B.length := by omega
  have HBL := hid (show B.length ≤ 400 by omega)
  clear hP hG hGl hS hB hBl hkk hcell hbi hO hGt hz hi
  have hb : Below w.heap.size w (w.alloc (.cells #[.int .i64 (K : Int), .int .i64 (IX : Int), .int .i64 (LE : Int), .int .i64 (ST : Int), .int .i64 (BN : Int), .bool lst, .int .u32 (LK : Int), .int .i64 siz] 24)) := (Below.refl _ w).alloc (Nat.le_refl _) _
  have hrow := heap_alloc_new w (.cells #[.int .i64 (K : Int), .int .i64 (IX : Int), .int .i64 (LE : Int), .int .i64 (ST : Int), .int .i64 (BN : Int), .bool lst, .int .u32 (LK : Int), .int .i64 siz] 24)
  go_enter Try.func8, Try.ntmps8
  go_wp2_with fail
  generalize w.alloc (.cells #[.int .i64 (K : Int), .int .i64 (IX : Int), .int .i64 (LE : Int), .int .i64 (ST : Int), .int .i64 (BN : Int), .bool lst, .int .u32 (LK : Int), .int .i64 siz] 24) = w0 at *
  have hlt0 : w.heap.size < w0.heap.size := (Array.getElem?_eq_some_iff.1 hrow).1
  refine (make_any w0).mono ?_
  rintro e w1 ⟨rfl, hb1, ht1⟩
  have hbw1 := hb.trans (hb1.mono hb.size)
  have hrow1 := (hb1.block w.heap.size hlt0).trans hrow
  have hl1 := hl.below hbw1
  clear hb hrow hb1
  go_wp2_with first | (refine wpList_load_row rfl 24 (.tmp 4) rfl w.heap.size rfl 24 #[.int .i64 (K : Int), .int .i64 (IX : Int), .int .i64 (LE : Int), .int .i64 (ST : Int), .int .i64 (BN : Int), .bool lst, .int .u32 (LK : Int), .int .i64 siz] (0, 0) _ hrow1 Try.underlying24 rfl (by kernel_rfl) ?_)
  refine (HP.out _ _ ht1 hl1).mono ?_
  rintro e w2 ⟨v, rfl, hv⟩
  obtain ⟨A1, d1', rfl, hs, hA, ho2, hb2⟩ := hv.parts
  have hbw2 := hbw1.trans (hb2.mono hbw1.size)
  have ht2 := ht1.keep hb2 ht1.lt
  clear hv hA ho2 hb2 hbw1 hrow1 hl1 ht1
  go_wp2_with (at_builtin; refine wpList_app rfl (.tmp 50) (.tmp 51) _ rfl elB rfl (own_nil _ w2.heap.size 1 5) A1 B.length d1' rfl (B.map byteV) hs (by simp) (byte_one B) B.length (by omega) (B.map byteV) rfl (by have := HBL.out; unfold maxLen; omega) (by have := HBL.out; omega) (Nat.le_refl _) ?_; intro A3 c3 w3 hown3 hg3 hat3 hb3; obtain ⟨g, rfl, hgb, hgl⟩ := own_some hown3 hpos; have hc3 : w3.cell? ⟨g, i, none⟩ = some (.int .u8 (b.toNat : Int)) := (hown3.cellAt i (by omega)).trans HCELL.out; have hf3 : w3.frozen? ⟨g, i, none⟩ = false := hown3.frozenAt i)
  have hst := hown3.stored i (byteV z)
  rw [HZ.out]
  generalize hw4 : w3.setCell ⟨g, i, none⟩ (byteV z) = w4 at hst
  have hb4 : Below w2.heap.size w2 w4 := by rw [← hw4]; exact hb3.setCell hgb _
  have ht4 := ht2.keep hb4 ht2.lt
  have hbw4 := hbw2.trans (hb4.mono hbw2.size)
  have hs4 : SeesB w4 (some ⟨g, 0, none⟩) m := by
    have := own_sees hst.1
    rw [← HMV.out] at this
    exact this
  obtain ⟨hr1, hr2⟩ := own_room hst.1
  rw [← HML.out] at hr1
  rw [← HML.out]
  clear hst hw4 hb4 hown3 hg3 hat3 hb3 hc3 hf3 hs ht2 hbw2
  refine (HO.out _ _ _ _ hs4 hr1 hr2 ht4).mono ?_
  rintro e w5 ⟨A5, c5, rfl, _, _, _, hb5⟩
  have hb6 : Below w5.heap.size w5 (w5.alloc (.cells #[.int .i64 k1, .int .i64 i1, .int .i64 l1, .int .i64 s1, .int .i64 b1, .bool t1, .int .u32 n1, .int .i64 z1] 24)) := (Below.refl _ _).alloc (Nat.le_refl _) _
  have hb56 := hb5.trans (hb6.mono hb5.size)
  have hs6 := hs4.below hb56
  have ht6 := ht4.keep hb56 ht4.lt
  have hbw6 := hbw4.trans (hb56.mono hbw4.size)
  clear hb5 hb6 hb56 hs4 ht4 hbw4
  go_wp2_with fail
  generalize w5.alloc (.cells #[.int .i64 k1, .int .i64 i1, .int .i64 l1, .int .i64 s1, .int .i64 b1, .bool t1, .int .u32 n1, .int .i64 z1] 24) = w6 at *
  refine (HG.out _ _ _ _ hs6 hr1 hr2 ht6).mono ?_
  rintro e w7 ⟨rfl, hb7⟩
  have hb8 : Below w7.heap.size w7 (w7.alloc (.cells #[.int .i64 k2, .int .i64 i2, .int .i64 l2, .int .i64 s2, .int .i64 b2, .bool t2, .int .u32 n2, .int .i64 z2] 24)) := (Below.refl _ _).alloc (Nat.le_refl _) _
  have hbw2 := hbw6.trans ((hb7.trans (hb8.mono hb7.size)).mono hbw6.size)
  clear hb7 hb8 hbw6 hs6 ht6
  go_wp2_with fail
  refine (known_any _).mono ?_
  rintro e w9 ⟨rfl, hb9⟩
  go_wp2_with fail
  go_ret
  exact ⟨rfl, hbw2.trans (hb9.mono hbw2.size)⟩
theorem walk (k idx len stp bnd : Int) (lst : Bool) (lnk siz : Int) (A : Option Addr) (c : Nat) (l : List UInt8) (at_ by_ : Int) (w : World) (hlk : 0 ≤ lnk ∧ lnk < 4294967296) (hl : SeesB w A l ∧ l.length ≤ c ∧ c ≤ maxLen) (ha : -9223372036854775808 ≤ at_ ∧ at_ < 9223372036854775808) (hy : 0 ≤ by_ ∧ by_ < 256) :
    Calls Try.prog 8 #[.agg #[.int .i64 k, .int .i64 idx, .int .i64 len, .int .i64 stp, .int .i64 bnd, .bool lst, .int .u32 lnk, .int .i64 siz], .slice A l.length c, .int .i64 at_, .int .u8 by_] w fun e w' => e = .returned (.bool true) ∧ Below w.heap.size w w' := by
  obtain ⟨hl, _, _⟩ := hl
  by_cases h : 300 < l.length ∨ by_ = 0
  · exact walk_out k idx len stp bnd lst lnk siz A c l at_ by_ w h
  · cases hr : rightH k idx len stp bnd lst lnk (l.length : Int) with
    | false => exact walk_bad k idx len stp bnd lst lnk siz A c l at_ by_ w hl (by omega) (by omega) hr
    | true =>
      have hr2 := of_decide_eq_true hr
      obtain ⟨g0, g1, g2, g3, g4, g5, _⟩ := hr2
      obtain ⟨K, rfl⟩ := Int.eq_ofNat_of_zero_le (show 0 ≤ k by omega)
      obtain ⟨IX, rfl⟩ := Int.eq_ofNat_of_zero_le (show 0 ≤ idx by omega)
      obtain ⟨LE, rfl⟩ := Int.eq_ofNat_of_zero_le (show 0 ≤ len by omega)
      obtain ⟨ST, rfl⟩ := Int.eq_ofNat_of_zero_le (show 0 ≤ stp by omega)
      obtain ⟨BN, rfl⟩ := Int.eq_ofNat_of_zero_le (show 0 ≤ bnd by omega)
      obtain ⟨LK, rfl⟩ := Int.eq_ofNat_of_zero_le (show 0 ≤ lnk by omega)
      have hkk : K < 256 ∧ IX < 4294967296 ∧ LE < 4294967296 ∧ ST < 4294967296 ∧ BN < 4294967296 ∧ LK < 4294967296 ∧ l.length < 4294967296 := by omega
      by_cases hf : at_ < 0 ∨ (36 + l.length : Int) ≤ at_
      · exact walk_far K IX LE ST BN LK lst siz A c l at_ by_ w hl (by omega) (by omega) hr hkk hf
      · obtain ⟨i, rfl⟩ := Int.eq_ofNat_of_zero_le (show 0 ≤ at_ by omega)
        exact walk_in K IX LE ST BN LK lst siz A c l i by_ w hl (by omega) hy (by omega) hr hkk (by omega)
end Go.Proofs.Ytffcebjamichdaa.headChanges
