/- The walk of TailBack. -/
import Derived.Test.YtllbemdeimgiiaaLaw28Known
import Derived.Test.YtllbemdeimgiiaaTailSame
import Derived.Test.YtllbemdeimgiiaaTailGetAny
import Derived.Test.YtllbemdeimgiiaaTailBack
import Derived.Test.YtllbemdeimgiiaaHeld
import Derived.Test.YtllbemdeimgiiaaConv
import Derived.Test.YtllbemdeimgiiaaApp
namespace Go.Proofs.Ytllbemdeimgiiaa.tailBack
set_option linter.unusedVariables false
open Go.RowKit
theorem sameT_self (c s : Int) (l : List Int) : sameT c s l c s l = true := by unfold sameT; simp
theorem elB : Elem Try.prog 35 5 1 1 := Elem.mk' Try.underlying35 (z := .int .u8 0) (by kernel_rfl) rfl (by omega)
theorem getT_err {b : List UInt8} (h : (getT b).1 ≠ 0) : ∃ er : Int, er ≠ 0 ∧ getT b = (er, 0, 0, 0, []) := by
  unfold getT at h ⊢
  split
  · exact ⟨31, by decide, rfl⟩
  · split
    · exact ⟨10, by decide, rfl⟩
    · split
      · exact ⟨60, by decide, rfl⟩
      · split
        · exact ⟨10, by decide, rfl⟩
        · split
          · exact ⟨33, by decide, rfl⟩
          · split
            · exact ⟨60, by decide, rfl⟩
            · rename_i h1 h2 h3 h4 h5 h6
              rw [if_neg h1, if_neg h2, if_neg h3, if_neg h4, if_neg h5, if_neg h6] at h
              exact absurd rfl h
def BackS (w : World) (A : Option Addr) (Q : List UInt8) (B : Option Addr) (b : List UInt8) (w' : World) : Prop := SeesB w' A Q ∧ SeesB w' B b ∧ Below w.heap.size w w'
theorem BackS.keep {w w' w'' : World} {A B : Option Addr} {Q b : List UInt8} (h : BackS w A Q B b w') (hb : Below w'.heap.size w' w'') : BackS w A Q B b w'' :=
  ⟨h.1.below hb, h.2.1.below hb, h.2.2.trans (hb.mono h.2.2.size)⟩
set_option maxHeartbeats 2000000 in
theorem walk_out (count sum : Int) (A : Option Addr) (c : Nat) (l : List Int) (AB : Option Addr) (cB : Nat) (b : List UInt8) (w : World) (h : 200 < l.length ∨ 1000 < b.length) :
    Calls Try.prog 8 #[.agg #[.int .i64 count, .int .u32 sum, .slice A l.length c], .slice AB b.length cB] w fun e w' => e = .returned (.bool true) ∧ Below w.heap.size w w' := by
  have hb : Below w.heap.size w (w.alloc (.cells #[.int .i64 count, .int .u32 sum, .slice A l.length c] 30)) := (Below.refl _ w).alloc (Nat.le_refl _) _
  have hrow := heap_alloc_new w (.cells #[.int .i64 count, .int .u32 sum, .slice A l.length c] 30)
  have c2 : (w.alloc (.cells #[.int .i64 count, .int .u32 sum, .slice A l.length c] 30)).cell? ⟨w.heap.size, 2, none⟩ = some (.slice A l.length c) := by rw [cell_of_row _ _ _ _ _ _ hrow]; rfl
  clear hrow
  obtain ⟨b1, hb1⟩ : ∃ b, decide (200 < (l.length : Int)) = b := ⟨_, rfl⟩
  obtain ⟨b4, hb4⟩ : ∃ b', decide (1000 < (b.length : Int)) = b' := ⟨_, rfl⟩
  have hor : b1 = true ∨ (b1 = false ∧ b4 = true) := by
    subst hb1 hb4
    simp only [decide_eq_true_eq, decide_eq_false_iff_not]
    omega
  clear h
  rcases hor with rfl | ⟨rfl, rfl⟩
  all_goals
    go_enter Try.func8, Try.ntmps8
    go_wp2_with fail
    refine (known_any _).mono ?_
    rintro e w2 ⟨rfl, hb2⟩
    go_wp2_with fail
    go_ret
    exact ⟨rfl, hb.trans (hb2.mono hb.size)⟩
set_option maxRecDepth 20000 in
set_option maxHeartbeats 4000000 in
theorem walk_be (count sum : Int) (A : Option Addr) (c : Nat) (l : List Int) (AB : Option Addr) (cB : Nat) (b : List UInt8) (w : World) (hl : SeesI w A l) (hlb : SeesB w AB b) (hn : l.length ≤ 200) (hnb : b.length ≤ 1000) (hcB : b.length ≤ cB) (hcm : cB ≤ maxLen) (hr : rightB count l = false) (hbad : (getT b).1 ≠ 0) :
    Calls Try.prog 8 #[.agg #[.int .i64 count, .int .u32 sum, .slice A l.length c], .slice AB b.length cB] w fun e w' => e = .returned (.bool true) ∧ Below w.heap.size w w' := by
  have d1 : decide (200 < (l.length : Int)) = false := decide_eq_false (by omega)
  have d2 : decide (1000 < (b.length : Int)) = false := decide_eq_false (by omega)
  have hE := fun t W (ht : Tab W t) (h : SeesB W AB b) => tget_any t AB cB b W ht h hcB hcm (by omega)
  obtain ⟨er, he, hge⟩ := getT_err hbad
  rw [hge] at hE
  have he1 : (er != 0) = true := by simpa using he
  unfold GetTPost at hE
  simp only at hE
  have HE := hid hE
  clear hE hge he hbad
  have hb : Below w.heap.size w (w.alloc (.cells #[.int .i64 count, .int .u32 sum, .slice A l.length c] 30)) := (Below.refl _ w).alloc (Nat.le_refl _) _
  have hrow := heap_alloc_new w (.cells #[.int .i64 count, .int .u32 sum, .slice A l.length c] 30)
  have c2 : (w.alloc (.cells #[.int .i64 count, .int .u32 sum, .slice A l.length c] 30)).cell? ⟨w.heap.size, 2, none⟩ = some (.slice A l.length c) := by rw [cell_of_row _ _ _ _ _ _ hrow]; rfl
  go_enter Try.func8, Try.ntmps8
  go_wp2_with fail
  generalize w.alloc (.cells #[.int .i64 count, .int .u32 sum, .slice A l.length c] 30) = w0 at *
  have hlt0 : w.heap.size < w0.heap.size := (Array.getElem?_eq_some_iff.1 hrow).1
  refine (make_any w0).mono ?_
  rintro e w1 ⟨rfl, hb1, ht1⟩
  have hbw1 := hb.trans (hb1.mono hb.size)
  have hrow1 := (hb1.block w.heap.size hlt0).trans hrow
  have hl1 := hl.below hbw1
  clear hb hrow hb1 c2
  go_wp2_with first | (refine wpList_load_row rfl 30 (.tmp 2) rfl w.heap.size rfl 30 #[.int .i64 count, .int .u32 sum, .slice A l.length c] (0, 0) _ hrow1 Try.underlying30 rfl (by kernel_rfl) ?_)
  refine (tput_bad _ _ _ A c l _ hl1 (by omega) hr).mono ?_
  rintro e w2 ⟨rfl, hb2⟩
  have hbwX := hbw1.trans (hb2.mono hbw1.size)
  have htX := ht1.keep hb2 ht1.lt
  have hbX := hlb.below hbwX
  clear hb2 hbw1 hrow1 hl1 ht1
  go_wp2_with fail
  refine (HE.out _ _ htX hbX).mono ?_
  rintro e w10 ⟨A10, c10, rfl, _, _, _, hb10⟩
  have hb11 : Below w10.heap.size w10 (w10.alloc (.cells #[.int .i64 0, .int .u32 0, .slice A10 0 c10] 30)) := (Below.refl _ _).alloc (Nat.le_refl _) _
  have hbw11 := hbwX.trans ((hb10.trans (hb11.mono hb10.size)).mono hbwX.size)
  clear hb10 hb11 hbwX htX hbX
  go_wp2_with fail
  refine (known_any _).mono ?_
  rintro e w12 ⟨rfl, hb12⟩
  go_wp2_with fail
  go_ret
  exact ⟨rfl, hbw11.trans (hb12.mono hbw11.size)⟩
set_option maxRecDepth 20000 in
set_option maxHeartbeats 4000000 in
theorem walk_bg (count sum : Int) (A : Option Addr) (c : Nat) (l : List Int) (AB : Option Addr) (cB : Nat) (b : List UInt8) (w : World) (hl : SeesI w A l) (hlb : SeesB w AB b) (hn : l.length ≤ 200) (hnb : b.length ≤ 1000) (hcB : b.length ≤ cB) (hcm : cB ≤ maxLen) (hr : rightB count l = false) (hgood : (getT b).1 = 0) :
    Calls Try.prog 8 #[.agg #[.int .i64 count, .int .u32 sum, .slice A l.length c], .slice AB b.length cB] w fun e w' => e = .returned (.bool true) ∧ Below w.heap.size w w' := by
  have d1 : decide (200 < (l.length : Int)) = false := decide_eq_false (by omega)
  have d2 : decide (1000 < (b.length : Int)) = false := decide_eq_false (by omega)
  obtain ⟨N, yc, ys, hge, hyc, hys, hfit, hNm, hry, hsl⟩ := put_getT b hgood
  obtain ⟨a, rfl, _⟩ := hlb.at (show 0 < b.length by omega)
  have hE := fun t W (ht : Tab W t) (h : SeesB W (some a) b) => tget_any t (some a) cB b W ht h hcB hcm (by omega)
  rw [hge] at hE
  obtain ⟨M, hM⟩ : ∃ M, M = 18 + 5 * N := ⟨_, rfl⟩
  rw [← hM] at hE hsl hfit
  have hNl := plcT_len b N
  have hQ := fun g A c W (ht : Tab W g) (hx : SeesI W A (plcT b N)) => tput_ok g yc ys A c (plcT b N) W ht hx (by omega) hry hyc hys (right_range hry).2.2.2
  rw [hsl] at hQ
  unfold GetTPost at hE
  simp only at hE
  obtain ⟨Y, hY⟩ : ∃ Y, Y = plcT b N := ⟨_, rfl⟩
  rw [← hY] at hE hQ
  obtain ⟨Q, hQ2⟩ : ∃ Q, Q = b.take M := ⟨_, rfl⟩
  have hQl : Q.length = M := by rw [hQ2, List.length_take]; omega
  rw [← hQ2] at hQ
  have HE := hid hE
  have HQ := hid hQ
  have HQ2 := hid hQ2
  have HQL := hid hQl
  have m1 : decide ((M : Int) ≤ (b.length : Int)) = true := decide_eq_true (by omega)
  have m1' : decide (M ≤ b.length) = true := decide_eq_true hfit
  have m2 : (0 : Int) ≤ (M : Int) := by omega
  have m3 : (M : Int) ≤ (cB : Int) := by omega
  clear hE hge hQ hQ2 hQl hY hNl hsl hM hry hgood
  have hb : Below w.heap.size w (w.alloc (.cells #[.int .i64 count, .int .u32 sum, .slice A l.length c] 30)) := (Below.refl _ w).alloc (Nat.le_refl _) _
  have hrow := heap_alloc_new w (.cells #[.int .i64 count, .int .u32 sum, .slice A l.length c] 30)
  have c2 : (w.alloc (.cells #[.int .i64 count, .int .u32 sum, .slice A l.length c] 30)).cell? ⟨w.heap.size, 2, none⟩ = some (.slice A l.length c) := by rw [cell_of_row _ _ _ _ _ _ hrow]; rfl
  go_enter Try.func8, Try.ntmps8
  go_wp2_with fail
  generalize w.alloc (.cells #[.int .i64 count, .int .u32 sum, .slice A l.length c] 30) = w0 at *
  have hlt0 : w.heap.size < w0.heap.size := (Array.getElem?_eq_some_iff.1 hrow).1
  refine (make_any w0).mono ?_
  rintro e w1 ⟨rfl, hb1, ht1⟩
  have hbw1 := hb.trans (hb1.mono hb.size)
  have hrow1 := (hb1.block w.heap.size hlt0).trans hrow
  have hl1 := hl.below hbw1
  clear hb hrow hb1 c2
  go_wp2_with first | (refine wpList_load_row rfl 30 (.tmp 2) rfl w.heap.size rfl 30 #[.int .i64 count, .int .u32 sum, .slice A l.length c] (0, 0) _ hrow1 Try.underlying30 rfl (by kernel_rfl) ?_)
  refine (tput_bad _ _ _ A c l _ hl1 (by omega) hr).mono ?_
  rintro e w2 ⟨rfl, hb2⟩
  have hbwX := hbw1.trans (hb2.mono hbw1.size)
  have htX := ht1.keep hb2 ht1.lt
  have hbX := hlb.below hbwX
  clear hb2 hbw1 hrow1 hl1 ht1
  go_wp2_with fail
  refine (HE.out _ _ htX hbX).mono ?_
  rintro e w10 ⟨A10, c10, rfl, hy10, _, _, hb10⟩
  have hb11 : Below w10.heap.size w10 (w10.alloc (.cells #[.int .i64 (yc : Int), .int .u32 (ys : Int), .slice A10 Y.length c10] 30)) := (Below.refl _ _).alloc (Nat.le_refl _) _
  have hr11 := heap_alloc_new w10 (.cells #[.int .i64 (yc : Int), .int .u32 (ys : Int), .slice A10 Y.length c10] 30)
  have hbx := hb10.trans (hb11.mono hb10.size)
  have hbw11 := hbwX.trans (hbx.mono hbwX.size)
  have ht11 := htX.keep hbx htX.lt
  have hy11 := SeesI.below hy10 hb11
  clear hb10 hb11 hbx hbwX htX hbX hy10
  go_wp2_with first | (refine wpList_load_row rfl 30 (.tmp 12) rfl w10.heap.size rfl 30 #[.int .i64 (yc : Int), .int .u32 (ys : Int), .slice A10 Y.length c10] (0, 0) _ hr11 Try.underlying30 rfl (by kernel_rfl) ?_)
  generalize w10.alloc (.cells #[.int .i64 (yc : Int), .int .u32 (ys : Int), .slice A10 Y.length c10] 30) = w11 at *
  refine (HQ.out _ _ _ _ ht11 hy11).mono ?_
  rintro e w13 ⟨v, rfl, hv⟩
  obtain ⟨A13, d13, rfl, hs13, _, _, hb13⟩ := hv.parts
  have hbw13 := hbw11.trans (hb13.mono hbw11.size)
  have hb14 := hlb.below hbw13
  clear hv hb13 hbw11 hr11 ht11 hy11
  rw [HQL.out]
  go_wp2_with fail
  refine wp_region_held (BackS w A13 Q (some a) b) (by kernel_rfl) (by kernel_rfl) ⟨hs13, hb14, hbw13.drew⟩ ?_
  repeat (first
    | (refine held_no (by rfl) ?_; (try simp only [Act.put, List.setIfInBounds_toArray, List.set_cons_zero, List.set_cons_succ]))
    | (apply held_yes (by rfl); (· intro w' h; have hcv1 := conv_bs A13 d13 Q w' h.1; have hcv2 := conv_bs (some a) cB Q w' (by have h2 := h.2.1; rw [HQ2.out]; unfold SeesB; rw [List.map_take]; exact Sees.take h2 M); rw [HQL.out] at hcv1 hcv2; go_simp; first | exact rfl | exact ⟨rfl, h⟩ | exact (known_any _).mono (fun e w'' ⟨he, hb⟩ => ⟨he, h.keep hb⟩)); (try simp only [Act.put, List.setIfInBounds_toArray, List.set_cons_zero, List.set_cons_succ])))
  refine held_nil fun w15 h15 => ?_
  go_wp2_with fail
  go_ret
  exact ⟨rfl, h15.2.2⟩
set_option maxRecDepth 20000 in
set_option maxHeartbeats 4000000 in
theorem walk_ge (cn sn : Nat) (A : Option Addr) (c : Nat) (l : List Int) (AB : Option Addr) (cB : Nat) (b : List UInt8) (w : World) (hl : SeesI w A l) (hlb : SeesB w AB b) (hn : l.length ≤ 200) (hnb : b.length ≤ 1000) (hcB : b.length ≤ cB) (hcm : cB ≤ maxLen) (hr : rightB (cn : Int) l = true) (hcn : cn < 4294967296) (hsn : sn < 4294967296) (hbad : (getT b).1 ≠ 0) :
    Calls Try.prog 8 #[.agg #[.int .i64 (cn : Int), .int .u32 (sn : Int), .slice A l.length c], .slice AB b.length cB] w fun e w' => e = .returned (.bool true) ∧ Below w.heap.size w w' := by
  have d1 : decide (200 < (l.length : Int)) = false := decide_eq_false (by omega)
  have d2 : decide (1000 < (b.length : Int)) = false := decide_eq_false (by omega)
  obtain ⟨B, hB⟩ : ∃ B, B = sealed (tailHead cn sn l) := ⟨_, rfl⟩
  have hBl : B.length = 18 + 5 * l.length := by rw [hB]; unfold sealed; rw [List.length_append, tailHead_len, bytesLE_length]; omega
  have hP := fun g W (ht : Tab W g) (hx : SeesI W A l) => tput_ok g cn sn A c l W ht hx (by omega) hr hcn hsn (right_range hr).2.2.2
  rw [← hB] at hP
  have hgp := getT_put cn sn l b hcn hsn hr
  rw [← hB] at hgp
  obtain ⟨m, hm⟩ : ∃ m, m = B ++ b := ⟨_, rfl⟩
  have hml : m.length = B.length + b.length := by rw [hm, List.length_append]
  have hmv : m.map byteV = B.map byteV ++ b.map byteV := by rw [hm, List.map_append]
  have hG := fun t A c W (h : SeesB W A m) (hc : m.length ≤ c) (hcm : c ≤ maxLen) (ht : Tab W t) => tget_any t A c m W ht h hc hcm (by omega)
  rw [hm, hgp, ← hm] at hG
  unfold GetTPost at hG
  simp only at hG
  have hSame := fun A1 c1 A2 c2 W (h1 : SeesI W A1 l) (h2 : SeesI W A2 l) => rtsame_any cn sn A1 c1 l cn sn A2 c2 l W h1 h2 (by unfold maxLen; omega) (by unfold maxLen; omega)
  rw [sameT_self] at hSame
  have HP := hid hP
  have HG := hid hG
  have HSM := hid hSame
  have HMV := hid hmv.symm
  have HML := hid hml.symm
  have hpos : 0 < B.length := by omega
  have HBL := hid (show B.length ≤ 2000 by omega)
  clear hP hG hgp hm hmv hml hSame hB hBl
  have hE := fun t W (ht : Tab W t) (h : SeesB W AB b) => tget_any t AB cB b W ht h hcB hcm (by omega)
  obtain ⟨er, he, hge⟩ := getT_err hbad
  rw [hge] at hE
  have he1 : (er != 0) = true := by simpa using he
  unfold GetTPost at hE
  simp only at hE
  have HE := hid hE
  clear hE hge he hbad
  have hb : Below w.heap.size w (w.alloc (.cells #[.int .i64 (cn : Int), .int .u32 (sn : Int), .slice A l.length c] 30)) := (Below.refl _ w).alloc (Nat.le_refl _) _
  have hrow := heap_alloc_new w (.cells #[.int .i64 (cn : Int), .int .u32 (sn : Int), .slice A l.length c] 30)
  have c2 : (w.alloc (.cells #[.int .i64 (cn : Int), .int .u32 (sn : Int), .slice A l.length c] 30)).cell? ⟨w.heap.size, 2, none⟩ = some (.slice A l.length c) := by rw [cell_of_row _ _ _ _ _ _ hrow]; rfl
  go_enter Try.func8, Try.ntmps8
  go_wp2_with fail
  generalize w.alloc (.cells #[.int .i64 (cn : Int), .int .u32 (sn : Int), .slice A l.length c] 30) = w0 at *
  have hlt0 : w.heap.size < w0.heap.size := (Array.getElem?_eq_some_iff.1 hrow).1
  refine (make_any w0).mono ?_
  rintro e w1 ⟨rfl, hb1, ht1⟩
  have hbw1 := hb.trans (hb1.mono hb.size)
  have hrow1 := (hb1.block w.heap.size hlt0).trans hrow
  have hl1 := hl.below hbw1
  clear hb hrow hb1 c2
  go_wp2_with first | (refine wpList_load_row rfl 30 (.tmp 2) rfl w.heap.size rfl 30 #[.int .i64 (cn : Int), .int .u32 (sn : Int), .slice A l.length c] (0, 0) _ hrow1 Try.underlying30 rfl (by kernel_rfl) ?_)
  refine (HP.out _ _ ht1 hl1).mono ?_
  rintro e w2 ⟨v, rfl, hv⟩
  obtain ⟨A1, d1', rfl, hs, hA, ho2, hb2⟩ := hv.parts
  have hbw2 := hbw1.trans (hb2.mono hbw1.size)
  have hrow2 := (hb2.block w.heap.size (Array.getElem?_eq_some_iff.1 hrow1).1).trans hrow1
  have ht2 := ht1.keep hb2 ht1.lt
  have hm2 := hlb.below hbw2
  clear hv hA ho2 hb2 hbw1 hrow1 hl1 ht1
  go_wp2_with first
    | (at_builtin
       refine wpList_app rfl (.tmp 36) (.tmp 37) _ rfl elB rfl (own_nil _ w2.heap.size 1 5) A1 B.length d1' rfl (B.map byteV) hs (by simp) (byte_one B) B.length (by omega) (B.map byteV) rfl (by have := HBL.out; unfold maxLen; omega) (by have := HBL.out; omega) (Nat.le_refl _) ?_
       intro A3 c3 w3 hown3 hg3 hat3 hb3
       have hm3 := hm2.below hb3)
    | (at_builtin
       refine wpList_app rfl (.tmp 38) (.tmp 39) _ rfl elB rfl hown3 AB b.length cB rfl (b.map byteV) hm3 (by simp) (byte_one b) m.length HML.out (m.map byteV) HMV.out (by have := HBL.out; have := HML.out; unfold maxLen; omega) (by have := HBL.out; have := HML.out; omega) hb3.size ?_
       intro A4 c4 w4 hown4 hg4 hat4 hb4)
  have hb24 := hb3.trans hb4
  have hs4 : SeesB w4 A4 m := own_sees hown4
  obtain ⟨hr1, hr2⟩ := own_room hown4
  have ht4 := ht2.keep hb24 ht2.lt
  have hbw4 := hbw2.trans (hb24.mono hbw2.size)
  have hrow4 := (hb24.block w.heap.size (Array.getElem?_eq_some_iff.1 hrow2).1).trans hrow2
  clear hb24 hb3 hb4 hg3 hg4 hat3 hat4 hown3 hown4 hm2 hm3 ht2 hs hbw2 hrow2
  refine (HG.out _ _ _ _ hs4 hr1 hr2 ht4).mono ?_
  rintro e w5 ⟨A5, c5, rfl, hp5, _, _, hb5⟩
  have hb6 : Below w5.heap.size w5 (w5.alloc (.cells #[.int .i64 (cn : Int), .int .u32 (sn : Int), .slice A5 l.length c5] 30)) := (Below.refl _ _).alloc (Nat.le_refl _) _
  have hr6 := heap_alloc_new w5 (.cells #[.int .i64 (cn : Int), .int .u32 (sn : Int), .slice A5 l.length c5] 30)
  have hb56 := hb5.trans (hb6.mono hb5.size)
  have ht6 := ht4.keep hb56 ht4.lt
  have hbw6 := hbw4.trans (hb56.mono hbw4.size)
  have hrow6 := (hb56.block w.heap.size (Array.getElem?_eq_some_iff.1 hrow4).1).trans hrow4
  have hp6 := hp5.below hb6
  have hl6 := hl.below hbw6
  have hnn : ((B.length : Int) != (B.length : Int)) = false := by simp
  clear hb5 hb6 hb56 hs4 ht4 hbw4 hrow4 hp5 hr1 hr2
  have q0 : (w5.alloc (.cells #[.int .i64 (cn : Int), .int .u32 (sn : Int), .slice A5 l.length c5] 30)).cell? ⟨w.heap.size, 0, none⟩ = some (.int .i64 (cn : Int)) := by rw [cell_of_row _ _ _ _ _ _ hrow6]; rfl
  have q1 : (w5.alloc (.cells #[.int .i64 (cn : Int), .int .u32 (sn : Int), .slice A5 l.length c5] 30)).cell? ⟨w.heap.size, 1, none⟩ = some (.int .u32 (sn : Int)) := by rw [cell_of_row _ _ _ _ _ _ hrow6]; rfl
  have q2 : (w5.alloc (.cells #[.int .i64 (cn : Int), .int .u32 (sn : Int), .slice A5 l.length c5] 30)).cell? ⟨w.heap.size, 2, none⟩ = some (.slice A l.length c) := by rw [cell_of_row _ _ _ _ _ _ hrow6]; rfl
  have k0 : (w5.alloc (.cells #[.int .i64 (cn : Int), .int .u32 (sn : Int), .slice A5 l.length c5] 30)).cell? ⟨w5.heap.size, 0, none⟩ = some (.int .i64 (cn : Int)) := by rw [cell_of_row _ _ _ _ _ _ hr6]; rfl
  have k1 : (w5.alloc (.cells #[.int .i64 (cn : Int), .int .u32 (sn : Int), .slice A5 l.length c5] 30)).cell? ⟨w5.heap.size, 1, none⟩ = some (.int .u32 (sn : Int)) := by rw [cell_of_row _ _ _ _ _ _ hr6]; rfl
  have k2 : (w5.alloc (.cells #[.int .i64 (cn : Int), .int .u32 (sn : Int), .slice A5 l.length c5] 30)).cell? ⟨w5.heap.size, 2, none⟩ = some (.slice A5 l.length c5) := by rw [cell_of_row _ _ _ _ _ _ hr6]; rfl
  go_wp2_with fail
  refine (HSM.out _ _ _ _ _ hl6 hp6).mono ?_
  rintro e w7 ⟨rfl, hb7⟩
  have hbwX := hbw6.trans (hb7.mono hbw6.size)
  have htX := ht6.keep hb7 ht6.lt
  have hbX := hlb.below hbwX
  clear hb7 hbw6 ht6 hrow6 hr6 hp6 hl6 q0 q1 q2 k0 k1 k2 hnn
  go_wp2_with fail
  refine (HE.out _ _ htX hbX).mono ?_
  rintro e w10 ⟨A10, c10, rfl, _, _, _, hb10⟩
  have hb11 : Below w10.heap.size w10 (w10.alloc (.cells #[.int .i64 0, .int .u32 0, .slice A10 0 c10] 30)) := (Below.refl _ _).alloc (Nat.le_refl _) _
  have hbw11 := hbwX.trans ((hb10.trans (hb11.mono hb10.size)).mono hbwX.size)
  clear hb10 hb11 hbwX htX hbX
  go_wp2_with fail
  refine (known_any _).mono ?_
  rintro e w12 ⟨rfl, hb12⟩
  go_wp2_with fail
  go_ret
  exact ⟨rfl, hbw11.trans (hb12.mono hbw11.size)⟩
set_option maxRecDepth 20000 in
set_option maxHeartbeats 4000000 in
theorem walk_gg (cn sn : Nat) (A : Option Addr) (c : Nat) (l : List Int) (AB : Option Addr) (cB : Nat) (b : List UInt8) (w : World) (hl : SeesI w A l) (hlb : SeesB w AB b) (hn : l.length ≤ 200) (hnb : b.length ≤ 1000) (hcB : b.length ≤ cB) (hcm : cB ≤ maxLen) (hr : rightB (cn : Int) l = true) (hcn : cn < 4294967296) (hsn : sn < 4294967296) (hgood : (getT b).1 = 0) :
    Calls Try.prog 8 #[.agg #[.int .i64 (cn : Int), .int .u32 (sn : Int), .slice A l.length c], .slice AB b.length cB] w fun e w' => e = .returned (.bool true) ∧ Below w.heap.size w w' := by
  have d1 : decide (200 < (l.length : Int)) = false := decide_eq_false (by omega)
  have d2 : decide (1000 < (b.length : Int)) = false := decide_eq_false (by omega)
  obtain ⟨B, hB⟩ : ∃ B, B = sealed (tailHead cn sn l) := ⟨_, rfl⟩
  have hBl : B.length = 18 + 5 * l.length := by rw [hB]; unfold sealed; rw [List.length_append, tailHead_len, bytesLE_length]; omega
  have hP := fun g W (ht : Tab W g) (hx : SeesI W A l) => tput_ok g cn sn A c l W ht hx (by omega) hr hcn hsn (right_range hr).2.2.2
  rw [← hB] at hP
  have hgp := getT_put cn sn l b hcn hsn hr
  rw [← hB] at hgp
  obtain ⟨m, hm⟩ : ∃ m, m = B ++ b := ⟨_, rfl⟩
  have hml : m.length = B.length + b.length := by rw [hm, List.length_append]
  have hmv : m.map byteV = B.map byteV ++ b.map byteV := by rw [hm, List.map_append]
  have hG := fun t A c W (h : SeesB W A m) (hc : m.length ≤ c) (hcm : c ≤ maxLen) (ht : Tab W t) => tget_any t A c m W ht h hc hcm (by omega)
  rw [hm, hgp, ← hm] at hG
  unfold GetTPost at hG
  simp only at hG
  have hSame := fun A1 c1 A2 c2 W (h1 : SeesI W A1 l) (h2 : SeesI W A2 l) => rtsame_any cn sn A1 c1 l cn sn A2 c2 l W h1 h2 (by unfold maxLen; omega) (by unfold maxLen; omega)
  rw [sameT_self] at hSame
  have HP := hid hP
  have HG := hid hG
  have HSM := hid hSame
  have HMV := hid hmv.symm
  have HML := hid hml.symm
  have hpos : 0 < B.length := by omega
  have HBL := hid (show B.length ≤ 2000 by omega)
  clear hP hG hgp hm hmv hml hSame hB hBl
  obtain ⟨N, yc, ys, hge, hyc, hys, hfit, hNm, hry, hsl⟩ := put_getT b hgood
  obtain ⟨a, rfl, _⟩ := hlb.at (show 0 < b.length by omega)
  have hE := fun t W (ht : Tab W t) (h : SeesB W (some a) b) => tget_any t (some a) cB b W ht h hcB hcm (by omega)
  rw [hge] at hE
  obtain ⟨M, hM⟩ : ∃ M, M = 18 + 5 * N := ⟨_, rfl⟩
  rw [← hM] at hE hsl hfit
  have hNl := plcT_len b N
  have hQ := fun g A c W (ht : Tab W g) (hx : SeesI W A (plcT b N)) => tput_ok g yc ys A c (plcT b N) W ht hx (by omega) hry hyc hys (right_range hry).2.2.2
  rw [hsl] at hQ
  unfold GetTPost at hE
  simp only at hE
  obtain ⟨Y, hY⟩ : ∃ Y, Y = plcT b N := ⟨_, rfl⟩
  rw [← hY] at hE hQ
  obtain ⟨Q, hQ2⟩ : ∃ Q, Q = b.take M := ⟨_, rfl⟩
  have hQl : Q.length = M := by rw [hQ2, List.length_take]; omega
  rw [← hQ2] at hQ
  have HE := hid hE
  have HQ := hid hQ
  have HQ2 := hid hQ2
  have HQL := hid hQl
  have m1 : decide ((M : Int) ≤ (b.length : Int)) = true := decide_eq_true (by omega)
  have m1' : decide (M ≤ b.length) = true := decide_eq_true hfit
  have m2 : (0 : Int) ≤ (M : Int) := by omega
  have m3 : (M : Int) ≤ (cB : Int) := by omega
  clear hE hge hQ hQ2 hQl hY hNl hsl hM hry hgood
  have hb : Below w.heap.size w (w.alloc (.cells #[.int .i64 (cn : Int), .int .u32 (sn : Int), .slice A l.length c] 30)) := (Below.refl _ w).alloc (Nat.le_refl _) _
  have hrow := heap_alloc_new w (.cells #[.int .i64 (cn : Int), .int .u32 (sn : Int), .slice A l.length c] 30)
  have c2 : (w.alloc (.cells #[.int .i64 (cn : Int), .int .u32 (sn : Int), .slice A l.length c] 30)).cell? ⟨w.heap.size, 2, none⟩ = some (.slice A l.length c) := by rw [cell_of_row _ _ _ _ _ _ hrow]; rfl
  go_enter Try.func8, Try.ntmps8
  go_wp2_with fail
  generalize w.alloc (.cells #[.int .i64 (cn : Int), .int .u32 (sn : Int), .slice A l.length c] 30) = w0 at *
  have hlt0 : w.heap.size < w0.heap.size := (Array.getElem?_eq_some_iff.1 hrow).1
  refine (make_any w0).mono ?_
  rintro e w1 ⟨rfl, hb1, ht1⟩
  have hbw1 := hb.trans (hb1.mono hb.size)
  have hrow1 := (hb1.block w.heap.size hlt0).trans hrow
  have hl1 := hl.below hbw1
  clear hb hrow hb1 c2
  go_wp2_with first | (refine wpList_load_row rfl 30 (.tmp 2) rfl w.heap.size rfl 30 #[.int .i64 (cn : Int), .int .u32 (sn : Int), .slice A l.length c] (0, 0) _ hrow1 Try.underlying30 rfl (by kernel_rfl) ?_)
  refine (HP.out _ _ ht1 hl1).mono ?_
  rintro e w2 ⟨v, rfl, hv⟩
  obtain ⟨A1, d1', rfl, hs, hA, ho2, hb2⟩ := hv.parts
  have hbw2 := hbw1.trans (hb2.mono hbw1.size)
  have hrow2 := (hb2.block w.heap.size (Array.getElem?_eq_some_iff.1 hrow1).1).trans hrow1
  have ht2 := ht1.keep hb2 ht1.lt
  have hm2 := hlb.below hbw2
  clear hv hA ho2 hb2 hbw1 hrow1 hl1 ht1
  go_wp2_with first
    | (at_builtin
       refine wpList_app rfl (.tmp 36) (.tmp 37) _ rfl elB rfl (own_nil _ w2.heap.size 1 5) A1 B.length d1' rfl (B.map byteV) hs (by simp) (byte_one B) B.length (by omega) (B.map byteV) rfl (by have := HBL.out; unfold maxLen; omega) (by have := HBL.out; omega) (Nat.le_refl _) ?_
       intro A3 c3 w3 hown3 hg3 hat3 hb3
       have hm3 := hm2.below hb3)
    | (at_builtin
       refine wpList_app rfl (.tmp 38) (.tmp 39) _ rfl elB rfl hown3 (some a) b.length cB rfl (b.map byteV) hm3 (by simp) (byte_one b) m.length HML.out (m.map byteV) HMV.out (by have := HBL.out; have := HML.out; unfold maxLen; omega) (by have := HBL.out; have := HML.out; omega) hb3.size ?_
       intro A4 c4 w4 hown4 hg4 hat4 hb4)
  have hb24 := hb3.trans hb4
  have hs4 : SeesB w4 A4 m := own_sees hown4
  obtain ⟨hr1, hr2⟩ := own_room hown4
  have ht4 := ht2.keep hb24 ht2.lt
  have hbw4 := hbw2.trans (hb24.mono hbw2.size)
  have hrow4 := (hb24.block w.heap.size (Array.getElem?_eq_some_iff.1 hrow2).1).trans hrow2
  clear hb24 hb3 hb4 hg3 hg4 hat3 hat4 hown3 hown4 hm2 hm3 ht2 hs hbw2 hrow2
  refine (HG.out _ _ _ _ hs4 hr1 hr2 ht4).mono ?_
  rintro e w5 ⟨A5, c5, rfl, hp5, _, _, hb5⟩
  have hb6 : Below w5.heap.size w5 (w5.alloc (.cells #[.int .i64 (cn : Int), .int .u32 (sn : Int), .slice A5 l.length c5] 30)) := (Below.refl _ _).alloc (Nat.le_refl _) _
  have hr6 := heap_alloc_new w5 (.cells #[.int .i64 (cn : Int), .int .u32 (sn : Int), .slice A5 l.length c5] 30)
  have hb56 := hb5.trans (hb6.mono hb5.size)
  have ht6 := ht4.keep hb56 ht4.lt
  have hbw6 := hbw4.trans (hb56.mono hbw4.size)
  have hrow6 := (hb56.block w.heap.size (Array.getElem?_eq_some_iff.1 hrow4).1).trans hrow4
  have hp6 := hp5.below hb6
  have hl6 := hl.below hbw6
  have hnn : ((B.length : Int) != (B.length : Int)) = false := by simp
  clear hb5 hb6 hb56 hs4 ht4 hbw4 hrow4 hp5 hr1 hr2
  have q0 : (w5.alloc (.cells #[.int .i64 (cn : Int), .int .u32 (sn : Int), .slice A5 l.length c5] 30)).cell? ⟨w.heap.size, 0, none⟩ = some (.int .i64 (cn : Int)) := by rw [cell_of_row _ _ _ _ _ _ hrow6]; rfl
  have q1 : (w5.alloc (.cells #[.int .i64 (cn : Int), .int .u32 (sn : Int), .slice A5 l.length c5] 30)).cell? ⟨w.heap.size, 1, none⟩ = some (.int .u32 (sn : Int)) := by rw [cell_of_row _ _ _ _ _ _ hrow6]; rfl
  have q2 : (w5.alloc (.cells #[.int .i64 (cn : Int), .int .u32 (sn : Int), .slice A5 l.length c5] 30)).cell? ⟨w.heap.size, 2, none⟩ = some (.slice A l.length c) := by rw [cell_of_row _ _ _ _ _ _ hrow6]; rfl
  have k0 : (w5.alloc (.cells #[.int .i64 (cn : Int), .int .u32 (sn : Int), .slice A5 l.length c5] 30)).cell? ⟨w5.heap.size, 0, none⟩ = some (.int .i64 (cn : Int)) := by rw [cell_of_row _ _ _ _ _ _ hr6]; rfl
  have k1 : (w5.alloc (.cells #[.int .i64 (cn : Int), .int .u32 (sn : Int), .slice A5 l.length c5] 30)).cell? ⟨w5.heap.size, 1, none⟩ = some (.int .u32 (sn : Int)) := by rw [cell_of_row _ _ _ _ _ _ hr6]; rfl
  have k2 : (w5.alloc (.cells #[.int .i64 (cn : Int), .int .u32 (sn : Int), .slice A5 l.length c5] 30)).cell? ⟨w5.heap.size, 2, none⟩ = some (.slice A5 l.length c5) := by rw [cell_of_row _ _ _ _ _ _ hr6]; rfl
  go_wp2_with fail
  refine (HSM.out _ _ _ _ _ hl6 hp6).mono ?_
  rintro e w7 ⟨rfl, hb7⟩
  have hbwX := hbw6.trans (hb7.mono hbw6.size)
  have htX := ht6.keep hb7 ht6.lt
  have hbX := hlb.below hbwX
  clear hb7 hbw6 ht6 hrow6 hr6 hp6 hl6 q0 q1 q2 k0 k1 k2 hnn
  go_wp2_with fail
  refine (HE.out _ _ htX hbX).mono ?_
  rintro e w10 ⟨A10, c10, rfl, hy10, _, _, hb10⟩
  have hb11 : Below w10.heap.size w10 (w10.alloc (.cells #[.int .i64 (yc : Int), .int .u32 (ys : Int), .slice A10 Y.length c10] 30)) := (Below.refl _ _).alloc (Nat.le_refl _) _
  have hr11 := heap_alloc_new w10 (.cells #[.int .i64 (yc : Int), .int .u32 (ys : Int), .slice A10 Y.length c10] 30)
  have hbx := hb10.trans (hb11.mono hb10.size)
  have hbw11 := hbwX.trans (hbx.mono hbwX.size)
  have ht11 := htX.keep hbx htX.lt
  have hy11 := SeesI.below hy10 hb11
  clear hb10 hb11 hbx hbwX htX hbX hy10
  go_wp2_with first | (refine wpList_load_row rfl 30 (.tmp 12) rfl w10.heap.size rfl 30 #[.int .i64 (yc : Int), .int .u32 (ys : Int), .slice A10 Y.length c10] (0, 0) _ hr11 Try.underlying30 rfl (by kernel_rfl) ?_)
  generalize w10.alloc (.cells #[.int .i64 (yc : Int), .int .u32 (ys : Int), .slice A10 Y.length c10] 30) = w11 at *
  refine (HQ.out _ _ _ _ ht11 hy11).mono ?_
  rintro e w13 ⟨v, rfl, hv⟩
  obtain ⟨A13, d13, rfl, hs13, _, _, hb13⟩ := hv.parts
  have hbw13 := hbw11.trans (hb13.mono hbw11.size)
  have hb14 := hlb.below hbw13
  clear hv hb13 hbw11 hr11 ht11 hy11
  rw [HQL.out]
  go_wp2_with fail
  refine wp_region_held (BackS w A13 Q (some a) b) (by kernel_rfl) (by kernel_rfl) ⟨hs13, hb14, hbw13.drew⟩ ?_
  repeat (first
    | (refine held_no (by rfl) ?_; (try simp only [Act.put, List.setIfInBounds_toArray, List.set_cons_zero, List.set_cons_succ]))
    | (apply held_yes (by rfl); (· intro w' h; have hcv1 := conv_bs A13 d13 Q w' h.1; have hcv2 := conv_bs (some a) cB Q w' (by have h2 := h.2.1; rw [HQ2.out]; unfold SeesB; rw [List.map_take]; exact Sees.take h2 M); rw [HQL.out] at hcv1 hcv2; go_simp; first | exact rfl | exact ⟨rfl, h⟩ | exact (known_any _).mono (fun e w'' ⟨he, hb⟩ => ⟨he, h.keep hb⟩)); (try simp only [Act.put, List.setIfInBounds_toArray, List.set_cons_zero, List.set_cons_succ])))
  refine held_nil fun w15 h15 => ?_
  go_wp2_with fail
  go_ret
  exact ⟨rfl, h15.2.2⟩
theorem walk (count sum : Int) (A : Option Addr) (c : Nat) (l : List Int) (AB : Option Addr) (cB : Nat) (b : List UInt8) (w : World) (hl : SeesI w A l ∧ l.length ≤ c ∧ c ≤ maxLen ∧ 0 ≤ sum ∧ sum < 4294967296) (hb : SeesB w AB b ∧ b.length ≤ cB ∧ cB ≤ maxLen) :
    Calls Try.prog 8 #[.agg #[.int .i64 count, .int .u32 sum, .slice A l.length c], .slice AB b.length cB] w fun e w' => e = .returned (.bool true) ∧ Below w.heap.size w w' := by
  obtain ⟨hx, _, _, hs1, hs2⟩ := hl
  obtain ⟨hlb, hcB, hcm⟩ := hb
  by_cases h : 200 < l.length ∨ 1000 < b.length
  · exact walk_out count sum A c l AB cB b w h
  · cases hr : rightB count l with
    | false =>
      by_cases he : (getT b).1 = 0
      · exact walk_bg count sum A c l AB cB b w hx hlb (by omega) (by omega) hcB hcm hr he
      · exact walk_be count sum A c l AB cB b w hx hlb (by omega) (by omega) hcB hcm hr he
    | true =>
      obtain ⟨hc0, hc1, _⟩ := right_range hr
      obtain ⟨cn, rfl⟩ := Int.eq_ofNat_of_zero_le hc0
      obtain ⟨sn, rfl⟩ := Int.eq_ofNat_of_zero_le hs1
      by_cases he : (getT b).1 = 0
      · exact walk_gg cn sn A c l AB cB b w hx hlb (by omega) (by omega) hcB hcm hr (by omega) (by omega) he
      · exact walk_ge cn sn A c l AB cB b w hx hlb (by omega) (by omega) hcB hcm hr (by omega) (by omega) he
end Go.Proofs.Ytllbemdeimgiiaa.tailBack
