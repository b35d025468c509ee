/- What is wrong with sound: the program's answer. -/
import Derived.Test.YtfinefhebffpcaaPcmSees
namespace Go.Proofs.Ytfinefhebffpcaa
set_option linter.unusedVariables false
open Go.RowKit
theorem enter1 (args : Array Value) (W : World) : (callFunc 51 args).run Try.prog W = .ok (.enter 51 args) W := by go_simp
theorem enter2 (args : Array Value) (W : World) : (callFunc 32 args).run Try.prog W = .ok (.enter 32 args) W := by go_simp
theorem enter3 (args : Array Value) (W : World) : (callFunc 34 args).run Try.prog W = .ok (.enter 34 args) W := by go_simp
def loudI (n : Nat) (l : List Int) : Bool := l.any fun x => !fitsB x n
theorem fits1_any (x : Int) (n g : Nat) (w : World) (h1 : 8 ≤ n) (h2 : n ≤ 24) (hg : w.cell? ⟨g, 0, none⟩ = some (.int .i64 (n : Int))) :
    Calls Try.prog 51 #[.int .i64 x, .pointer (some ⟨g, 0, none⟩)] w fun e w' => e = .returned (.bool (!fitsB x n)) ∧ Below w.heap.size w w' := by
  go_enter Try.func51, Try.ntmps51
  go_wp2_with fail
  refine (fits_any x n w h1 h2).mono ?_
  rintro e w1 ⟨rfl, rfl⟩
  go_wp2_with fail
  go_ret
  exact ⟨rfl, Below.refl _ _⟩
set_option maxHeartbeats 1000000 in
theorem pfits_any (A : Option Addr) (c : Nat) (l : List Int) (n : Nat) (w : World) (h1 : 8 ≤ n) (h2 : n ≤ 24) (hl : SeesI w A l) (hlen : l.length ≤ maxLen) :
    Calls Try.prog 35 #[.slice A l.length c, .int .i64 (n : Int)] w fun e w' => e = .returned (.bool (!loudI n l)) ∧ Below w.heap.size w w' := by
  have hb : Below w.heap.size w (w.alloc (.cells #[.int .i64 (n : Int)] 3)) := (Below.refl _ w).alloc (Nat.le_refl _) _
  have hrow := heap_alloc_new w (.cells #[.int .i64 (n : Int)] 3)
  unfold maxLen at hlen
  go_enter Try.func35, Try.ntmps35
  go_wp2_with fail
  have hlt : w.heap.size < (w.alloc (.cells #[.int .i64 (n : Int)] 3)).heap.size := (Array.getElem?_eq_some_iff.1 hrow).1
  have hc : (w.alloc (.cells #[.int .i64 (n : Int)] 3)).cell? ⟨w.heap.size, 0, none⟩ = some (.int .i64 (n : Int)) := by rw [cell_of_row _ _ _ _ _ _ hrow]; rfl
  refine (hasI_any 51 (.pointer (some ⟨w.heap.size, 0, none⟩)) (fun x => !fitsB x n) A c l _ (hl.below hb) (by omega) enter1 (fun W x hW => fits1_any x n w.heap.size W h1 h2 (keep1 hW hc))).mono ?_
  rintro e w1 ⟨rfl, hb1⟩
  go_wp2_with fail
  go_ret
  exact ⟨rfl, hb.trans (hb1.mono hb.size)⟩
set_option maxHeartbeats 1000000 in
theorem unlike_any (x : Chan) (g : Nat) (ch bi ra : Int) (A : Option Addr) (c : Nat) (L : List Chan) (w : World) (hs : SndAt w g ch bi ra A L.length c) (h : SeesL w A L) :
    Calls Try.prog 32 #[.slice x.A x.l.length x.c, .pointer (some ⟨g, 0, none⟩)] w fun e w' => e = .returned (.bool (x.l.length != countL L)) ∧ Below w.heap.size w w' := by
  obtain ⟨s0, s1, s2, s3⟩ := hs
  have hc := count_any ch bi ra A c L w h
  rw [show (x.l.length != countL L) = ((x.l.length : Int) != (countL L : Int)) by
    rw [Bool.eq_iff_iff]; simp; omega]
  generalize countL L = n at *
  clear h
  go_enter Try.func32, Try.ntmps32
  go_wp2_with fail
  refine hc.mono ?_
  rintro e w1 ⟨rfl, hb⟩
  go_wp2_with fail
  go_ret
  exact ⟨rfl, hb⟩
set_option maxHeartbeats 1000000 in
theorem loud_any (x : Chan) (g : Nat) (ch ra : Int) (n : Nat) (A : Option Addr) (N c : Nat) (w : World) (h1 : 8 ≤ n) (h2 : n ≤ 24) (hs : SndAt w g ch (n : Int) ra A N c) (hx : SeesI w x.A x.l) (hlen : x.l.length ≤ maxLen) :
    Calls Try.prog 34 #[.slice x.A x.l.length x.c, .pointer (some ⟨g, 0, none⟩)] w fun e w' => e = .returned (.bool (loudI n x.l)) ∧ Below w.heap.size w w' := by
  obtain ⟨s0, s1, s2, s3⟩ := hs
  have hc := pfits_any x.A x.c x.l n w h1 h2 hx hlen
  generalize loudI n x.l = b at *
  clear hx
  go_enter Try.func34, Try.ntmps34
  go_wp2_with fail
  refine hc.mono ?_
  rintro e w1 ⟨rfl, hb⟩
  go_wp2_with fail
  go_ret
  exact ⟨by simp, hb⟩
/-- what is wrong with sound, by the document -/
def checkV (ch bi ra : Int) (L : List Chan) : Int :=
  if rightF ch bi ra = false then 20 else if (L.length : Int) ≠ ch ∨ 4294967295 < countL L then 22
  else if (L.any fun x => x.l.length != countL L) = true then 22 else if (L.any fun x => loudI bi.toNat x.l) = true then 21 else 0
set_option maxRecDepth 20000 in
set_option maxHeartbeats 4000000 in
theorem check_any (ch bi ra : Int) (A : Option Addr) (c : Nat) (L : List Chan) (w : World) (h : SeesL w A L) (hlen : L.length ≤ maxLen) :
    Calls Try.prog 12 #[.agg #[.int .i64 ch, .int .i64 bi, .int .i64 ra, .slice A L.length c]] w fun e w' => e = .returned (.int .i64 (checkV ch bi ra L)) ∧ Below w.heap.size w w' := by
  unfold maxLen at hlen
  obtain ⟨R, hR⟩ : ∃ R, R = checkV ch bi ra L := ⟨_, rfl⟩
  rw [← hR]
  have HR := hid hR
  clear hR
  have hb := below_box w ch bi ra A L.length c
  have hs := SndAt.new w ch bi ra A L.length c
  have h0 := h.below hb
  clear h
  cases hr : rightF ch bi ra with
  | false =>
    have hp := hid (fun W => pright_any ch bi ra W)
    rw [hr] at hp
    obtain rfl : R = 20 := by rw [HR.out, checkV, if_pos hr]
    clear HR hs h0
    go_enter Try.func12, Try.ntmps12
    go_wp2_with fail
    refine (hp.out _).mono ?_
    rintro e w1 ⟨rfl, hb1⟩
    go_wp2_with fail
    go_ret
    exact ⟨rfl, hb.trans (hb1.mono hb.size)⟩
  | true =>
    have hp := hid (fun W => pright_any ch bi ra W)
    rw [hr] at hp
    have hrr := hr
    unfold rightF at hrr
    have hrr := of_decide_eq_true hrr
    obtain ⟨n, rfl⟩ : ∃ n : Nat, bi = (n : Int) := ⟨bi.toNat, by omega⟩
    have h8 : 8 ≤ n := by omega
    have h24 : n ≤ 24 := by omega
    have HC := hid (fun W hW => count_any ch n ra A c L W hW)
    have HX := hid (show R = if (L.length : Int) ≠ ch ∨ 4294967295 < countL L then 22 else if (L.any fun x => x.l.length != countL L) = true then 22 else if (L.any fun x => loudI n x.l) = true then 21 else 0 by
      rw [HR.out, checkV, if_neg (by rw [hr]; simp)]; rfl)
    have HU := hid (fun (W : World) (hW : SndAt W w.heap.size ch n ra A L.length c) (hW2 : SeesL W A L) => hasL_any 32 (.pointer (some ⟨w.heap.size, 0, none⟩)) (fun x => x.l.length != countL L) A c L W hW2 (by omega) enter2 (fun W' x hx hb => unlike_any x w.heap.size ch n ra A c L W' (hW.below hb) (hW2.below hb)))
    have HL := hid (fun (W : World) (hW : SndAt W w.heap.size ch n ra A L.length c) (hW2 : SeesL W A L) => hasL_any 34 (.pointer (some ⟨w.heap.size, 0, none⟩)) (fun x => loudI n x.l) A c L W hW2 (by omega) enter3 (fun W' x hx hb => loud_any x w.heap.size ch ra n A L.length c W' h8 h24 (hW.below hb) ((hW2.below hb).2 x hx).1 (hW2.2 x hx).2))
    generalize hBU : (L.any fun x => x.l.length != countL L) = BU at *
    generalize hBL : (L.any fun x => loudI n x.l) = BL at *
    clear hBU hBL hr hrr HR
    by_cases hch : (L.length : Int) = ch
    · have dch : ((L.length : Int) != ch) = false := by simpa using hch
      generalize countL L = C at *
      by_cases hC : 4294967295 < C
      · have dC : decide (4294967295 < (C : Int)) = true := decide_eq_true (by omega)
        obtain rfl : R = 22 := by rw [HX.out, if_pos (.inr hC)]
        clear HX HU HL
        go_enter Try.func12, Try.ntmps12
        go_wp2_with fail
        refine (hp.out _).mono ?_
        rintro e w1 ⟨rfl, hb1⟩
        have hs1 := hs.below hb1
        have h1 := h0.below hb1
        obtain ⟨s0, s1, s2, s3⟩ := hs1
        have hbw1 := hb.trans (hb1.mono hb.size)
        clear hb hb1 hs h0
        go_wp2_with fail
        refine (HC.out _ h1).mono ?_
        rintro e w2 ⟨rfl, hb2⟩
        have hbw2 := hbw1.trans (hb2.mono hbw1.size)
        clear hbw1 hb2 s0 s1 s2 s3 h1
        go_wp2_with fail
        go_ret
        exact ⟨rfl, hbw2⟩
      · have dC : decide (4294967295 < (C : Int)) = false := decide_eq_false (by omega)
        have HX2 := hid (HX.out.trans (if_neg (by rintro (h | h); exact h hch; exact hC h)))
        clear HX
        go_enter Try.func12, Try.ntmps12
        go_wp2_with fail
        refine (hp.out _).mono ?_
        rintro e w1 ⟨rfl, hb1⟩
        have hs1 := hs.below hb1
        have h1 := h0.below hb1
        have hbw1 := hb.trans (hb1.mono hb.size)
        clear hb hb1 hs h0
        have hs1' := hs1
        obtain ⟨s0, s1, s2, s3⟩ := hs1
        go_wp2_with fail
        refine (HC.out _ h1).mono ?_
        rintro e w2 ⟨rfl, hb2⟩
        have hs2 := hs1'.below hb2
        have h2 := h1.below hb2
        have hbw2 := hbw1.trans (hb2.mono hbw1.size)
        clear hbw1 hb2 s0 s1 s2 s3 h1 hs1'
        have hs2' := hs2
        obtain ⟨s0, s1, s2, s3⟩ := hs2
        go_wp2_with fail
        refine (HU.out _ hs2' h2).mono ?_
        rintro e w3 ⟨rfl, hb3⟩
        have hs3 := hs2'.below hb3
        have h3 := h2.below hb3
        have hbw3 := hbw2.trans (hb3.mono hbw2.size)
        clear hbw2 hb3 s0 s1 s2 s3 h2 hs2' HU
        have hs3' := hs3
        obtain ⟨s0, s1, s2, s3⟩ := hs3
        cases BU with
        | true =>
          obtain rfl : R = 22 := by rw [HX2.out, if_pos rfl]
          go_wp2_with fail
          go_ret
          exact ⟨rfl, hbw3⟩
        | false =>
          go_wp2_with fail
          refine (HL.out _ hs3' h3).mono ?_
          rintro e w4 ⟨rfl, hb4⟩
          have hbw4 := hbw3.trans (hb4.mono hbw3.size)
          clear hbw3 hb4 s0 s1 s2 s3 h3 hs3' HL
          cases BL with
          | true =>
            obtain rfl : R = 21 := by rw [HX2.out]; rfl
            go_wp2_with fail
            go_ret
            exact ⟨rfl, hbw4⟩
          | false =>
            obtain rfl : R = 0 := by rw [HX2.out]; rfl
            go_wp2_with fail
            go_ret
            exact ⟨rfl, hbw4⟩
    · have dch : ((L.length : Int) != ch) = true := by simpa using hch
      obtain rfl : R = 22 := by rw [HX.out, if_pos (.inl hch)]
      clear HX HU HL
      go_enter Try.func12, Try.ntmps12
      go_wp2_with fail
      refine (hp.out _).mono ?_
      rintro e w1 ⟨rfl, hb1⟩
      have hs1 := hs.below hb1
      obtain ⟨s0, s1, s2, s3⟩ := hs1
      have hbw1 := hb.trans (hb1.mono hb.size)
      clear hb hb1 hs h0
      go_wp2_with fail
      go_ret
      exact ⟨rfl, hbw1⟩
end Go.Proofs.Ytfinefhebffpcaa
