/- Sounds compared: the program's. -/
import Derived.Test.YtfinefhebffpcaaPcmSame
namespace Go.Proofs.Ytfinefhebffpcaa
set_option linter.unusedVariables false
open Go.RowKit
theorem same1_any (x y : Chan) (w : World) (hx : SeesI w x.A x.l) (hy : SeesI w y.A y.l) (h1 : x.l.length ≤ maxLen) (h2 : y.l.length ≤ maxLen) :
    Calls Try.prog 42 #[.slice x.A x.l.length x.c, .slice y.A y.l.length y.c] w fun e w' => e = .returned (.bool (decide (x.l = y.l))) ∧ Below w.heap.size w w' := by
  have hc := equalI_any x.A y.A x.c y.c x.l y.l w hx hy h1 h2
  go_enter Try.func42, Try.ntmps42
  go_wp2_with fail
  refine hc.mono ?_
  rintro e w1 ⟨rfl, hb⟩
  go_wp2_with fail
  go_ret
  exact ⟨rfl, hb⟩
set_option maxRecDepth 20000 in
set_option maxHeartbeats 4000000 in
theorem equalL_any (A B : Option Addr) (c d : Nat) (L M : List Chan) (w : World) (hl : SeesL w A L) (hm : SeesL w B M) (h1 : L.length ≤ maxLen) (h2 : M.length ≤ maxLen) :
    Calls Try.prog 41 #[.slice A L.length c, .slice B M.length d, .func (.func 42) #[] #[]] w fun e w' => e = .returned (.bool (decide (ints L = ints M))) ∧ Below w.heap.size w w' := by
  unfold maxLen at h1 h2
  obtain ⟨R, hR⟩ : ∃ R, R = decide (ints L = ints M) := ⟨_, rfl⟩
  rw [← hR]
  by_cases hlen : L.length = M.length
  · have dn : ((L.length : Int) != (M.length : Int)) = false := by simp [hlen]
    have HR := hid hR
    have HLEN := hid hlen
    clear hR hlen
    go_enter Try.func41, Try.ntmps41
    go_wp2_with fail
    go_loopw [17] (fun i wr => ∃ k : Nat, k ≤ L.length ∧ i = .int .i64 (k : Int) ∧ Below w.heap.size w wr ∧ Hid (ints (L.take k) = ints (M.take k))) (fun i _ => L.length - (intOf i).toNat)
    case atStart => exact ⟨0, by omega, rfl, Below.refl _ _, hid rfl⟩
    case round =>
      obtain ⟨k, hk, rfl, hbr, hE⟩ := hrel
      have hlr := hl.below hbr
      have hmr := hm.below hbr
      by_cases hlt : k < L.length
      · have dk : decide ((k : Int) < (L.length : Int)) = true := decide_eq_true (by omega)
        have hltm : k < M.length := by rw [← HLEN.out]; exact hlt
        have dkm : (k : Int) < (M.length : Int) := by omega
        obtain ⟨a, hAa, hx⟩ := hlr.at hlt
        obtain ⟨b, hBb, hy⟩ := hmr.at hltm
        have HS1 := hid (ints_succ L k hlt)
        have HS2 := hid (ints_succ M k hltm)
        have HNE := hid (fun h => ints_ne hlt hltm h)
        obtain ⟨hx1, hx2⟩ := hlr.2 L[k] (List.getElem_mem hlt)
        obtain ⟨hy1, hy2⟩ := hmr.2 M[k] (List.getElem_mem hltm)
        generalize L[k] = x at *
        generalize M[k] = y at *
        have hx' : wr.cell? (a.add k) = some (.slice x.A x.l.length x.c) := hx
        have hy' : wr.cell? (b.add k) = some (.slice y.A y.l.length y.c) := hy
        have hcall := hid (same1_any x y)
        subst hAa hBb
        clear hx hy hlr hmr
        go_wp2_with fail
        refine (hcall.out _ hx1 hy1 hx2 hy2).mono ?_
        rintro e w3 ⟨rfl, hb3⟩
        have hbw3 := hbr.trans (hb3.mono hbr.size)
        clear hb3 hx' hy' hx1 hy1 hcall
        by_cases hxy : x.l = y.l
        · have dxy : decide (x.l = y.l) = true := decide_eq_true hxy
          rw [dxy]
          rw [hxy] at HS1
          clear hxy dxy
          go_wp2_with fail
          exact ⟨⟨k + 1, by omega, by go_num, hbw3, hid (by rw [HS1.out, HS2.out, hE.out])⟩, by simp [intOf]; omega⟩
        · have dxy : decide (x.l = y.l) = false := decide_eq_false hxy
          rw [dxy]
          obtain rfl : R = false := by rw [HR.out]; exact HNE.out hxy
          clear HR HNE
          go_wp2_with fail
          go_ret
          exact ⟨rfl, hbw3⟩
      · obtain rfl : k = L.length := by omega
        have dk : decide ((L.length : Int) < (L.length : Int)) = false := decide_eq_false (by omega)
        obtain rfl : R = true := by
          rw [HR.out]
          have := hE.out
          rw [List.take_length, HLEN.out, List.take_length] at this
          exact decide_eq_true this
        clear HR
        go_wp2_with fail
        go_ret
        exact ⟨rfl, hbr⟩
  · have dn : ((L.length : Int) != (M.length : Int)) = true := by simp; omega
    obtain rfl : R = false := by rw [hR, ints_len hlen]
    clear hR
    go_enter Try.func41, Try.ntmps41
    go_wp2_with fail
    go_ret
    exact ⟨rfl, Below.refl _ _⟩
set_option maxRecDepth 20000 in
set_option maxHeartbeats 4000000 in
theorem psame_any (ch bi ra : Int) (A : Option Addr) (c : Nat) (L : List Chan) (ch' bi' ra' : Int) (B : Option Addr) (d : Nat) (M : List Chan) (w : World) (hl : SeesL w A L) (hm : SeesL w B M) (h1 : L.length ≤ maxLen) (h2 : M.length ≤ maxLen) :
    Calls Try.prog 24 #[.agg #[.int .i64 ch, .int .i64 bi, .int .i64 ra, .slice A L.length c], .agg #[.int .i64 ch', .int .i64 bi', .int .i64 ra', .slice B M.length d]] w fun e w' => e = .returned (.bool (sameS ch bi ra L ch' bi' ra' M)) ∧ Below w.heap.size w w' := by
  have hq := eq_format ch bi ra ch' bi' ra'
  have hb := below_box2 w (.cells #[.int .i64 ch, .int .i64 bi, .int .i64 ra, .slice A L.length c] 26) (.cells #[.int .i64 ch', .int .i64 bi', .int .i64 ra', .slice B M.length d] 26)
  have hcall := equalL_any A B c d L M _ (hl.below hb) (hm.below hb) h1 h2
  unfold sameS
  generalize decide (ints L = ints M) = q at *
  clear hl hm h1 h2
  cases hF : sameF ch bi ra ch' bi' ra' with
  | false =>
    rw [hF] at hq
    go_enter Try.func24, Try.ntmps24
    go_wp2_with fail
    go_ret
    exact ⟨rfl, hb⟩
  | true =>
    rw [hF] at hq
    go_enter Try.func24, Try.ntmps24
    go_wp2_with fail
    refine hcall.mono ?_
    rintro e w1 ⟨rfl, hb1⟩
    go_wp2_with fail
    go_ret
    exact ⟨rfl, hb.trans (hb1.mono hb.size)⟩
end Go.Proofs.Ytfinefhebffpcaa
