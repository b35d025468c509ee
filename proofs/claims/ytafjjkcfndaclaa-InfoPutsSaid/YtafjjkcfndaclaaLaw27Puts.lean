/- The walk of InfoPuts. -/
import Derived.Test.YtafjjkcfndaclaaLaw27Known
import Derived.Deep.RegionWith
namespace Go.Proofs.Ytafjjkcfndaclaa.infoPuts
set_option linter.unusedVariables false
open Go.RowKit
theorem keep1 {w w' : World} {a : Addr} {v : Value} (hb : Below w.heap.size w w') (h : w.cell? a = some v) : w'.cell? a = some v := (hb.cell (block_lt_of_cell h)).trans h
theorem undrew {w w' : World} (h : Below w.drew.heap.size w.drew w') : Below w.heap.size w w' := ⟨h.os, h.tape, h.output, h.size, h.block⟩
set_option maxHeartbeats 4000000 in
theorem walk (k ch bi ra bl sh : Int) (w : World) :
    Calls Try.prog 3 #[.agg #[.int .i64 k, .int .i64 ch, .int .i64 bi, .int .i64 ra, .int .i64 bl, .int .i64 sh]] w fun e w' => e = .returned (.bool true) ∧ Below w.heap.size w w' := by
  have hb : Below w.heap.size w (w.alloc (.cells #[.int .i64 k, .int .i64 ch, .int .i64 bi, .int .i64 ra, .int .i64 bl, .int .i64 sh] 25)) := (Below.refl _ w).alloc (Nat.le_refl _) _
  have hrow := heap_alloc_new w (.cells #[.int .i64 k, .int .i64 ch, .int .i64 bi, .int .i64 ra, .int .i64 bl, .int .i64 sh] 25)
  go_enter Try.func3, Try.ntmps3
  go_wp2_with fail
  generalize w.alloc (.cells #[.int .i64 k, .int .i64 ch, .int .i64 bi, .int .i64 ra, .int .i64 bl, .int .i64 sh] 25) = w0 at *
  have hlt0 : w.heap.size < w0.heap.size := (Array.getElem?_eq_some_iff.1 hrow).1
  have c0 : w0.cell? ⟨w.heap.size, 0, none⟩ = some (.int .i64 k) := by rw [cell_of_row _ _ _ _ _ _ hrow]; rfl
  have c1 : w0.cell? ⟨w.heap.size, 1, none⟩ = some (.int .i64 ch) := by rw [cell_of_row _ _ _ _ _ _ hrow]; rfl
  have c2 : w0.cell? ⟨w.heap.size, 2, none⟩ = some (.int .i64 bi) := by rw [cell_of_row _ _ _ _ _ _ hrow]; rfl
  have c3 : w0.cell? ⟨w.heap.size, 3, none⟩ = some (.int .i64 ra) := by rw [cell_of_row _ _ _ _ _ _ hrow]; rfl
  have c4 : w0.cell? ⟨w.heap.size, 4, none⟩ = some (.int .i64 bl) := by rw [cell_of_row _ _ _ _ _ _ hrow]; rfl
  have c5 : w0.cell? ⟨w.heap.size, 5, none⟩ = some (.int .i64 sh) := by rw [cell_of_row _ _ _ _ _ _ hrow]; rfl
  cases hr : rightI k ch bi ra bl sh with
  | false =>
    go_region_held3 (fun w' => w'.cell? ⟨w.heap.size, 0, none⟩ = some (.int .i64 k) ∧ w'.cell? ⟨w.heap.size, 1, none⟩ = some (.int .i64 ch) ∧ w'.cell? ⟨w.heap.size, 2, none⟩ = some (.int .i64 bi) ∧ w'.cell? ⟨w.heap.size, 3, none⟩ = some (.int .i64 ra) ∧ w'.cell? ⟨w.heap.size, 4, none⟩ = some (.int .i64 bl) ∧ w'.cell? ⟨w.heap.size, 5, none⟩ = some (.int .i64 sh)) (first | exact ⟨e0, e1, e2, e3, e4, e5⟩ | exact ⟨d0, d1, d2, d3, d4, d5⟩ | go_keep)
      (first | (go_at_call 10; refine (make_any _).mono ?_; rintro e w1 ⟨rfl, hb1, ht1⟩; have d0 := keep1 hb1 c0; have d1 := keep1 hb1 c1; have d2 := keep1 hb1 c2; have d3 := keep1 hb1 c3; have d4 := keep1 hb1 c4; have d5 := keep1 hb1 c5) | (go_at_call 9; refine (iput_bad _ k ch bi ra bl sh _ hr).mono ?_; rintro e w2 ⟨rfl, hb2⟩; have e0 := keep1 hb2 d0; have e1 := keep1 hb2 d1; have e2 := keep1 hb2 d2; have e3 := keep1 hb2 d3; have e4 := keep1 hb2 d4; have e5 := keep1 hb2 d5))
    have hbw2 : Below w.heap.size w w2 := (hb.trans (Below.mono (undrew hb1) hb.size)).trans (hb2.mono (Nat.le_trans hb.size hb1.size))
    clear hb hb1 hb2 ht1 hrow hlt0 c0 c1 c2 c3 c4 c5 d0 d1 d2 d3 d4 d5
    go_wp2_with fail
    go_region_held3 (fun w' => w'.cell? ⟨w.heap.size, 0, none⟩ = some (.int .i64 k) ∧ w'.cell? ⟨w.heap.size, 1, none⟩ = some (.int .i64 ch) ∧ w'.cell? ⟨w.heap.size, 2, none⟩ = some (.int .i64 bi) ∧ w'.cell? ⟨w.heap.size, 3, none⟩ = some (.int .i64 ra) ∧ w'.cell? ⟨w.heap.size, 4, none⟩ = some (.int .i64 bl) ∧ w'.cell? ⟨w.heap.size, 5, none⟩ = some (.int .i64 sh)) (first | exact ⟨g0, g1, g2, g3, g4, g5⟩ | exact ⟨f0, f1, f2, f3, f4, f5⟩ | go_keep)
      (first | (go_at_call 11; refine (iright_any k ch bi ra bl sh _).mono ?_; rintro e w3 ⟨rfl, hb3⟩; have f0 := keep1 hb3 e0; have f1 := keep1 hb3 e1; have f2 := keep1 hb3 e2; have f3 := keep1 hb3 e3; have f4 := keep1 hb3 e4; have f5 := keep1 hb3 e5) | (go_at_call 12; refine (riright_any k ch bi ra bl sh _).mono ?_; rintro e w4 ⟨rfl, hb4⟩; have g0 := keep1 hb4 f0; have g1 := keep1 hb4 f1; have g2 := keep1 hb4 f2; have g3 := keep1 hb4 f3; have g4 := keep1 hb4 f4; have g5 := keep1 hb4 f5))
    have hbw4 : Below w.heap.size w w4 := (hbw2.trans (Below.mono (undrew hb3) hbw2.size)).trans (hb4.mono (Nat.le_trans hbw2.size hb3.size))
    clear hbw2 hb3 hb4 e0 e1 e2 e3 e4 e5 f0 f1 f2 f3 f4 f5
    go_wp2_with fail
    refine (riright_any k ch bi ra bl sh _).mono ?_
    rintro e w5 ⟨rfl, hb5⟩
    rw [hr]
    go_wp2_with fail
    refine (known_any _).mono ?_
    rintro e w6 ⟨rfl, hb6⟩
    go_wp2_with fail
    have hbw6 := (hbw4.trans (hb5.mono hbw4.size)).trans (hb6.mono (Nat.le_trans hbw4.size hb5.size))
    go_ret
    exact ⟨rfl, hbw6⟩
  | true =>
    have hr2 := of_decide_eq_true hr
    have hr3 := of_decide_eq_true hr2.2.1
    obtain ⟨hk1, _, hk3, hk4, _⟩ := hr2
    obtain ⟨K, rfl⟩ := Int.eq_ofNat_of_zero_le (show 0 ≤ k by omega)
    obtain ⟨CH, rfl⟩ := Int.eq_ofNat_of_zero_le (show 0 ≤ ch by omega)
    obtain ⟨BI, rfl⟩ := Int.eq_ofNat_of_zero_le (show 0 ≤ bi by omega)
    obtain ⟨RA, rfl⟩ := Int.eq_ofNat_of_zero_le (show 0 ≤ ra by omega)
    obtain ⟨BL, rfl⟩ := Int.eq_ofNat_of_zero_le (show 0 ≤ bl by omega)
    obtain ⟨SH, rfl⟩ := Int.eq_ofNat_of_zero_le (show 0 ≤ sh by omega)
    have hkk : K < 256 ∧ CH < 256 ∧ BI < 256 ∧ SH < 256 ∧ RA < 16777216 ∧ BL < 4294967296 := by omega
    have HK := hid hkk
    clear hkk hk1 hk3 hk4 hr3
    obtain ⟨L, hL⟩ : ∃ L, L = sealed (infoHead K CH BI SH RA BL) := ⟨_, rfl⟩
    have hP1 := fun g W h => iput_ok g K CH BI RA BL SH W h hr HK.out
    have hP2 := fun W => riput_any K CH BI RA BL SH W HK.out
    rw [← hL] at hP1 hP2
    have HP1 := hid hP1
    have HP2 := hid hP2
    clear hP1 hP2 hL
    go_region_held3 (fun w' => w'.cell? ⟨w.heap.size, 0, none⟩ = some (.int .i64 K) ∧ w'.cell? ⟨w.heap.size, 1, none⟩ = some (.int .i64 CH) ∧ w'.cell? ⟨w.heap.size, 2, none⟩ = some (.int .i64 BI) ∧ w'.cell? ⟨w.heap.size, 3, none⟩ = some (.int .i64 RA) ∧ w'.cell? ⟨w.heap.size, 4, none⟩ = some (.int .i64 BL) ∧ w'.cell? ⟨w.heap.size, 5, none⟩ = some (.int .i64 SH)) (first | exact ⟨e0, e1, e2, e3, e4, e5⟩ | exact ⟨d0, d1, d2, d3, d4, d5⟩ | go_keep)
      (first | (go_at_call 10; refine (make_any _).mono ?_; rintro e w1 ⟨rfl, hb1, ht1⟩; have d0 := keep1 hb1 c0; have d1 := keep1 hb1 c1; have d2 := keep1 hb1 c2; have d3 := keep1 hb1 c3; have d4 := keep1 hb1 c4; have d5 := keep1 hb1 c5) | (go_at_call 9; refine (HP1.out _ _ ht1).mono ?_; rintro e w2 ⟨v, rfl, hv⟩; obtain ⟨A, c, rfl, hs, hA, ho, hb2⟩ := hv.parts; have e0 := keep1 hb2 d0; have e1 := keep1 hb2 d1; have e2 := keep1 hb2 d2; have e3 := keep1 hb2 d3; have e4 := keep1 hb2 d4; have e5 := keep1 hb2 d5))
    have hbw2 : Below w.heap.size w w2 := (hb.trans (Below.mono (undrew hb1) hb.size)).trans (hb2.mono (Nat.le_trans hb.size hb1.size))
    clear hb hb1 hb2 ht1 hrow hlt0 c0 c1 c2 c3 c4 c5 d0 d1 d2 d3 d4 d5 hv ho hA HP1
    go_wp2_with fail
    go_region_held3 (fun w' => w'.cell? ⟨w.heap.size, 0, none⟩ = some (.int .i64 K) ∧ w'.cell? ⟨w.heap.size, 1, none⟩ = some (.int .i64 CH) ∧ w'.cell? ⟨w.heap.size, 2, none⟩ = some (.int .i64 BI) ∧ w'.cell? ⟨w.heap.size, 3, none⟩ = some (.int .i64 RA) ∧ w'.cell? ⟨w.heap.size, 4, none⟩ = some (.int .i64 BL) ∧ w'.cell? ⟨w.heap.size, 5, none⟩ = some (.int .i64 SH)) (first | exact ⟨g0, g1, g2, g3, g4, g5⟩ | exact ⟨f0, f1, f2, f3, f4, f5⟩ | go_keep)
      (first | (go_at_call 11; refine (iright_any K CH BI RA BL SH _).mono ?_; rintro e w3 ⟨rfl, hb3⟩; have f0 := keep1 hb3 e0; have f1 := keep1 hb3 e1; have f2 := keep1 hb3 e2; have f3 := keep1 hb3 e3; have f4 := keep1 hb3 e4; have f5 := keep1 hb3 e5) | (go_at_call 12; refine (riright_any K CH BI RA BL SH _).mono ?_; rintro e w4 ⟨rfl, hb4⟩; have g0 := keep1 hb4 f0; have g1 := keep1 hb4 f1; have g2 := keep1 hb4 f2; have g3 := keep1 hb4 f3; have g4 := keep1 hb4 f4; have g5 := keep1 hb4 f5))
    have hbw4 : Below w.heap.size w w4 := (hbw2.trans (Below.mono (undrew hb3) hbw2.size)).trans (hb4.mono (Nat.le_trans hbw2.size hb3.size))
    have hs4 := (hs.below (undrew hb3)).below hb4
    clear hbw2 hb3 hb4 e0 e1 e2 e3 e4 e5 f0 f1 f2 f3 f4 f5 hs
    go_wp2_with fail
    refine (riright_any K CH BI RA BL SH _).mono ?_
    rintro e w5 ⟨rfl, hb5⟩
    rw [hr]
    have hs5 := hs4.below hb5
    have hbw5 := hbw4.trans (hb5.mono hbw4.size)
    have h0 := keep1 hb5 g0
    have h1 := keep1 hb5 g1
    have h2 := keep1 hb5 g2
    have h3 := keep1 hb5 g3
    have h4 := keep1 hb5 g4
    have h5 := keep1 hb5 g5
    clear hs4 hb5 hbw4 g0 g1 g2 g3 g4 g5
    have hcv : ∀ W, SeesB W A L → (convert 26 9 (.slice A L.length c)).run Try.prog W = .ok (.string ⟨L.toArray⟩) W := fun W h => conv_bs A c L W h
    have hs5d : SeesB w5.drew A L := hs5
    go_wp2_with fail
    go_region_with (first | (go_at_call 14; refine (HP2.out _).mono ?_; rintro e w6 ⟨v, rfl, hv⟩; obtain ⟨A6, c6, rfl, hs6, hA6, ho6, hb6⟩ := hv.parts; have l0 := keep1 hb6 h0; have l1 := keep1 hb6 h1; have l2 := keep1 hb6 h2; have l3 := keep1 hb6 h3; have l4 := keep1 hb6 h4; have l5 := keep1 hb6 h5; have hx6 := hs5.below (undrew hb6); have hcv6 : ∀ W, SeesB W A6 L → (convert 26 9 (.slice A6 L.length c6)).run Try.prog W = .ok (.string ⟨L.toArray⟩) W := fun W h => conv_bs A6 c6 L W h) | (go_at_call 13; refine (known_any _).mono ?_; rintro e w7 ⟨rfl, hb7⟩; have m0 := keep1 hb7 l0; have m1 := keep1 hb7 l1; have m2 := keep1 hb7 l2; have m3 := keep1 hb7 l3; have m4 := keep1 hb7 l4; have m5 := keep1 hb7 l5; have hx7 := hx6.below hb7; have hy7 := hs6.below hb7))
    all_goals
      have hbw7 : Below w.heap.size w w7 := (hbw5.trans (Below.mono (undrew hb6) hbw5.size)).trans (hb7.mono (Nat.le_trans hbw5.size hb6.size))
      clear hbw5 hb6 hb7 hx6 hx7 hs6 hv hA6 ho6 hcv hcv6 hs5 hs5d
      go_wp2_with fail
      go_ret
      exact ⟨rfl, hbw7⟩
end Go.Proofs.Ytafjjkcfndaclaa.infoPuts
