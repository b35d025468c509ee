/- Sound that is not heard: the program's. -/
import Derived.Test.YtfinefhebffpcaaPcmCat
import Derived.Test.YtfinefhebffpcaaPcmPart
import Derived.Test.YtfinefhebffpcaaPcmRSil
namespace Go.Proofs.Ytfinefhebffpcaa
set_option linter.unusedVariables false
open Go.RowKit
theorem enterS (args : Array Value) (W : World) : (callFunc 46 args).run Try.prog W = .ok (.enter 46 args) W := by go_simp
set_option maxHeartbeats 1000000 in
theorem sil1_any (g N k : Nat) (w : World) (h : w.cell? ⟨g, 0, none⟩ = some (.int .i64 (N : Int))) (hN : N ≤ 1048576) :
    Calls Try.prog 46 (#[.int .i64 (k : Int)] ++ #[.pointer (some ⟨g, 0, none⟩)]) w fun e w' => ∃ x : Chan, e = .returned x.v ∧ x.l = List.replicate N 0 ∧ w'.ownsRow w.heap.size 3 1 x.v x.l.length (x.l.map intV) ∧ Below w.heap.size w w' := by
  change Calls Try.prog 46 #[.int .i64 (k : Int), .pointer (some ⟨g, 0, none⟩)] w _
  have hmk := fun W => mkI_n N (by omega) W
  have hf : ∃ x : Chan, (Ending.returned (.slice (some ⟨w.heap.size, 0, none⟩) N N)) = .returned x.v ∧ x.l = List.replicate N 0 ∧ (w.alloc (.cells (madeCells #[.int .i64 0] N) 3)).ownsRow w.heap.size 3 1 x.v x.l.length (x.l.map intV) ∧ Below w.heap.size w (w.alloc (.cells (madeCells #[.int .i64 0] N) 3)) := by
    refine ⟨⟨some ⟨w.heap.size, 0, none⟩, N, List.replicate N 0⟩, by simp [Chan.v], rfl, ?_, (Below.refl _ _).alloc (Nat.le_refl _) _⟩
    have hlen : (madeCells #[Value.int .i64 0] N).size = N := by
      have := congrArg List.length (toList_madeCells_one (.int .i64 0) N)
      simpa using this
    refine ⟨by simp, .inr ⟨w.heap.size, N, _, by simp [Chan.v], Nat.le_refl _, heap_alloc_new w _, by simp, by unfold maxLen; omega, by rw [hlen]; simp, ?_⟩⟩
    rw [toList_madeCells_one]
    simp [intV]
  go_enter Try.func46, Try.ntmps46
  go_wp2_with fail
  go_ret
  exact hf
/-- whether sound of so many samples may be asked for -/
def silV (ch bi ra n : Int) : Int := if rightF ch bi ra = false then 20 else if 0 ≤ n ∧ n ≤ 1048576 then 0 else 1
theorem fmt_int (w : World) (ch bi ra n : Int) : ∃ w2, w2 = ((w.alloc (.cells #[.int .i64 ch, .int .i64 bi, .int .i64 ra] 23)).alloc (.cells #[.int .i64 n] 3)).alloc (.cells #[.int .i64 0, .int .i64 0, .int .i64 0, .slice none 0 0] 26) ∧ w2.heap[w.heap.size]? = some (.cells #[.int .i64 ch, .int .i64 bi, .int .i64 ra] 23 (0, 0)) ∧ w2.heap[w.heap.size + 1]? = some (.cells #[.int .i64 n] 3 (0, 0)) ∧
    w2.heap[w.heap.size + 1 + 1]? = some (.cells #[.int .i64 0, .int .i64 0, .int .i64 0, .slice none 0 0] 26 (0, 0)) ∧ Below w.heap.size w w2 ∧ w.heap.size + 3 ≤ w2.heap.size := by
  have s1 : (w.alloc (.cells #[.int .i64 ch, .int .i64 bi, .int .i64 ra] 23)).heap.size = w.heap.size + 1 := by simp
  have s2 : ((w.alloc (.cells #[.int .i64 ch, .int .i64 bi, .int .i64 ra] 23)).alloc (.cells #[.int .i64 n] 3)).heap.size = w.heap.size + 1 + 1 := by simp
  have n1 := heap_alloc_new (w.alloc (.cells #[.int .i64 ch, .int .i64 bi, .int .i64 ra] 23)) (.cells #[.int .i64 n] 3)
  have n2 := heap_alloc_new ((w.alloc (.cells #[.int .i64 ch, .int .i64 bi, .int .i64 ra] 23)).alloc (.cells #[.int .i64 n] 3)) (.cells #[.int .i64 0, .int .i64 0, .int .i64 0, .slice none 0 0] 26)
  rw [s1] at n1
  rw [s2] at n2
  exact ⟨_, rfl, (Below.heap_alloc _ _ _ (by omega)).trans ((Below.heap_alloc _ _ _ (by omega)).trans (heap_alloc_new w _)), (Below.heap_alloc _ _ _ (by omega)).trans n1, n2, (((Below.refl _ w).alloc (Nat.le_refl _) _).alloc (by simp) _).alloc (by simp; omega) _, by simp⟩
set_option maxRecDepth 20000 in
set_option maxHeartbeats 4000000 in
theorem sil_any (ch bi ra n : Int) (w : World) :
    Calls Try.prog 27 #[.agg #[.int .i64 ch, .int .i64 bi, .int .i64 ra], .int .i64 n] w (SndPost w (silV ch bi ra n) ch bi ra ((List.range ch.toNat).map fun _ => List.replicate n.toNat 0)) := by
  obtain ⟨R, hR⟩ : ∃ R, R = silV ch bi ra n := ⟨_, rfl⟩
  rw [← hR]
  unfold silV at hR
  have hp := hid (fun W => pright_any ch bi ra W)
  obtain ⟨w2, hw2, r0, r1, r2, hb, hs⟩ := fmt_int w ch bi ra n
  have f0 : w2.cell? ⟨w.heap.size, 0, none⟩ = some (.int .i64 ch) := by rw [cell_of_row _ _ _ _ _ _ r0]; rfl
  have f1 : w2.cell? ⟨w.heap.size, 1, none⟩ = some (.int .i64 bi) := by rw [cell_of_row _ _ _ _ _ _ r0]; rfl
  have f2 : w2.cell? ⟨w.heap.size, 2, none⟩ = some (.int .i64 ra) := by rw [cell_of_row _ _ _ _ _ _ r0]; rfl
  have g0 : w2.cell? ⟨w.heap.size + 1, 0, none⟩ = some (.int .i64 n) := by rw [cell_of_row _ _ _ _ _ _ r1]; rfl
  clear r0 r1
  cases hr : rightF ch bi ra with
  | false =>
    rw [hr] at hp hR
    obtain rfl : R = 20 := by rw [hR]; simp
    clear hR
    go_enter Try.func27, Try.ntmps27
    go_wp2_with fail
    rw [← hw2]
    clear hw2
    refine (hp.out _).mono ?_
    rintro e w3 ⟨rfl, hb3⟩
    replace r2 := (hb3.block _ (by omega)).trans r2
    replace hb := hb.trans (hb3.mono hb.size)
    replace hs := Nat.le_trans hs hb3.size
    clear hb3 f0 f1 f2 g0
    go_wp2_with first | (refine wpList_store_row rfl 26 (.tmp 4) (.tmp 10) rfl rfl (w.heap.size + 1 + 1) rfl #[.int .i64 0, .int .i64 0, .int .i64 0, .slice none 0 0] rfl 26 #[.int .i64 0, .int .i64 0, .int .i64 0, .slice none 0 0] r2 (by kernel_rfl) rfl (by simp [Value.oneCell']) ?_)
    exact bodyPost_ret (v := .tuple #[.agg #[.int .i64 0, .int .i64 0, .int .i64 0, .slice none 0 0], .int .i64 20]) (results_row_tmp (fn := Try.f27) (p := 4) (u := 5) (ty := 26) rfl _ _ (w.heap.size + 1 + 1) _ _ _ _ rfl (setRow_heap _ _ _ _ _ _ r2) Try.underlying26 rfl (by kernel_rfl)) rfl (by
      unfold SndPost
      rw [if_neg (by omega)]
      exact ⟨rfl, below_setRow hb (by omega) _⟩)
  | true =>
    have hrr := hr
    unfold rightF at hrr
    have hrr := of_decide_eq_true hrr
    rw [hr] at hp hR
    rw [if_neg (by simp)] at hR
    obtain ⟨CH, rfl⟩ : ∃ n : Nat, ch = (n : Int) := ⟨ch.toNat, by omega⟩
    have h8 : CH ≤ 8 := by omega
    simp only [Int.toNat_natCast] at hR ⊢
    clear hr hrr
    by_cases hn : 0 ≤ n ∧ n ≤ 1048576
    case neg =>
      obtain rfl : R = 1 := by rw [hR, if_neg hn]
      have hW := hid (fun W => pwithin_any n 0 1048576 false W (decide_eq_false hn))
      clear hR hn
      go_enter Try.func27, Try.ntmps27
      go_wp2_with fail
      rw [← hw2]
      clear hw2
      refine (hp.out _).mono ?_
      rintro e w3 ⟨rfl, hb3⟩
      replace r2 := (hb3.block _ (by omega)).trans r2
      replace hb := hb.trans (hb3.mono hb.size)
      replace hs := Nat.le_trans hs hb3.size
      replace g0 := keep1 hb3 g0
      clear hb3 f0 f1 f2
      go_wp2_with fail
      refine (hW.out _).mono ?_
      rintro e w4 ⟨rfl, rfl⟩
      go_wp2_with first | (refine wpList_store_row rfl 26 (.tmp 4) (.tmp 15) rfl rfl (w.heap.size + 1 + 1) rfl #[.int .i64 0, .int .i64 0, .int .i64 0, .slice none 0 0] rfl 26 #[.int .i64 0, .int .i64 0, .int .i64 0, .slice none 0 0] r2 (by kernel_rfl) rfl (by simp [Value.oneCell']) ?_)
      exact bodyPost_ret (v := .tuple #[.agg #[.int .i64 0, .int .i64 0, .int .i64 0, .slice none 0 0], .int .i64 1]) (results_row_tmp (fn := Try.f27) (p := 4) (u := 5) (ty := 26) rfl _ _ (w.heap.size + 1 + 1) _ _ _ _ rfl (setRow_heap _ _ _ _ _ _ r2) Try.underlying26 rfl (by kernel_rfl)) rfl (by
        unfold SndPost
        rw [if_neg (by omega)]
        exact ⟨rfl, below_setRow hb (by omega) _⟩)
    obtain rfl : R = 0 := by rw [hR, if_pos hn]
    have hW := hid (fun W => pwithin_any n 0 1048576 true W (decide_eq_true hn))
    obtain ⟨N, rfl⟩ : ∃ N : Nat, n = (N : Int) := ⟨n.toNat, by omega⟩
    have hN : N ≤ 1048576 := by omega
    simp only [Int.toNat_natCast]
    clear hR hn
    go_enter Try.func27, Try.ntmps27
    go_wp2_with fail
    rw [← hw2]
    clear hw2
    refine (hp.out _).mono ?_
    rintro e w3 ⟨rfl, hb3⟩
    replace r2 := (hb3.block _ (by omega)).trans r2
    replace hb := hb.trans (hb3.mono hb.size)
    replace hs := Nat.le_trans hs hb3.size
    replace f0 := keep1 hb3 f0
    replace f1 := keep1 hb3 f1
    replace f2 := keep1 hb3 f2
    replace g0 := keep1 hb3 g0
    clear hb3
    go_wp2_with fail
    refine (hW.out _).mono ?_
    rintro e w4 ⟨rfl, rfl⟩
    have HMD := hid (made_any 46 #[.pointer (some ⟨w.heap.size + 1, 0, none⟩)] (fun _ => List.replicate N 0) CH bi ra w3 h8 enterS (fun W k hk hW => sil1_any (w.heap.size + 1) N k W (keep1 hW g0) hN))
    go_wp2_with fail
    refine HMD.out.mono ?_
    rintro e w5 ⟨A5, c5, L5, rfl, hL5, hI5, hA5, hX5, hb5⟩
    replace r2 := (hb5.block _ (by omega)).trans r2
    replace hb := hb.trans (hb5.mono hb.size)
    have hfin := SeesL.rowFar hL5 (w.heap.size + 1 + 1) #[.int .i64 (CH : Int), .int .i64 bi, .int .i64 ra, .slice A5 L5.length c5] (fun a ha => by have := hA5 a ha; omega) (fun x hx a ha => by have := hX5 x hx a ha; omega)
    have HI5 := hid hI5
    clear hb5 f0 f1 f2 g0 HMD hL5 hI5
    go_wp2_with first | (refine wpList_store_row rfl 26 (.tmp 4) (.tmp 18) rfl rfl (w.heap.size + 1 + 1) rfl #[.int .i64 (CH : Int), .int .i64 bi, .int .i64 ra, .slice A5 L5.length c5] rfl 26 #[.int .i64 0, .int .i64 0, .int .i64 0, .slice none 0 0] r2 (by kernel_rfl) rfl (by simp [Value.oneCell']) ?_)
    exact bodyPost_ret (v := .tuple #[.agg #[.int .i64 (CH : Int), .int .i64 bi, .int .i64 ra, .slice A5 L5.length c5], .int .i64 0]) (results_row_tmp (fn := Try.f27) (p := 4) (u := 5) (ty := 26) rfl _ _ (w.heap.size + 1 + 1) _ _ _ _ rfl (setRow_heap _ _ _ _ _ _ r2) Try.underlying26 rfl (by kernel_rfl)) rfl (by
      unfold SndPost
      rw [if_pos rfl]
      exact ⟨A5, c5, L5, rfl, hfin, HI5.out, below_setRow hb (by omega) _⟩)
end Go.Proofs.Ytfinefhebffpcaa
