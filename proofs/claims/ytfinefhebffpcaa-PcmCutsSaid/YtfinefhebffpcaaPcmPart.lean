/- Samples parted: the program's. -/
import Derived.Test.YtfinefhebffpcaaPcmMade
namespace Go.Proofs.Ytfinefhebffpcaa
set_option linter.unusedVariables false
open Go.RowKit
theorem enter4 (args : Array Value) (W : World) : (callFunc 38 args).run Try.prog W = .ok (.enter 38 args) W := by go_simp
/-- every so many a sample of one channel -/
def colL (l : List Int) (ch n k : Nat) : List Int := (List.range n).map fun j => l.getD (j * ch + k) 0
theorem colL_succ (l : List Int) (ch n k : Nat) : colL l ch (n + 1) k = colL l ch n k ++ [l.getD (n * ch + k) 0] := by
  unfold colL
  rw [List.range_succ, List.map_append]
  rfl
theorem colL_len (l : List Int) (ch n k : Nat) : (colL l ch n k).length = n := by simp [colL]
set_option maxRecDepth 20000 in
set_option maxHeartbeats 4000000 in
theorem part1_any (g3 g2 : Nat) (A : Option Addr) (c : Nat) (l : List Int) (ch n k : Nat) (w : World) (h3 : w.cell? ⟨g3, 0, none⟩ = some (.slice A l.length c)) (h2 : w.cell? ⟨g2, 0, none⟩ = some (.int .i64 (ch : Int))) (hl : SeesI w A l) (hlen : l.length ≤ 4294967296) (hn : l.length = n * ch) (hk : k < ch) (hch : ch ≤ 8) :
    Calls Try.prog 38 (#[.int .i64 (k : Int)] ++ #[.pointer (some ⟨g3, 0, none⟩), .pointer (some ⟨g2, 0, none⟩)]) w fun e w' => ∃ x : Chan, e = .returned x.v ∧ x.l = colL l ch n k ∧ w'.ownsRow w.heap.size 3 1 x.v x.l.length (x.l.map intV) ∧ Below w.heap.size w w' := by
  change Calls Try.prog 38 #[.int .i64 (k : Int), .pointer (some ⟨g3, 0, none⟩), .pointer (some ⟨g2, 0, none⟩)] w _
  have HN := hid hn
  have hnl : n ≤ 4294967296 := by
    have : n * 1 ≤ n * ch := Nat.mul_le_mul_left _ (by omega)
    omega
  clear hn
  go_enter Try.func38, Try.ntmps38
  go_wp2_with fail
  go_loopw [5, 6] (fun v i wr => ∃ j I : Nat, j ≤ n ∧ i = .int .i64 (I : Int) ∧ Hid (I = j * ch + k) ∧ I ≤ 8589934592 ∧ ∃ (A' : Option Addr) (c' : Nat), v = .slice A' j c' ∧ wr.ownsRow w.heap.size 3 1 (.slice A' j c') j ((colL l ch j k).map intV) ∧ Below w.heap.size w wr) (fun _ i _ => (l.length + 8) - (intOf i).toNat)
  case atStart => exact ⟨0, k, by omega, rfl, hid (by simp), by omega, none, 0, rfl, own_nil _ _ _ _, Below.refl _ _⟩
  case round =>
    obtain ⟨j, I, hj, rfl, hI, hIb, A', c', rfl, ho, hb⟩ := hrel
    have q3 := keep1 hb h3
    have q2 := keep1 hb h2
    by_cases hlt : j < n
    · have hIl : I < l.length := by
        have : (j + 1) * ch ≤ n * ch := Nat.mul_le_mul_right _ hlt
        rw [Nat.add_mul] at this
        rw [hI.out, HN.out]; omega
      have dI : decide ((I : Int) < (l.length : Int)) = true := decide_eq_true (by omega)
      obtain ⟨a, hAa, hc⟩ := (hl.below hb).at hIl
      have hcs := colL_succ l ch j k
      rw [← hI.out, show l.getD I 0 = l[I] by simp [List.getD, hIl]] at hcs
      generalize l[I] = y at *
      have hys : (colL l ch j k).map intV ++ [intV y] = (colL l ch (j + 1) k).map intV := by rw [hcs]; simp
      have HYS := hid hys
      rw [hAa] at q3
      have hba : Below w.heap.size w (wr.alloc (.cells #[.int .i64 y] 3)) := hb.alloc hb.size _
      have HNX := hid (show I + ch = (j + 1) * ch + k by rw [hI.out, Nat.add_mul]; omega)
      have q2a : (wr.alloc (.cells #[.int .i64 y] 3)).cell? ⟨g2, 0, none⟩ = some (.int .i64 (ch : Int)) := keep1 ((Below.refl _ wr).alloc (Nat.le_refl _) _) q2
      have hlt2 : g2 < w.heap.size := block_lt_of_cell h2
      clear hcs hys
      go_wp2_with (at_builtin; refine wpList_app rfl (.tmp 16) (.tmp 21) _ rfl elI rfl (ho.alloc _) (some ⟨wr.heap.size, 0, none⟩) 1 1 rfl [intV y] (Sees.of_alloc _ _ _ rfl) (by simp) (by simp [intV, Value.oneCell']) (j + 1) rfl _ HYS.out (by unfold maxLen; omega) (by omega) hba.size ?_; intro A3 c3 w5 hown hgr hat hbel; have q2b := (hbel.cell (p := ⟨g2, 0, none⟩) hlt2).trans q2a)
      go_roundw
      case rel => exact ⟨j + 1, I + ch, by omega, by go_num, HNX, by omega, A3, c3, rfl, hown, hba.trans hbel⟩
      case measure => simp [intOf]; omega
    · obtain rfl : j = n := by omega
      have hIl : l.length ≤ I := by rw [hI.out, HN.out]; omega
      have dI : decide ((I : Int) < (l.length : Int)) = false := decide_eq_false (by omega)
      have hcl := colL_len l ch j k
      have hf : ∃ x : Chan, (Ending.returned (.slice A' j c')) = .returned x.v ∧ x.l = colL l ch j k ∧ wr.ownsRow w.heap.size 3 1 x.v x.l.length (x.l.map intV) ∧ Below w.heap.size w wr :=
        ⟨⟨A', c', colL l ch j k⟩, by simp [Chan.v, hcl], rfl, by simp only [Chan.v]; rw [hcl]; exact ho, hb⟩
      clear hcl
      go_wp2_with fail
      go_ret
      exact hf
/-- what a call leaves that answers sound and an error -/
def SndPost (w : World) (r : Int) (ch bi ra : Int) (ll : List (List Int)) (e : Ending) (w' : World) : Prop :=
  if r = 0 then ∃ (A : Option Addr) (c : Nat) (L : List Chan), e = .returned (.tuple #[.agg #[.int .i64 ch, .int .i64 bi, .int .i64 ra, .slice A L.length c], .int .i64 0]) ∧ SeesL w' A L ∧ ints L = ll ∧ Below w.heap.size w w'
  else e = .returned (.tuple #[.agg #[.int .i64 0, .int .i64 0, .int .i64 0, .slice none 0 0], .int .i64 r]) ∧ Below w.heap.size w w'
/-- whether samples can be parted -/
def partV (ch bi ra : Int) (l : List Int) : Int := if rightF ch bi ra = false then 20 else if l.length % ch.toNat ≠ 0 then 22 else if loudI bi.toNat l = true then 21 else 0
theorem fmt_two (w : World) (ch bi ra : Int) (v : Value) : ∃ w2, w2 = ((w.alloc (.cells #[.int .i64 ch, .int .i64 bi, .int .i64 ra] 23)).alloc (.cells #[v] 34)).alloc (.cells #[.int .i64 0, .int .i64 0, .int .i64 0, .slice none 0 0] 26) ∧ w2.heap[w.heap.size]? = some (.cells #[.int .i64 ch, .int .i64 bi, .int .i64 ra] 23 (0, 0)) ∧ w2.heap[w.heap.size + 1]? = some (.cells #[v] 34 (0, 0)) ∧
    w2.heap[w.heap.size + 1 + 1]? = some (.cells #[.int .i64 0, .int .i64 0, .int .i64 0, .slice none 0 0] 26 (0, 0)) ∧ Below w.heap.size w w2 ∧ w.heap.size + 3 ≤ w2.heap.size := by
  have s1 : (w.alloc (.cells #[.int .i64 ch, .int .i64 bi, .int .i64 ra] 23)).heap.size = w.heap.size + 1 := by simp
  have s2 : ((w.alloc (.cells #[.int .i64 ch, .int .i64 bi, .int .i64 ra] 23)).alloc (.cells #[v] 34)).heap.size = w.heap.size + 1 + 1 := by simp
  have n1 := heap_alloc_new (w.alloc (.cells #[.int .i64 ch, .int .i64 bi, .int .i64 ra] 23)) (.cells #[v] 34)
  have n2 := heap_alloc_new ((w.alloc (.cells #[.int .i64 ch, .int .i64 bi, .int .i64 ra] 23)).alloc (.cells #[v] 34)) (.cells #[.int .i64 0, .int .i64 0, .int .i64 0, .slice none 0 0] 26)
  rw [s1] at n1
  rw [s2] at n2
  exact ⟨_, rfl, (Below.heap_alloc _ _ _ (by omega)).trans ((Below.heap_alloc _ _ _ (by omega)).trans (heap_alloc_new w _)), (Below.heap_alloc _ _ _ (by omega)).trans n1, n2, (((Below.refl _ w).alloc (Nat.le_refl _) _).alloc (by simp) _).alloc (by simp; omega) _, by simp⟩
theorem Sees.rowFar {w : World} {A : Option Addr} {xs : List Value} (h : Sees w A xs) (q : Nat) (new : Array Value) (hne : ∀ a, A = some a → a.block ≠ q) : Sees (w.setRow q new) A xs := by
  intro i v hv
  obtain ⟨a, ha, hc⟩ := h i v hv
  refine ⟨a, ha, (World.cell?_of_block (w := w) ?_).trans hc⟩
  exact setRow_other w q _ new (by rw [addr_block]; exact hne a ha)
theorem SeesL.rowFar {w : World} {A : Option Addr} {L : List Chan} (h : SeesL w A L) (q : Nat) (new : Array Value) (hA : ∀ a, A = some a → a.block ≠ q) (hX : ∀ x ∈ L, ∀ a, x.A = some a → a.block ≠ q) : SeesL (w.setRow q new) A L :=
  ⟨Sees.rowFar h.1 q new hA, fun x hx => ⟨Sees.rowFar (h.2 x hx).1 q new (hX x hx), (h.2 x hx).2⟩⟩
set_option maxRecDepth 20000 in
set_option maxHeartbeats 4000000 in
theorem part_any (ch bi ra : Int) (A : Option Addr) (c : Nat) (l : List Int) (w : World) (hl : SeesI w A l) (hlen : l.length ≤ 4294967296) :
    Calls Try.prog 18 #[.agg #[.int .i64 ch, .int .i64 bi, .int .i64 ra], .slice A l.length c] w (SndPost w (partV ch bi ra l) ch bi ra ((List.range ch.toNat).map (colL l ch.toNat (l.length / ch.toNat)))) := by
  obtain ⟨R, hR⟩ : ∃ R, R = partV ch bi ra l := ⟨_, rfl⟩
  rw [← hR]
  unfold partV at hR
  have hp := hid (fun W => pright_any ch bi ra W)
  obtain ⟨w2, hw2, r0, r1, r2, hb, hs⟩ := fmt_two w ch bi ra (.slice A l.length c)
  have hl0 := hl.below hb
  have f0 : w2.cell? ⟨w.heap.size, 0, none⟩ = some (.int .i64 ch) := by rw [cell_of_row _ _ _ _ _ _ r0]; rfl
  have f1 : w2.cell? ⟨w.heap.size, 1, none⟩ = some (.int .i64 bi) := by rw [cell_of_row _ _ _ _ _ _ r0]; rfl
  have f2 : w2.cell? ⟨w.heap.size, 2, none⟩ = some (.int .i64 ra) := by rw [cell_of_row _ _ _ _ _ _ r0]; rfl
  have g0 : w2.cell? ⟨w.heap.size + 1, 0, none⟩ = some (.slice A l.length c) := by rw [cell_of_row _ _ _ _ _ _ r1]; rfl
  clear r0 r1 hl
  cases hr : rightF ch bi ra with
  | false =>
    rw [hr] at hp hR
    obtain rfl : R = 20 := by rw [hR]; simp
    clear hR
    go_enter Try.func18, Try.ntmps18
    go_wp2_with fail
    rw [← hw2]
    clear hw2
    refine (hp.out _).mono ?_
    rintro e w3 ⟨rfl, hb3⟩
    replace r2 := (hb3.block _ (by omega)).trans r2
    replace hb := hb.trans (hb3.mono hb.size)
    clear hb3 f0 f1 f2 g0
    go_wp2_with first | (refine wpList_store_row rfl 26 (.tmp 4) (.tmp 10) rfl rfl (w.heap.size + 1 + 1) rfl #[.int .i64 0, .int .i64 0, .int .i64 0, .slice none 0 0] rfl 26 #[.int .i64 0, .int .i64 0, .int .i64 0, .slice none 0 0] r2 (by kernel_rfl) rfl (by simp [Value.oneCell']) ?_)
    exact bodyPost_ret (v := .tuple #[.agg #[.int .i64 0, .int .i64 0, .int .i64 0, .slice none 0 0], .int .i64 20]) (results_row_tmp (fn := Try.f18) (p := 4) (u := 5) (ty := 26) rfl _ _ (w.heap.size + 1 + 1) _ _ _ _ rfl (setRow_heap _ _ _ _ _ _ r2) Try.underlying26 rfl (by kernel_rfl)) rfl (by
      unfold SndPost
      rw [if_neg (by omega)]
      exact ⟨rfl, below_setRow hb (by omega) _⟩)
  | true =>
    have hrr := hr
    unfold rightF at hrr
    have hrr := of_decide_eq_true hrr
    rw [hr] at hp hR
    rw [if_neg (by simp)] at hR
    obtain ⟨CH, rfl⟩ : ∃ n : Nat, ch = (n : Int) := ⟨ch.toNat, by omega⟩
    obtain ⟨N, rfl⟩ : ∃ n : Nat, bi = (n : Int) := ⟨bi.toNat, by omega⟩
    have h1 : 1 ≤ CH := by omega
    have h8 : CH ≤ 8 := by omega
    have hN1 : 8 ≤ N := by omega
    have hN2 : N ≤ 24 := by omega
    simp only [Int.toNat_natCast] at hR ⊢
    have HR := hid hR
    clear hr hrr hR
    have ht : ((l.length : Int)).tmod (CH : Int) = ((l.length % CH : Nat) : Int) := by rw [Int.tmod_eq_emod_of_nonneg (by omega)]; simp
    obtain ⟨M, hM⟩ : ∃ M, M = l.length % CH := ⟨_, rfl⟩
    rw [← hM] at ht HR
    have HM := hid hM
    clear hM
    by_cases hm : M = 0
    case neg =>
      obtain rfl : R = 22 := by rw [HR.out, if_pos hm]
      have dm : ((M : Int) != 0) = true := by simp [hm]
      clear HR hm HM
      go_enter Try.func18, Try.ntmps18
      go_wp2_with fail
      rw [← hw2]
      clear hw2
      refine (hp.out _).mono ?_
      rintro e w3 ⟨rfl, hb3⟩
      replace r2 := (hb3.block _ (by omega)).trans r2
      replace hb := hb.trans (hb3.mono hb.size)
      replace hs := Nat.le_trans hs hb3.size
      replace f0 := keep1 hb3 f0
      replace f1 := keep1 hb3 f1
      replace f2 := keep1 hb3 f2
      replace g0 := keep1 hb3 g0
      replace hl0 := hl0.below hb3
      clear hb3
      go_wp2_with first | (refine wpList_store_row rfl 26 (.tmp 4) (.tmp 18) rfl rfl (w.heap.size + 1 + 1) rfl #[.int .i64 0, .int .i64 0, .int .i64 0, .slice none 0 0] rfl 26 #[.int .i64 0, .int .i64 0, .int .i64 0, .slice none 0 0] r2 (by kernel_rfl) rfl (by simp [Value.oneCell']) ?_)
      exact bodyPost_ret (v := .tuple #[.agg #[.int .i64 0, .int .i64 0, .int .i64 0, .slice none 0 0], .int .i64 22]) (results_row_tmp (fn := Try.f18) (p := 4) (u := 5) (ty := 26) rfl _ _ (w.heap.size + 1 + 1) _ _ _ _ rfl (setRow_heap _ _ _ _ _ _ r2) Try.underlying26 rfl (by kernel_rfl)) rfl (by
        unfold SndPost
        rw [if_neg (by omega)]
        exact ⟨rfl, below_setRow hb (by omega) _⟩)
    have dm : ((M : Int) != 0) = false := by simp [hm]
    have HZ := hid hm
    clear hm
    go_enter Try.func18, Try.ntmps18
    go_wp2_with fail
    rw [← hw2]
    clear hw2
    refine (hp.out _).mono ?_
    rintro e w3 ⟨rfl, hb3⟩
    replace r2 := (hb3.block _ (by omega)).trans r2
    replace hb := hb.trans (hb3.mono hb.size)
    replace hs := Nat.le_trans hs hb3.size
    replace f0 := keep1 hb3 f0
    replace f1 := keep1 hb3 f1
    replace f2 := keep1 hb3 f2
    replace g0 := keep1 hb3 g0
    replace hl0 := hl0.below hb3
    clear hb3
    go_wp2_with fail
    have hPF := pfits_any A c l N w3 hN1 hN2 hl0 (by unfold maxLen; omega)
    cases hlo : loudI N l with
    | true =>
      rw [hlo] at hPF
      obtain rfl : R = 21 := by rw [HR.out, if_neg (by rw [HZ.out]; simp), if_pos hlo]
      clear HR
      refine hPF.mono ?_
      rintro e w4 ⟨rfl, hb4⟩
      replace r2 := (hb4.block _ (by omega)).trans r2
      replace hb := hb.trans (hb4.mono hb.size)
      clear hb4 f0 f1 f2 g0 hl0 hPF
      go_wp2_with first | (refine wpList_store_row rfl 26 (.tmp 4) (.tmp 25) rfl rfl (w.heap.size + 1 + 1) rfl #[.int .i64 0, .int .i64 0, .int .i64 0, .slice none 0 0] rfl 26 #[.int .i64 0, .int .i64 0, .int .i64 0, .slice none 0 0] r2 (by kernel_rfl) rfl (by simp [Value.oneCell']) ?_)
      exact bodyPost_ret (v := .tuple #[.agg #[.int .i64 0, .int .i64 0, .int .i64 0, .slice none 0 0], .int .i64 21]) (results_row_tmp (fn := Try.f18) (p := 4) (u := 5) (ty := 26) rfl _ _ (w.heap.size + 1 + 1) _ _ _ _ rfl (setRow_heap _ _ _ _ _ _ r2) Try.underlying26 rfl (by kernel_rfl)) rfl (by
        unfold SndPost
        rw [if_neg (by omega)]
        exact ⟨rfl, below_setRow hb (by omega) _⟩)
    | false =>
      rw [hlo] at hPF
      obtain rfl : R = 0 := by rw [HR.out, if_neg (by rw [HZ.out]; simp)]; exact if_neg (by rw [hlo]; simp)
      clear HR
      have hn : l.length = l.length / CH * CH := by
        have h0 : l.length % CH = 0 := by rw [← HM.out, HZ.out]
        have := Nat.div_add_mod l.length CH
        rw [h0, Nat.add_zero, Nat.mul_comm] at this
        exact this.symm
      obtain ⟨n, hnn⟩ : ∃ n, n = l.length / CH := ⟨_, rfl⟩
      rw [← hnn] at hn
      have HN := hid hn
      have HNN := hid hnn
      clear hn hnn
      refine hPF.mono ?_
      rintro e w4 ⟨rfl, hb4⟩
      replace r2 := (hb4.block _ (by omega)).trans r2
      replace hb := hb.trans (hb4.mono hb.size)
      replace hs := Nat.le_trans hs hb4.size
      replace f0 := keep1 hb4 f0
      replace f1 := keep1 hb4 f1
      replace f2 := keep1 hb4 f2
      replace g0 := keep1 hb4 g0
      replace hl0 := hl0.below hb4
      clear hb4 hPF
      have HMD := hid (made_any 38 #[.pointer (some ⟨w.heap.size + 1, 0, none⟩), .pointer (some ⟨w.heap.size, 0, none⟩)] (colL l CH n) CH N ra w4 h8 enter4 (fun W k hk hW => part1_any (w.heap.size + 1) w.heap.size A c l CH n k W (keep1 hW g0) (keep1 hW f0) (hl0.below hW) hlen HN.out hk h8))
      go_wp2_with fail
      refine HMD.out.mono ?_
      rintro e w5 ⟨A5, c5, L5, rfl, hL5, hI5, hA5, hX5, hb5⟩
      replace r2 := (hb5.block _ (by omega)).trans r2
      replace hb := hb.trans (hb5.mono hb.size)
      have hfin := SeesL.rowFar hL5 (w.heap.size + 1 + 1) #[.int .i64 (CH : Int), .int .i64 (N : Int), .int .i64 ra, .slice A5 L5.length c5] (fun a ha => by have := hA5 a ha; omega) (fun x hx a ha => by have := hX5 x hx a ha; omega)
      have HI5 := hid hI5
      clear hb5 f0 f1 f2 g0 hl0 HMD hL5 hI5
      go_wp2_with first | (refine wpList_store_row rfl 26 (.tmp 4) (.tmp 28) rfl rfl (w.heap.size + 1 + 1) rfl #[.int .i64 (CH : Int), .int .i64 (N : Int), .int .i64 ra, .slice A5 L5.length c5] rfl 26 #[.int .i64 0, .int .i64 0, .int .i64 0, .slice none 0 0] r2 (by kernel_rfl) rfl (by simp [Value.oneCell']) ?_)
      exact bodyPost_ret (v := .tuple #[.agg #[.int .i64 (CH : Int), .int .i64 (N : Int), .int .i64 ra, .slice A5 L5.length c5], .int .i64 0]) (results_row_tmp (fn := Try.f18) (p := 4) (u := 5) (ty := 26) rfl _ _ (w.heap.size + 1 + 1) _ _ _ _ rfl (setRow_heap _ _ _ _ _ _ r2) Try.underlying26 rfl (by kernel_rfl)) rfl (by
        unfold SndPost
        rw [if_pos rfl]
        exact ⟨A5, c5, L5, rfl, hfin, HI5.out.trans (by rw [HNN.out]), below_setRow hb (by omega) _⟩)
end Go.Proofs.Ytfinefhebffpcaa
