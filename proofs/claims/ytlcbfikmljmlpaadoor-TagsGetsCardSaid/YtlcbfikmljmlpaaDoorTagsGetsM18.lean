/- Tags read: the reference's Get. -/
import Derived.Test.YtlcbfikmljmlpaaDoorTagsGetsM16
import Derived.Test.YtlcbfikmljmlpaaDoorTagsGetsM17
namespace Go.Proofs.YtlcbfikmljmlpaaDoor
set_option linter.unusedVariables false
open Go.RowKit
/-- the reference takes all, also behind an error -/
def loopR (b : List UInt8) : Nat → Int × Nat → List TagV → (Int × Nat) × List TagV
  | 0, s, acc => (s, acc)
  | n + 1, s, acc => loopR b n (stepG b s).1 (acc ++ [(stepG b s).2])
theorem textR_err (s : Int × Nat) (b : List UInt8) (n : Int) (h : s.1 ≠ 0) : textR s b n = (s, []) := by unfold textR; rw [if_pos h]
theorem stepG_err (b : List UInt8) (s : Int × Nat) (h : s.1 ≠ 0) : (stepG b s).1 = s := by
  unfold stepG
  rw [textR_err s b 1 h]
  simp only
  rw [textR_err s b 2 h]
theorem loopR_err (b : List UInt8) : ∀ (n : Nat) (s : Int × Nat) (acc : List TagV), s.1 ≠ 0 → (loopR b n s acc).1 = s
  | 0, s, acc, h => rfl
  | n + 1, s, acc, h => by
    rw [loopR, stepG_err b s h]
    exact loopR_err b n s _ h
theorem finG_err (b : List UInt8) (r : (Int × Nat) × List TagV) (h : r.1.1 ≠ 0) : finG b r = (r.1.1, 0, []) := by
  obtain ⟨⟨e, p⟩, L⟩ := r
  unfold finG
  simp only at h ⊢
  rw [gU_err e p 4 b h]
  unfold endG
  rw [if_pos h]
theorem fin_same (b : List UInt8) : ∀ (n : Nat) (s : Int × Nat) (acc : List TagV), s.1 = 0 → finG b (loopR b n s acc) = finG b (loopG b n s acc)
  | 0, s, acc, h => rfl
  | n + 1, s, acc, h => by
    rw [loopR, loopG]
    by_cases he : (stepG b s).1.1 ≠ 0
    · rw [if_pos he, finG_err b _ (by rw [loopR_err b n _ _ he]; exact he), finG_err b _ he, loopR_err b n _ _ he]
    · rw [if_neg he]
      exact fin_same b n _ _ (by simpa using he)
def rGet (l : List UInt8) : Int × Nat × List TagV := if startsG l = false then (31, 0, []) else if l.length < 3 then (10, 0, []) else finG l (loopR l (countG l) (0, 3) [])
theorem rGet_is (l : List UInt8) : rGet l = getG l := by
  unfold rGet getG
  rw [fin_same l _ (0, 3) [] rfl]
set_option maxRecDepth 20000 in
set_option maxHeartbeats 2000000 in
theorem rtagget_kind (A : Option Addr) (c : Nat) (l : List UInt8) (w : World) (hl : SeesB w A l) (hlen : l.length ≤ 140737488355328) (hst : startsG l = false) :
    Calls Tryd.prog 27 #[.slice A l.length c] w (GetGPost w (31, 0, [])) := by
  match l, hl, hst, hlen with
  | [], hl, hst, _ => simp [startsG] at hst
  | [x], hl, hst, _ =>
    obtain ⟨a, rfl, ca⟩ := hl.at (show 0 < ([x] : List UInt8).length by simp)
    have ca0 : w.cell? a = some (.int .u8 (x.toNat : Int)) := ca
    have d : ((x.toNat : Int) != 84) = true := by
      have h1 : ((x.toNat : Int) == 84) = (x == 84) := byte_is x 84 (by omega)
      have h2 : (x == 84) = false := by simpa [startsG] using hst
      rw [bne, h1, h2]; rfl
    clear hst
    go_enter Tryd.func27, Tryd.ntmps27
    go_wp2_with fail
    refine bodyPost_ret (results_tmp3 rfl _ _ _) rfl ?_
    exact get_bad 31 (Below.refl _ _)
  | x :: y :: t, hl, hst, hlen =>
    obtain ⟨a, rfl, ca⟩ := hl.at (show 0 < (x :: y :: t).length by simp)
    have ca0 : w.cell? a = some (.int .u8 (x.toNat : Int)) := ca
    have ca1 : w.cell? { block := a.block, off := a.off + 1 } = some (.int .u8 (y.toNat : Int)) := by
      obtain ⟨b, hb, cb⟩ := hl.at (show 1 < (x :: y :: t).length by simp)
      injection hb with hb
      subst hb
      exact cb
    have hq : (((x.toNat : Int) == 84) && ((y.toNat : Int) == 71)) = false := by rw [show ((x.toNat : Int) == 84) = (x == 84) from byte_is x 84 (by omega), show ((y.toNat : Int) == 71) = (y == 71) from byte_is y 71 (by omega)]; simpa [startsG] using hst
    obtain ⟨m, hm⟩ : ∃ m, m = (x :: y :: t).length := ⟨_, rfl⟩
    have hm2 : 2 ≤ m := by rw [hm]; simp
    rw [← hm]
    clear hm hst
    have d1 : decide (0 < (m : Int)) = true := decide_eq_true (by omega)
    have d2 : decide (1 < (m : Int)) = true := decide_eq_true (by omega)
    have b0 : (0 : Int) < m := by omega
    have b1 : (1 : Int) < m := by omega
    cases hd : ((x.toNat : Int) == 84) with
    | false =>
      have e : ((x.toNat : Int) != 84) = true := by rw [bne, hd]; rfl
      clear hq hd
      go_enter Tryd.func27, Tryd.ntmps27
      go_wp2_with fail
      refine bodyPost_ret (results_tmp3 rfl _ _ _) rfl ?_
      exact get_bad 31 (Below.refl _ _)
    | true =>
      have e : ((x.toNat : Int) != 84) = false := by rw [bne, hd]; rfl
      rw [hd, Bool.true_and] at hq
      have e1 : ((y.toNat : Int) != 71) = true := by rw [bne, hq]; rfl
      clear hq hd
      go_enter Tryd.func27, Tryd.ntmps27
      go_wp2_with fail
      refine bodyPost_ret (results_tmp3 rfl _ _ _) rfl ?_
      exact get_bad 31 (Below.refl _ _)
set_option maxRecDepth 20000 in
set_option maxHeartbeats 2000000 in
theorem rtagget_few (A : Option Addr) (c : Nat) (l : List UInt8) (w : World) (hl : SeesB w A l) (hst : startsG l = true) (h3 : l.length < 3) :
    Calls Tryd.prog 27 #[.slice A l.length c] w (GetGPost w (10, 0, [])) := by
  match l, hl, hst, h3 with
  | [], hl, hst, _ =>
    go_enter Tryd.func27, Tryd.ntmps27
    go_wp2_with fail
    refine bodyPost_ret (results_tmp3 rfl _ _ _) rfl ?_
    exact get_bad 10 (Below.refl _ _)
  | [x], hl, hst, _ =>
    obtain ⟨a, rfl, ca⟩ := hl.at (show 0 < ([x] : List UInt8).length by simp)
    have ca0 : w.cell? a = some (.int .u8 (x.toNat : Int)) := ca
    have d : ((x.toNat : Int) != 84) = false := by
      have h1 : ((x.toNat : Int) == 84) = (x == 84) := byte_is x 84 (by omega)
      have h2 : (x == 84) = true := by simpa [startsG] using hst
      rw [bne, h1, h2]; rfl
    clear hst
    go_enter Tryd.func27, Tryd.ntmps27
    go_wp2_with fail
    refine bodyPost_ret (results_tmp3 rfl _ _ _) rfl ?_
    exact get_bad 10 (Below.refl _ _)
  | [x, y], hl, hst, _ =>
    obtain ⟨a, rfl, ca⟩ := hl.at (show 0 < [x, y].length by simp)
    have ca0 : w.cell? a = some (.int .u8 (x.toNat : Int)) := ca
    have ca1 : w.cell? { block := a.block, off := a.off + 1 } = some (.int .u8 (y.toNat : Int)) := by
      obtain ⟨b, hb, cb⟩ := hl.at (show 1 < [x, y].length by simp)
      injection hb with hb
      subst hb
      exact cb
    have hq : (((x.toNat : Int) == 84) && ((y.toNat : Int) == 71)) = true := by rw [show ((x.toNat : Int) == 84) = (x == 84) from byte_is x 84 (by omega), show ((y.toNat : Int) == 71) = (y == 71) from byte_is y 71 (by omega)]; simpa [startsG] using hst
    rw [Bool.and_eq_true] at hq
    have e : ((x.toNat : Int) != 84) = false := by rw [bne, hq.1]; rfl
    have e1 : ((y.toNat : Int) != 71) = false := by rw [bne, hq.2]; rfl
    clear hst hq
    go_enter Tryd.func27, Tryd.ntmps27
    go_wp2_with fail
    refine bodyPost_ret (results_tmp3 rfl _ _ _) rfl ?_
    exact get_bad 10 (Below.refl _ _)
  | x :: y :: z :: t, _, _, h3 => exact absurd h3 (by simp)
set_option maxRecDepth 20000 in
set_option maxHeartbeats 4000000 in
theorem rtagget_long (A : Option Addr) (c : Nat) (l : List UInt8) (w : World) (hl : SeesB w A l) (hc : l.length ≤ c) (hcm : c ≤ maxLen) (hst : startsG l = true) (hlen : l.length ≤ 140737488355328) (h3 : 3 ≤ l.length) :
    Calls Tryd.prog 27 #[.slice A l.length c] w (GetGPost w (rGet l)) := by
  obtain ⟨a, rfl, ca⟩ := hl.at (show 0 < l.length by omega)
  obtain ⟨x, hx⟩ : ∃ x, x = l[0] := ⟨_, rfl⟩
  obtain ⟨y, hy⟩ : ∃ y, y = l[1] := ⟨_, rfl⟩
  have ca0 : w.cell? a = some (.int .u8 (x.toNat : Int)) := by rw [hx]; exact ca
  have ca1 : w.cell? { block := a.block, off := a.off + 1 } = some (.int .u8 (y.toNat : Int)) := by
    obtain ⟨b, hb, cb⟩ := hl.at (show 1 < l.length by omega)
    injection hb with hb
    subst hb
    rw [hy]
    exact cb
  have hab : a.block < w.heap.size := by
    have := block_lt_of_cell ca0
    exact this
  have hq : (((x.toNat : Int) == 84) && ((y.toNat : Int) == 71)) = true := by
    rw [show ((x.toNat : Int) == 84) = (x == 84) from byte_is x 84 (by omega), show ((y.toNat : Int) == 71) = (y == 71) from byte_is y 71 (by omega)]
    unfold startsG at hst
    rw [List.getElem?_eq_getElem (show 0 < l.length by omega), List.getElem?_eq_getElem (show 1 < l.length by omega)] at hst
    rw [hx, hy]
    exact hst
  rw [Bool.and_eq_true] at hq
  have e : ((x.toNat : Int) != 84) = false := by rw [bne, hq.1]; rfl
  have e1 : ((y.toNat : Int) != 71) = false := by rw [bne, hq.2]; rfl
  have d1 : decide (0 < (l.length : Int)) = true := decide_eq_true (by omega)
  have d2 : decide (1 < (l.length : Int)) = true := decide_eq_true (by omega)
  have d3 : decide ((l.length : Int) < 3) = false := decide_eq_false (by omega)
  have b0 : (0 : Int) < l.length := by omega
  have b1 : (1 : Int) < l.length := by omega
  have b2 : (2 : Int) < l.length := by omega
  obtain ⟨N, hN⟩ : ∃ N, N = countG l := ⟨_, rfl⟩
  have hNl : N < 256 := by
    rw [hN]
    have h1 := valLE_lt ((l.drop 2).take 1)
    have h2 : ((l.drop 2).take 1).length = 1 := by simp; omega
    rw [h2] at h1
    exact h1
  have hcN : ∀ W, Below w.heap.size w W → W.cell? { block := a.block, off := a.off + 2 } = some (.int .u8 (N : Int)) := by
    intro W hW
    obtain ⟨b, hb, cb⟩ := (hl.below hW).at (show 2 < l.length by omega)
    injection hb with hb
    subst hb
    have h2 : (l[2]).toNat = N := by
      rw [hN]
      unfold countG
      rw [List.drop_eq_getElem_cons (show 2 < l.length by omega), List.take_succ_cons, List.take_zero]
      show (l[2]).toNat = (l[2]).toNat + 256 * 0
      omega
    rw [← h2]
    exact cb
  obtain ⟨R, hR⟩ : ∃ R, R = loopR l N (0, 3) [] := ⟨_, rfl⟩
  have HG := hid (show rGet l = finG l R by unfold rGet; rw [if_neg (by rw [hst]; simp), if_neg (by omega), hR, hN])
  have HRL := hid hR.symm
  have HCN := hid hcN
  clear hR hN hcN hx hy hq hst ca
  have hb1 : Below w.heap.size w (w.alloc (.cells #[.slice (some a) l.length c, .int .i64 3, .int .i64 0] 87)) := (Below.refl _ w).alloc (Nat.le_refl _) _
  have hrow := heap_alloc_new w (.cells #[.slice (some a) l.length c, .int .i64 3, .int .i64 0] 87)
  have hT : RkB (w.alloc (.cells #[.slice (some a) l.length c, .int .i64 3, .int .i64 0] 87)) w.heap.size 0 3 l (w.heap.size + 1) := ⟨some a, c, hrow, hl.below hb1, hc, hcm, h3, fun b hb => by injection hb with hb; subst hb; omega⟩
  have hBw : w.heap.size + 1 ≤ (w.alloc (.cells #[.slice (some a) l.length c, .int .i64 3, .int .i64 0] 87)).heap.size := (Array.getElem?_eq_some_iff.1 hrow).1
  clear hrow
  go_enter Tryd.func27, Tryd.ntmps27
  go_wp2_with fail
  generalize w.alloc (.cells #[.slice (some a) l.length c, .int .i64 3, .int .i64 0] 87) = w1 at *
  obtain ⟨g, hg⟩ : ∃ g, g = w.heap.size := ⟨_, rfl⟩
  obtain ⟨B, hB⟩ : ∃ B, B = w.heap.size + 1 := ⟨_, rfl⟩
  have hwg : w.heap.size ≤ g := by omega
  have hgB : g < B := by omega
  have hwB : w.heap.size ≤ B := by omega
  rw [← hB, ← hg] at hT
  rw [← hB] at hBw
  rw [← hg]
  clear hg hB ca0 ca1
  go_loopw [6, 7, 8, 9] (fun x i k v wr => ∃ (n : Nat) (s : Int × Nat) (L : List TagV) (A' : Option Addr) (c' : Nat), n ≤ N ∧ i = .int .i64 n ∧ x = .slice A' L.length c' ∧ NewT B wr L A' c' ∧ RkB wr g s.1 s.2 l B ∧ Below w.heap.size w wr ∧ B ≤ wr.heap.size ∧ L.length ≤ n ∧ Brief L ∧ Hid (loopR l (N - n) s L = R)) (fun _ i _ _ _ => N - (intOf i).toNat)
  case atStart => exact ⟨0, (0, 3), [], none, 0, by omega, rfl, rfl, own_nil _ _ _ _, hT, hb1, hBw, by simp, fun x hx => by simp at hx, HRL⟩
  case round =>
    clear hT hb1 hBw HRL
    obtain ⟨n, s, L, A', c', hn, rfl, rfl, hown, hT, hbw, hBw, hLn, hLb, hE⟩ := hrel
    have cN := HCN.out wr hbw
    by_cases hlt : n < N
    · have hd : decide ((n : Int) < (N : Int)) = true := decide_eq_true (by omega)
      obtain ⟨m, hm⟩ : ∃ m, N - n = m + 1 := ⟨N - n - 1, by omega⟩
      have hE2 := hE.out
      rw [hm, loopR] at hE2
      unfold stepG at hE2
      obtain ⟨e0, p0⟩ := s
      simp only at hT
      have HX1 := rtktextB_any g e0 p0 1 l B wr hT hlen (by omega)
      obtain ⟨⟨⟨e1, p1⟩, x1⟩, hr1⟩ : ∃ r, textR (e0, p0) l 1 = r := ⟨_, rfl⟩
      rw [hr1] at HX1 hE2
      simp only at hE2
      obtain ⟨⟨⟨e2, p2⟩, x2⟩, hr2⟩ : ∃ r, textR (e1, p1) l 2 = r := ⟨_, rfl⟩
      rw [hr2] at hE2
      simp only at hE2
      have HX2 := hid (fun W (h : RkB W g e1 p1 l B) => by
        have h1 := rtktextB_any g e1 p1 2 l B W h hlen (by omega)
        rw [hr2] at h1
        exact h1)
      have HX1' := hid HX1
      have hx1l : x1.length ≤ l.length := by have := textR_len (e0, p0) l 1; rw [hr1] at this; exact this
      have hx2l : x2.length ≤ l.length := by have := textR_len (e1, p1) l 2; rw [hr2] at this; exact this
      have hLb2 := brief_snoc hLb (x := x1) (y := x2) (by omega) (by omega)
      have HM := hid (show N - (n + 1) = m by omega)
      have HE3 := hid (show loopR l (N - (n + 1)) (e2, p2) (L ++ [⟨⟨x1.toArray⟩, ⟨x2.toArray⟩⟩]) = R by rw [HM.out]; exact hE2)
      have HYS := hid (show flat L ++ flat [⟨⟨x1.toArray⟩, ⟨x2.toArray⟩⟩] = flat (L ++ [⟨⟨x1.toArray⟩, ⟨x2.toArray⟩⟩]) from (flat_app _ _).symm)
      obtain ⟨L2, hL2⟩ : ∃ L2 : List TagV, L2 = L ++ [⟨⟨x1.toArray⟩, ⟨x2.toArray⟩⟩] := ⟨_, rfl⟩
      have HLL := hid (show L.length + 1 = L2.length by rw [hL2, List.length_append]; rfl)
      rw [← hL2] at HE3 HYS hLb2
      clear hr1 hr2 hx1l hx2l HX1 hE2 hm hE HM hL2
      go_wp2_with fail
      refine HX1'.out.mono ?_
      rintro e w4 ⟨rfl, hT4, hB4⟩
      have hbw4 := But.below hbw hB4 (fun b h => by have h2 : b = g := h; omega) hbw.size
      have hown4 := own_far hown hB4 hgB
      have hBw4 := Nat.le_trans hBw hB4.size
      clear hT hB4 hbw hown hBw HX1' cN
      go_wp2_with fail
      refine (HX2.out w4 hT4).mono ?_
      rintro e w5 ⟨rfl, hT5, hB5⟩
      have hbw5 := But.below hbw4 hB5 (fun b h => by have h2 : b = g := h; omega) hbw4.size
      have hown5 := own_far hown4 hB5 hgB
      have hBw5 := Nat.le_trans hBw4 hB5.size
      clear hT4 hB5 hbw4 hown4 hBw4 HX2
      have hba := (Below.refl w5.heap.size w5).alloc (Nat.le_refl _) (.cells #[.string ⟨x1.toArray⟩, .string ⟨x2.toArray⟩] 30)
      have hown7 := NewT.below hown5 hba
      have hT7 := hT5.below hba
      have hbw7 := hbw5.trans (hba.mono hbw5.size)
      have hBw7 := Nat.le_trans hBw5 hba.size
      clear hT5 hown5 hbw5
      go_wp2_with (at_builtin; refine wpList_app rfl (.tmp 52) (.tmp 56) _ rfl elT rfl hown7 (some ⟨w5.heap.size, 0, none⟩) 1 1 rfl (flat [⟨⟨x1.toArray⟩, ⟨x2.toArray⟩⟩]) (Sees.of_alloc _ _ _ rfl) (by simp [flat]) (flat_one _) L2.length HLL.out _ HYS.out (by have := HLL.out; unfold maxLen; omega) (by have := HLL.out; omega) hBw7 ?_; intro A5 c5 w8 hown8 hgr hat hbel)
      have hT8 := hT7.far hgB hbel
      exact ⟨⟨n + 1, (e2, p2), L2, A5, c5, by omega, by go_num, rfl, hown8, hT8, hbw7.trans (hbel.mono hwB), Nat.le_trans hBw7 hbel.size, by have := HLL.out; omega, hLb2, HE3⟩, by simp [intOf]; omega⟩
    · obtain rfl : n = N := by omega
      have hd : decide ((n : Int) < (n : Int)) = false := decide_eq_false (by omega)
      have hRe := hE.out
      rw [Nat.sub_self, loopR] at hRe
      have hfin := HG.out
      rw [← hRe] at hfin
      unfold finG at hfin
      obtain ⟨e0, p0⟩ := s
      simp only at hT hfin
      have hU := rnextB_any g e0 p0 4 true l B wr hT hlen (by omega)
      rw [nextRB_true] at hU
      have h8 := takeU_len (e0, p0) l 4
      have hps : p0 ≤ l.length := by obtain ⟨_, _, _, _, _, _, h, _⟩ := hT; exact h
      obtain ⟨⟨⟨e1, p1⟩, x1⟩, hr1⟩ : ∃ r, takeU (e0, p0) l 4 = r := ⟨_, rfl⟩
      rw [hr1] at hU hfin h8
      simp only at hfin h8
      have HU := hid hU
      have HFN := hid hfin
      obtain ⟨A0, c0, k0, k1, k2, _, _, _, _, _⟩ := hT.cells
      have HV := hid (fun (A1 : Option Addr) (c1 : Nat) W (h : SeesB W A1 x1) => rvalue_any A1 c1 x1 W h h8)
      have hx8 : valLE x1 < 18446744073709551616 := by
        have := valLE_lt x1
        have := Nat.pow_le_pow_right (show 0 < 256 by omega) h8
        omega
      obtain ⟨X, hX⟩ : ∃ X, X = valLE x1 := ⟨_, rfl⟩
      rw [← hX] at HV hx8
      clear hU hfin hRe hr1 hE HG k0 k2
      go_wp2_with fail
      refine HU.out.mono ?_
      rintro e w4 ⟨A1, c1, rfl, hs1, hT4, hB4⟩
      have hbw4 := But.below hbw hB4 (fun b h => by have h2 : b = g := h; omega) hbw.size
      have hown4 := own_far hown hB4 hgB
      obtain ⟨A3, c3, m0, m1, m2, _, _, _, _, _⟩ := hT4.cells
      clear hown hB4 hbw hT k1 cN m0 HU
      go_wp2_with fail
      refine (HV.out A1 c1 w4 hs1).mono ?_
      rintro e wq ⟨rfl, rfl⟩
      clear HV hs1
      by_cases he : e1 = 0
      · subst he
        have HF := hid (show rGet l = if X ≠ (sumI (l.take p0)).toNat then (33, 0, []) else if (checkT L).2 ≠ 0 then ((checkT L).2, 0, []) else (0, p1, L) by rw [HFN.out, hX]; unfold endG; rw [if_neg (by simp)])
        have hsr := sumI_range (l.take p0)
        obtain ⟨S, hS⟩ := Int.eq_ofNat_of_zero_le hsr.1
        have hst2 : (l.take p0).length = p0 := by rw [List.length_take]; omega
        have hsum := fun W (hl : SeesB W (some a) (l.take p0)) => rsum_any (some a) c (l.take p0) W hl (by omega)
        rw [hst2, hS] at hsum
        rw [hS, Int.toNat_natCast] at HF
        rw [hS] at hsr
        have HSUM := hid hsum
        have hlq := hl.below hbw4
        have hsq : SeesB w4 (some a) (l.take p0) := by unfold SeesB; rw [List.map_take]; exact Sees.take hlq p0
        clear HFN hX hS hsum hst2
        go_wp2_with fail
        refine (HSUM.out w4 hsq).mono ?_
        rintro e wq ⟨rfl, rfl⟩
        clear hsq hlq HSUM
        by_cases hXS : X = S
        · have hC := rcheck_any A' c' L w4 (NewT.sees hown4) (NewT.cap hown4) (by unfold maxLen; omega) hLb
          obtain ⟨⟨ci, ce⟩, hck⟩ : ∃ r, checkT L = r := ⟨_, rfl⟩
          rw [hck] at hC HF
          rw [if_neg (by rw [hXS]; simp)] at HF
          simp only at hC HF
          have d : ((X : Int) != (S : Int)) = false := by simp; omega
          have HC := hid hC
          clear hck hC hXS
          go_wp2_with fail
          refine HC.out.mono ?_
          rintro e w8 ⟨rfl, hb8⟩
          have hbw8 := hbw4.trans (hb8.mono hbw4.size)
          have hown8 := NewT.below hown4 hb8
          replace m1 := keep1 hb8 m1
          clear hT4 hown4 hb8 hbw4 m2
          by_cases hce : ce = 0
          · subst hce
            have HF2 := hid (show rGet l = (0, p1, L) by rw [HF.out, if_neg (by simp)])
            clear HF
            go_wp2_with fail
            go_quiet (fail)
            go_wp2_with fail
            refine bodyPost_ret (results_tmp3 rfl _ _ _) rfl ?_
            rw [HF2.out]
            exact ⟨A', c', rfl, NewT.sees hown8, NewT.cap hown8, ⟨hbw8.os, hbw8.tape, hbw8.output, hbw8.size, hbw8.block⟩⟩
          · have de : (ce != 0) = true := by simpa using hce
            have de2 : decide (ce = 0) = false := decide_eq_false hce
            have HF2 := hid (show rGet l = (ce, 0, []) by rw [HF.out, if_pos hce])
            clear HF hce
            go_wp2_with fail
            refine bodyPost_ret (results_tmp3 rfl _ _ _) rfl ?_
            rw [HF2.out]
            exact get_bad ce hbw8
        · have d : ((X : Int) != (S : Int)) = true := by simp; omega
          have HF2 := hid (show rGet l = (33, 0, []) by rw [HF.out, if_pos hXS])
          clear HF hXS
          go_wp2_with fail
          refine bodyPost_ret (results_tmp3 rfl _ _ _) rfl ?_
          rw [HF2.out]
          exact get_bad 33 hbw4
      · have HF := hid (show rGet l = (e1, 0, []) by rw [HFN.out]; unfold endG; rw [if_pos he])
        have de : (e1 != 0) = true := by simpa using he
        have de2 : decide (e1 = 0) = false := decide_eq_false he
        clear HFN he hown4 hX
        go_wp2_with fail
        go_quiet (fail)
        go_wp2_with fail
        refine bodyPost_ret (results_tmp3 rfl _ _ _) rfl ?_
        rw [HF.out]
        exact get_bad e1 ⟨hbw4.os, hbw4.tape, hbw4.output, hbw4.size, hbw4.block⟩
theorem rtagget_any (A : Option Addr) (c : Nat) (l : List UInt8) (w : World) (hl : SeesB w A l) (hc : l.length ≤ c) (hcm : c ≤ maxLen) (hlen : l.length ≤ 140737488355328) :
    Calls Tryd.prog 27 #[.slice A l.length c] w (GetGPost w (getG l)) := by
  rw [← rGet_is]
  cases hst : startsG l with
  | false =>
    rw [show rGet l = (31, 0, []) by unfold rGet; rw [if_pos hst]]
    exact rtagget_kind A c l w hl hlen hst
  | true =>
    by_cases h3 : l.length < 3
    · rw [show rGet l = (10, 0, []) by unfold rGet; rw [if_neg (by rw [hst]; simp), if_pos h3]]
      exact rtagget_few A c l w hl hst h3
    · exact rtagget_long A c l w hl hc hcm hst hlen (by omega)
end Go.Proofs.YtlcbfikmljmlpaaDoor
/- What is read as tags is laid as it was, plainly. -/
namespace Go.Proofs.YtlcbfikmljmlpaaDoor
set_option linter.unusedVariables false
open Go.RowKit
theorem textR_ok {b t : List UInt8} {p p2 : Nat} {n : Nat} (hn : 1 ≤ n ∧ n ≤ 8) (h : textR (0, p) b (n : Int) = ((0, p2), t)) (hp : p ≤ b.length) : p2 = p + n + t.length ∧ p2 ≤ b.length ∧ b.take p2 = b.take p ++ (bytesLE t.length n ++ t) := by
  unfold textR at h
  rw [if_neg (by simp)] at h
  by_cases hu : (takeU (0, p) b (n : Int)).1.1 = 0
  · rw [if_neg (by rw [hu]; simp)] at h
    obtain ⟨_, _, _, hg, hle⟩ := takeU_good hu
    rw [hg] at h
    simp only [Int.toNat_natCast] at h hle
    by_cases hl : b.length - (p + n) < valLE ((b.drop p).take n)
    · rw [if_pos hl] at h
      simp at h
    · rw [if_neg hl] at h
      simp only [Prod.mk.injEq, true_and] at h
      obtain ⟨h1, h2⟩ := h
      have hX : ((b.drop p).take n).length = n := by simp; omega
      have hV := bytesLE_val ((b.drop p).take n)
      rw [hX] at hV
      generalize valLE ((b.drop p).take n) = V at *
      have htl : t.length = V := by rw [← h2]; simp; omega
      refine ⟨by omega, by omega, ?_⟩
      rw [htl, hV, ← h1, List.take_add, List.take_add, ← h2, List.append_assoc]
  · rw [if_pos (by simpa using hu)] at h
    simp only [Prod.mk.injEq] at h
    exact absurd h.1.1 hu
theorem stepG_ok {b : List UInt8} {p : Nat} {s2 : Int × Nat} {x : TagV} (h : stepG b (0, p) = (s2, x)) (h0 : s2.1 = 0) (hp : p ≤ b.length) : s2.2 ≤ b.length ∧ b.take s2.2 = b.take p ++ oneB x := by
  unfold stepG at h
  obtain ⟨⟨⟨e1, p1⟩, x1⟩, hr1⟩ : ∃ r, textR (0, p) b 1 = r := ⟨_, rfl⟩
  rw [hr1] at h
  simp only at h
  obtain ⟨⟨⟨e2, p2⟩, x2⟩, hr2⟩ : ∃ r, textR (e1, p1) b 2 = r := ⟨_, rfl⟩
  rw [hr2] at h
  simp only [Prod.mk.injEq] at h
  obtain ⟨rfl, rfl⟩ := h
  simp only at h0
  subst h0
  have he1 : e1 = 0 := by
    by_cases he : e1 = 0
    · exact he
    · rw [textR_err (e1, p1) b 2 he] at hr2
      simp only [Prod.mk.injEq] at hr2
      exact hr2.1.1
  subst he1
  obtain ⟨q1, q2, q3⟩ := textR_ok (n := 1) (by omega) hr1 hp
  obtain ⟨q4, q5, q6⟩ := textR_ok (n := 2) (by omega) hr2 q2
  refine ⟨q5, ?_⟩
  show b.take p2 = _
  rw [q6, q3]
  unfold oneB
  simp
theorem loopG_ok (b : List UInt8) : ∀ (n p : Nat) (acc : List TagV) (s2 : Int × Nat) (l : List TagV), loopG b n (0, p) acc = (s2, l) → s2.1 = 0 → p ≤ b.length →
    s2.2 ≤ b.length ∧ ∃ l2, l = acc ++ l2 ∧ l2.length = n ∧ b.take s2.2 = b.take p ++ itemsB l2
  | 0, p, acc, s2, l, h, h0, hp => by
    rw [loopG] at h
    simp only [Prod.mk.injEq] at h
    obtain ⟨rfl, rfl⟩ := h
    exact ⟨hp, [], by simp, rfl, by simp [itemsB]⟩
  | n + 1, p, acc, s2, l, h, h0, hp => by
    rw [loopG] at h
    by_cases he : (stepG b (0, p)).1.1 ≠ 0
    · rw [if_pos he] at h
      simp only [Prod.mk.injEq] at h
      obtain ⟨rfl, rfl⟩ := h
      exact absurd h0 he
    · rw [if_neg he] at h
      obtain ⟨⟨⟨e1, p1⟩, x⟩, hr⟩ : ∃ r, stepG b (0, p) = r := ⟨_, rfl⟩
      rw [hr] at h he
      simp only [ne_eq, Decidable.not_not] at h he
      subst he
      obtain ⟨q1, q2⟩ := stepG_ok hr rfl hp
      simp only at q1 q2
      obtain ⟨z1, l2, z2, z3, z4⟩ := loopG_ok b n p1 (acc ++ [x]) s2 l h h0 q1
      exact ⟨z1, x :: l2, by rw [z2]; simp, by rw [List.length_cons, z3], by rw [z4, q2]; simp [itemsB]⟩
theorem put_getG (b : List UInt8) {n : Nat} {l : List TagV} (h : getG b = (0, n, l)) : (checkT l).2 = 0 ∧ n ≤ b.length ∧ sealed (tagsB l) = b.take n := by
  unfold getG at h
  by_cases hs : startsG b = false
  · rw [if_pos hs] at h; simp at h
  rw [if_neg hs] at h
  by_cases h3 : b.length < 3
  · rw [if_pos h3] at h; simp at h
  rw [if_neg h3] at h
  obtain ⟨⟨⟨e, p⟩, L⟩, hr⟩ : ∃ r, loopG b (countG b) (0, 3) [] = r := ⟨_, rfl⟩
  rw [hr] at h
  by_cases he : e = 0
  case neg => rw [finG_err b _ he] at h; simp only [Prod.mk.injEq] at h; exact absurd h.1 he
  subst he
  obtain ⟨q1, l2, q2, q3, q4⟩ := loopG_ok b _ 3 [] _ _ hr rfl (by omega)
  simp only [List.nil_append] at q1 q2 q4
  subst q2
  unfold finG at h
  simp only at h
  unfold endG at h
  by_cases hu : (takeU (0, p) b 4).1.1 = 0
  case neg => rw [if_pos hu] at h; simp only [Prod.mk.injEq] at h; exact absurd h.1 hu
  rw [if_neg (by rw [hu]; simp)] at h
  obtain ⟨_, _, _, hg, hle⟩ := takeU_good hu
  have hg' : takeU (0, p) b 4 = ((0, p + 4), (b.drop p).take 4) := hg
  have hle' : 4 ≤ b.length - p := hle
  rw [hg'] at h
  simp only at h
  by_cases hv : valLE ((b.drop p).take 4) = (sumI (b.take p)).toNat
  case neg => rw [if_pos hv] at h; simp at h
  rw [if_neg (by rw [hv]; simp)] at h
  by_cases hc : (checkT L).2 = 0
  case neg => rw [if_pos hc] at h; simp only [Prod.mk.injEq] at h; exact absurd h.1 hc
  rw [if_neg (by rw [hc]; simp)] at h
  simp only [Prod.mk.injEq, true_and] at h
  obtain ⟨rfl, rfl⟩ := h
  refine ⟨hc, by omega, ?_⟩
  have hhead : headB L = b.take 3 := by
    unfold headB
    rw [q3]
    match b, h3 with
    | x :: y :: z :: t, _ =>
      have hs' : startsG (x :: y :: z :: t) = true := by simpa using hs
      simp [startsG] at hs'
      simp [countG, valLE, hs'.1, hs'.2]
    | [], h3 => exact absurd (show ([] : List UInt8).length < 3 by simp) h3
    | [x], h3 => exact absurd (show [x].length < 3 by simp) h3
    | [x, y], h3 => exact absurd (show [x, y].length < 3 by simp) h3
  have ht : tagsB L = b.take p := by
    unfold tagsB
    rw [hhead, q4]
  have hX : ((b.drop p).take 4).length = 4 := by simp; omega
  have hV := bytesLE_val ((b.drop p).take 4)
  rw [hX] at hV
  unfold sealed
  rw [ht, ← hv, hV, List.take_add]
end Go.Proofs.YtlcbfikmljmlpaaDoor
