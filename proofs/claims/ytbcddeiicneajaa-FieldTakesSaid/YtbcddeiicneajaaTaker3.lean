/- A taker's signed number, its bytes compared, its text; nobody's taker. -/
import Derived.Test.YtbcddeiicneajaaTaker2
import Derived.Test.YtbcddeiicneajaaConv
namespace Go.Proofs.Ytbcddeiicneajaa
set_option linter.unusedVariables false
open Go.RowKit
theorem below_drewN {B : Nat} {w0 w : World} (h : Below B w0 w) (n : Nat) : Below B w0 (w.drewN n) := ⟨h.os, h.tape, h.output, h.size, h.block⟩
set_option maxHeartbeats 1000000 in
theorem takerU_nil (n : Int) (w : World) :
    Calls Try.prog 15 #[.pointer none, .int .i64 n] w fun e w' => e = .returned (.int .u64 0) ∧ w = w' := by
  go_enter Try.func15, Try.ntmps15
  go_wp2_with fail
  refine (tready_nil _).mono ?_
  rintro e w' ⟨rfl, rfl⟩
  go_wp2_with fail
  go_ret
  exact ⟨rfl, rfl⟩
set_option maxHeartbeats 1000000 in
theorem equal_any (A B : Option Addr) (c d : Nat) (l m : List UInt8) (w : World) (hl : SeesB w A l) (hm : SeesB w B m) (h1 : l.length ≤ 140737488355328) (h2 : m.length ≤ 140737488355328) :
    Calls Try.prog 38 #[.slice A l.length c, .slice B m.length d] w fun e w' => e = .returned (.bool (decide (l = m))) ∧ Below w.heap.size w w' := by
  by_cases hlen : l.length = m.length
  · have d1 : ((l.length : Int) != m.length) = false := by simp [hlen]
    go_enter Try.func38, Try.ntmps38
    go_wp2_with fail
    go_loopw [5, 13] (fun x i wr => ∃ k : Nat, k ≤ l.length ∧ i = .int .i64 k ∧ l.take k = m.take k ∧ Below w.heap.size w wr) (fun _ i _ => l.length - (intOf i).toNat)
    case atStart => exact ⟨0, by omega, rfl, by simp, Below.refl _ _⟩
    case round =>
      obtain ⟨k, hk, rfl, he, hbw⟩ := hrel
      by_cases hlt : k < l.length
      · have hd : decide (k < l.length) = true := by simpa using hlt
        have hltm : k < m.length := by omega
        have f1 : (k : Int) < m.length := by omega
        obtain ⟨a, rfl, ca⟩ := (hl.below hbw).at hlt
        obtain ⟨b, rfl, cb⟩ := (hm.below hbw).at hltm
        have f2 : (k : Int) < l.length := by omega
        by_cases heq : l[k] = m[k]
        · have d2 : ((l[k].toNat : Int) != m[k].toNat) = false := by rw [heq]; simp
          go_wp2_with fail
          go_quiet (fail)
          go_wp2_with fail
          refine ⟨⟨k + 1, hlt, by go_num, by rw [List.take_succ_eq_append_getElem hlt, List.take_succ_eq_append_getElem hltm, he, heq], below_drewN hbw _⟩, by simp [intOf]; omega⟩
        · have d2 : ((l[k].toNat : Int) != m[k].toNat) = true := by
            simp only [bne_iff_ne, ne_eq]
            intro h
            exact heq (UInt8.toNat_inj.1 (by omega))
          have hne : decide (l = m) = false := by
            simp only [decide_eq_false_iff_not]
            rintro rfl
            exact heq rfl
          go_wp2_with fail
          go_quiet (fail)
          go_wp2_with fail
          go_ret
          exact ⟨ret_bool hne.symm, below_drewN hbw _⟩
      · obtain rfl : k = l.length := by omega
        have hd : decide (l.length < l.length) = false := by simp
        have hdm : decide (m.length < m.length) = false := by simp
        have : l = m := by
          rw [List.take_length] at he
          rw [he, hlen, List.take_length]
        go_wp2_with fail
        go_ret
        exact ⟨ret_bool (decide_eq_true this).symm, hbw⟩
  · have d1 : ((l.length : Int) != m.length) = true := by simp; omega
    have hne : decide (l = m) = false := by
      simp only [decide_eq_false_iff_not]
      rintro rfl
      exact hlen rfl
    go_enter Try.func38, Try.ntmps38
    go_wp2_with fail
    go_ret
    exact ⟨ret_bool hne.symm, Below.refl _ _⟩
/-- a number of so many bytes, signed -/
def signI (n v : Nat) : Int := wrap64 (IntKind.u64.wrap ((v : Int) * 2 ^ (8 * (8 - n)))) / 2 ^ (8 * (8 - n))
def IPost (w : World) (g : Nat) (l : List UInt8) (n : Int) (r : (Int × Nat) × List UInt8) (e : Ending) (w' : World) : Prop :=
  e = .returned (.int .i64 (if r.1.1 = 0 then signI n.toNat (valLE r.2) else 0)) ∧ Tk w' g r.1.1 r.1.2 l ∧ But (Only g) w w'
theorem takeU_good {s : Int × Nat} {l : List UInt8} {n : Int} (h : (takeU s l n).1.1 = 0) : s.1 = 0 ∧ 1 ≤ n ∧ n ≤ 8 ∧ takeU s l n = ((0, s.2 + n.toNat), (l.drop s.2).take n.toNat) ∧ n.toNat ≤ l.length - s.2 := by
  unfold takeU at h ⊢
  by_cases h0 : s.1 ≠ 0
  · rw [if_pos h0] at h; exact absurd h h0
  · rw [if_neg h0] at h ⊢
    by_cases hn : n < 1 ∨ 8 < n
    · rw [if_pos hn] at h; simp at h
    · rw [if_neg hn] at h ⊢
      unfold tnext at h ⊢
      by_cases hl : l.length - s.2 < n.toNat
      · rw [if_pos hl] at h; simp at h
      · rw [if_neg hl]
        exact ⟨by omega, by omega, by omega, rfl, by omega⟩
set_option maxHeartbeats 2000000 in
theorem takerI_any (g : Nat) (err : Int) (p : Nat) (n : Int) (l : List UInt8) (w : World) (h : Tk w g err p l) (hlen : l.length ≤ 140737488355328) :
    Calls Try.prog 17 #[.pointer (some ⟨g, 0, none⟩), .int .i64 n] w (IPost w g l n (takeU (err, p) l n)) := by
  have hU := takerU_any g err p n l w h hlen
  obtain ⟨r, hr⟩ : ∃ r, takeU (err, p) l n = r := ⟨_, rfl⟩
  rw [hr] at hU ⊢
  by_cases h0 : r.1.1 = 0
  · obtain ⟨_, h1, h2, hr2, _⟩ := takeU_good (by rw [hr]; exact h0)
    obtain ⟨v, hv⟩ : ∃ v, valLE r.2 = v := ⟨_, rfl⟩
    have hvl : v < 18446744073709551616 := by
      have := valLE_lt r.2
      have hl8 : r.2.length ≤ 8 := by rw [← hr, hr2]; simp; omega
      have := Nat.pow_le_pow_right (show 0 < 256 by omega) hl8
      omega
    unfold UPost at hU
    rw [hv, h0] at hU
    unfold IPost
    rw [hv, if_pos h0, h0]
    clear hr hr2 hv h0
    have key : ∀ N : Nat, 1 ≤ N → N ≤ 8 → n = (N : Int) → Calls Try.prog 17 #[.pointer (some ⟨g, 0, none⟩), .int .i64 n] w fun e w' => e = .returned (.int .i64 (signI n.toNat v)) ∧ Tk w' g 0 r.1.2 l ∧ But (Only g) w w' := by
      intro N hN1 hN2 hN
      subst hN
      go_enter Try.func17, Try.ntmps17
      go_wp2_with fail
      refine hU.mono ?_
      rintro e w1 ⟨rfl, hT, hB⟩
      go_wp2_with fail
      obtain ⟨_, _, hc0, _⟩ := hT.cells
      refine (tready_is g 0 true _ hc0 rfl).mono ?_
      rintro e w2 ⟨rfl, rfl⟩
      go_wp2_with fail
      go_ret
      exact ⟨rfl, hT, hB⟩
    exact key n.toNat (by omega) (by omega) (by omega)
  · unfold UPost at hU
    unfold IPost
    rw [if_neg h0]
    have d0 : (r.1.1 == 0) = false := by simpa using h0
    go_enter Try.func17, Try.ntmps17
    go_wp2_with fail
    refine hU.mono ?_
    rintro e w1 ⟨rfl, hT, hB⟩
    go_wp2_with fail
    obtain ⟨_, _, hc0, _⟩ := hT.cells
    refine (tready_is g r.1.1 false _ hc0 d0).mono ?_
    rintro e w2 ⟨rfl, rfl⟩
    go_wp2_with fail
    go_ret
    exact ⟨rfl, hT, hB⟩
set_option maxHeartbeats 1000000 in
theorem takerI_nil (n : Int) (w : World) :
    Calls Try.prog 17 #[.pointer none, .int .i64 n] w fun e w' => e = .returned (.int .i64 0) ∧ w = w' := by
  go_enter Try.func17, Try.ntmps17
  go_wp2_with fail
  refine (takerU_nil _ _).mono ?_
  rintro e w' ⟨rfl, rfl⟩
  go_wp2_with fail
  refine (tready_nil _).mono ?_
  rintro e w' ⟨rfl, rfl⟩
  go_wp2_with fail
  go_ret
  exact ⟨rfl, rfl⟩
set_option maxHeartbeats 1000000 in
theorem traw_nil (n : Int) (w : World) :
    Calls Try.prog 27 #[.pointer none, .int .i64 n] w fun e w' => e = .returned (.slice none 0 0) ∧ w = w' := by
  go_enter Try.func27, Try.ntmps27
  go_wp2_with fail
  refine (tready_nil _).mono ?_
  rintro e w' ⟨rfl, rfl⟩
  go_wp2_with fail
  go_ret
  exact ⟨rfl, rfl⟩
set_option maxHeartbeats 1000000 in
theorem ttext_nil (n : Int) (w : World) :
    Calls Try.prog 19 #[.pointer none, .int .i64 n] w fun e w' => e = .returned (.string ⟨#[]⟩) ∧ w = w' := by
  go_enter Try.func19, Try.ntmps19
  go_wp2_with fail
  refine (tready_nil _).mono ?_
  rintro e w' ⟨rfl, rfl⟩
  go_wp2_with fail
  go_ret
  exact ⟨rfl, rfl⟩
set_option maxHeartbeats 1000000 in
theorem tisb_nil (A : Option Addr) (n c : Nat) (w : World) :
    Calls Try.prog 18 #[.pointer none, .slice A n c] w fun e w' => e = .returned (.bool false) ∧ w = w' := by
  go_enter Try.func18, Try.ntmps18
  go_wp2_with fail
  refine (tready_nil _).mono ?_
  rintro e w' ⟨rfl, rfl⟩
  go_wp2_with fail
  go_ret
  exact ⟨rfl, rfl⟩
/-- behind Is: whether the next bytes are these -/
def tisR (s : Int × Nat) (l b : List UInt8) : (Int × Nat) × Bool :=
  if s.1 ≠ 0 then (s, false) else if l.length - s.2 < b.length then ((10, s.2), false) else ((0, s.2 + b.length), decide ((l.drop s.2).take b.length = b))
def IsPost (w : World) (g : Nat) (l : List UInt8) (r : (Int × Nat) × Bool) (e : Ending) (w' : World) : Prop :=
  e = .returned (.bool r.2) ∧ Tk w' g r.1.1 r.1.2 l ∧ But (Only g) w w'
theorem SeesB.but {w w' : World} {R : Nat → Prop} {A : Option Addr} {l : List UInt8} (h : SeesB w A l) (hb : But R w w') (ho : Off R A) : SeesB w' A l := Sees.but h hb ho
set_option maxHeartbeats 2000000 in
theorem tisb_any (g : Nat) (err : Int) (p : Nat) (l : List UInt8) (A : Option Addr) (c : Nat) (b : List UInt8) (w : World) (h : Tk w g err p l) (hb : SeesB w A b) (hA : ∀ a, A = some a → a.block ≠ g) (hlen : l.length ≤ 140737488355328) (hbl : b.length ≤ 140737488355328) :
    Calls Try.prog 18 #[.pointer (some ⟨g, 0, none⟩), .slice A b.length c] w (IsPost w g l (tisR (err, p) l b)) := by
  obtain ⟨_, _, hc0, _⟩ := h.cells
  by_cases h0 : err = 0
  · subst h0
    have hN := tnext_any g p b.length l w h hlen (by omega)
    by_cases hlt : l.length - p < b.length
    · rw [tnext, if_pos hlt] at hN
      rw [tisR, if_neg (by simp), if_pos hlt]
      go_enter Try.func18, Try.ntmps18
      go_wp2_with fail
      refine (tready_is g 0 true _ hc0 rfl).mono ?_
      rintro e w' ⟨rfl, rfl⟩
      go_wp2_with fail
      refine hN.mono ?_
      rintro e w1 ⟨A1, c1, rfl, hs1, _, _, hT, hB⟩
      go_wp2_with fail
      refine (equal_any A1 A c1 c [] b w1 hs1 (hb.but hB (fun a ha h => hA a ha h)) (by simp) hbl).mono ?_
      rintro e w2 ⟨rfl, hb2⟩
      have hne : decide ([] = b) = false := by
        simp only [decide_eq_false_iff_not]
        rintro rfl
        simp at hlt
      rw [hne]
      go_wp2_with fail
      go_ret
      exact ⟨rfl, hT.below hb2, hB.trans (But.of_below (R := fun _ => False) hb2) (fun n h => h.elim)⟩
    · rw [tnext, if_neg hlt] at hN
      rw [tisR, if_neg (by simp), if_neg hlt]
      have hxl : ((l.drop p).take b.length).length ≤ 140737488355328 := by rw [List.length_take]; omega
      generalize (l.drop p).take b.length = x at *
      go_enter Try.func18, Try.ntmps18
      go_wp2_with fail
      refine (tready_is g 0 true _ hc0 rfl).mono ?_
      rintro e w' ⟨rfl, rfl⟩
      go_wp2_with fail
      refine hN.mono ?_
      rintro e w1 ⟨A1, c1, rfl, hs1, _, _, hT, hB⟩
      go_wp2_with fail
      refine (equal_any A1 A c1 c x b w1 hs1 (hb.but hB (fun a ha h => hA a ha h)) hxl hbl).mono ?_
      rintro e w2 ⟨rfl, hb2⟩
      have hT2 := hT.below hb2
      have hB2 : But (Only g) w w2 := hB.trans (But.of_below (R := fun _ => False) hb2) (fun n h => h.elim)
      obtain ⟨_, _, hc02, _⟩ := hT2.cells
      by_cases hx : x = b
      · rw [decide_eq_true hx]
        go_wp2_with fail
        refine (tready_is g 0 true _ hc02 rfl).mono ?_
        rintro e w' ⟨rfl, rfl⟩
        go_wp2_with fail
        go_ret
        exact ⟨ret_bool (decide_eq_true hx).symm, hT2, hB2⟩
      · rw [decide_eq_false hx]
        go_wp2_with fail
        go_ret
        exact ⟨ret_bool (decide_eq_false hx).symm, hT2, hB2⟩
  · have d0 : (err == 0) = false := by simpa using h0
    rw [tisR, if_pos h0]
    go_enter Try.func18, Try.ntmps18
    go_wp2_with fail
    refine (tready_is g err false _ hc0 d0).mono ?_
    rintro e w' ⟨rfl, rfl⟩
    go_wp2_with fail
    go_ret
    exact ⟨rfl, h, But.refl _ _⟩
end Go.Proofs.Ytbcddeiicneajaa
