/- The reference's taker (Next, Text) beside a row that grows. -/
import Derived.Test.YtlcbfikmljmlpaaDoorTagsGetsM14
import Derived.Test.YtlcbfikmljmlpaaDoorTagsGetsM15
import Derived.Test.YtlcbfikmljmlpaaDoorTagsGetsM16
namespace Go.Proofs.YtlcbfikmljmlpaaDoor
set_option linter.unusedVariables false
open Go.RowKit
/-- bytes are not touched where another block, that holds no bytes, turns -/
theorem SeesB.butTypedB {w w' : World} {A : Option Addr} {l : List UInt8} {q : Nat} {cs : Array Value} {t : TypeId} {fr : Nat × Nat} (h : SeesB w A l) (hb : But (Only q) w w') (hq : w.heap[q]? = some (.cells cs t fr)) (hcs : ∀ (j : Nat) (z : Int), cs[j]? ≠ some (.int .u8 z)) : SeesB w' A l := by
  intro i u hu
  obtain ⟨a, ha, hc⟩ := h i u hu
  have hlt := block_lt_of_cell hc
  refine ⟨a, ha, (World.cell?_of_block (w := w) (hb.block _ hlt ?_)).trans hc⟩
  rw [addr_block]
  intro hbq
  have hb' : a.block = q := hbq
  have hcc := hc
  unfold World.cell? at hcc
  rw [addr_block, hb', hq] at hcc
  have hcc2 : cs[(a.add i).off]? = some u := by
    dsimp only at hcc
    split at hcc
    · cases hcc
    · exact hcc
  rw [List.getElem?_map] at hu
  cases h5 : l[i]? with
  | none => rw [h5] at hu; cases hu
  | some b =>
    rw [h5] at hu
    injection hu with hu
    exact hcs _ _ (hcc2.trans (by rw [← hu]; rfl))
theorem rkB_row (A : Option Addr) (n c : Nat) (x y : Int) : ∀ (j : Nat) (z : Int), (#[Value.slice A n c, .int .i64 x, .int .i64 y] : Array Value)[j]? ≠ some (.int .u8 z) := by
  intro j z h
  match j with
  | 0 => simp at h
  | 1 => simp at h
  | 2 => simp at h
  | j + 3 => simp at h
/-- block g is the reference's taker with this error, at this place of these bytes, which lie below a block -/
def RkB (w : World) (g : Nat) (err : Int) (p : Nat) (l : List UInt8) (B : Nat) : Prop :=
  ∃ (A : Option Addr) (c : Nat), w.heap[g]? = some (.cells #[.slice A l.length c, .int .i64 (p : Int), .int .i64 err] 87 (0, 0)) ∧ SeesB w A l ∧ l.length ≤ c ∧ c ≤ maxLen ∧ p ≤ l.length ∧ ∀ a, A = some a → a.block < B
theorem drewNB {B : Nat} {a w : World} (h : Below B a w) (n : Nat) : Below B a (w.drewN n) := ⟨h.os, h.tape, h.output, h.size, h.block⟩
/-- what is read of a taker -/
theorem RkB.cells {w : World} {g : Nat} {err : Int} {p : Nat} {l : List UInt8} {B : Nat} (h : RkB w g err p l B) :
    ∃ (A : Option Addr) (c : Nat), w.cell? ⟨g, 0, none⟩ = some (.slice A l.length c) ∧ w.cell? ⟨g, 1, none⟩ = some (.int .i64 (p : Int)) ∧ w.cell? ⟨g, 2, none⟩ = some (.int .i64 err) ∧ SeesB w A l ∧ l.length ≤ c ∧ c ≤ maxLen ∧ p ≤ l.length ∧ ∀ i, w.frozen? ⟨g, i, none⟩ = false := by
  obtain ⟨A, c, hg, hs, h1, h2, h3, _⟩ := h
  exact ⟨A, c, by rw [cell_of_row _ _ _ _ _ _ hg]; rfl, by rw [cell_of_row _ _ _ _ _ _ hg]; rfl, by rw [cell_of_row _ _ _ _ _ _ hg]; rfl, hs, h1, h2, h3, fun i => frozen_of_row _ _ _ _ _ hg⟩
theorem RkB.setErr {w : World} {g : Nat} {err : Int} {p : Nat} {l : List UInt8} {B : Nat} (h : RkB w g err p l B) (e : Int) : RkB (w.setCell ⟨g, 2, none⟩ (.int .i64 e)) g e p l B ∧ But (Only g) w (w.setCell ⟨g, 2, none⟩ (.int .i64 e)) := by
  obtain ⟨A, c, hg, hs, h1, h2, h3, h4⟩ := h
  have hb : But (Only g) w (w.setCell ⟨g, 2, none⟩ (.int .i64 e)) := ⟨rfl, rfl, rfl, by simp [World.setCell], fun b _ hb => heap_setCell_other w _ b _ (fun h => hb h)⟩
  exact ⟨⟨A, c, heap_setCell_same w g 2 _ _ _ hg, SeesB.butTypedB hs hb hg (rkB_row _ _ _ _ _), h1, h2, h3, h4⟩, hb⟩
theorem RkB.setAt {w : World} {g : Nat} {err : Int} {p : Nat} {l : List UInt8} {B : Nat} (h : RkB w g err p l B) (q : Nat) (hq : q ≤ l.length) : RkB (w.setCell ⟨g, 1, none⟩ (.int .i64 (q : Int))) g err q l B ∧ But (Only g) w (w.setCell ⟨g, 1, none⟩ (.int .i64 (q : Int))) := by
  obtain ⟨A, c, hg, hs, h1, h2, h3, h4⟩ := h
  have hb : But (Only g) w (w.setCell ⟨g, 1, none⟩ (.int .i64 (q : Int))) := ⟨rfl, rfl, rfl, by simp [World.setCell], fun b _ hb => heap_setCell_other w _ b _ (fun h => hb h)⟩
  exact ⟨⟨A, c, heap_setCell_same w g 1 _ _ _ hg, SeesB.butTypedB hs hb hg (rkB_row _ _ _ _ _), h1, h2, hq, h4⟩, hb⟩
theorem RkB.below {w w' : World} {g : Nat} {err : Int} {p : Nat} {l : List UInt8} {B : Nat} (h : RkB w g err p l B) (hb : Below w.heap.size w w') : RkB w' g err p l B := by
  obtain ⟨A, c, hg, hs, h1, h2, h3, h4⟩ := h
  exact ⟨A, c, (hb.block g (Array.getElem?_eq_some_iff.1 hg).1).trans hg, hs.below hb, h1, h2, h3, h4⟩
/-- what is made above the block leaves the taker -/
theorem RkB.far {w w' : World} {g : Nat} {err : Int} {p : Nat} {l : List UInt8} {B : Nat} (h : RkB w g err p l B) (hg : g < B) (hb : Below B w w') : RkB w' g err p l B := by
  obtain ⟨A, c, hr, hs, h1, h2, h3, h4⟩ := h
  refine ⟨A, c, (hb.block g hg).trans hr, ?_, h1, h2, h3, h4⟩
  intro i v hv
  obtain ⟨a, ha, hc⟩ := hs i v hv
  exact ⟨a, ha, (World.cell?_of_block (w := w) (hb.block _ (by rw [addr_block]; exact h4 a ha))).trans hc⟩
def RNextPostB (w : World) (g : Nat) (l : List UInt8) (B : Nat) (r : (Int × Nat) × List UInt8) (e : Ending) (w' : World) : Prop :=
  ∃ (A : Option Addr) (c : Nat), e = .returned (.slice A r.2.length c) ∧ SeesB w' A r.2 ∧ RkB w' g r.1.1 r.1.2 l B ∧ But (Only g) w w'
/-- what the reference's taker gives of the next n bytes, of a field or not -/
def nextRB (s : Int × Nat) (l : List UInt8) (n : Int) (b : Bool) : (Int × Nat) × List UInt8 := if b = true then takeU s l n else takeRaw s l n
set_option maxHeartbeats 2000000 in
theorem rnextB_ok (g : Nat) (p n : Nat) (b : Bool) (l : List UInt8) (B : Nat) (w : World) (h : RkB w g 0 p l B) (hlen : l.length ≤ 140737488355328) (hn : n ≤ 9223372036854775807) (hb : b = true → 1 ≤ n ∧ n ≤ 8) :
    Calls Tryd.prog 59 #[.pointer (some ⟨g, 0, none⟩), .int .i64 (n : Int), .bool b] w (RNextPostB w g l B (tnext p l n)) := by
  obtain ⟨A, c, hc0, hc1, hc2, hs, h1, h2, h3, hf⟩ := h.cells
  have hf1 := hf 1
  have hf2 := hf 2
  have d0 : decide ((n : Int) < 0) = false := decide_eq_false (by omega)
  have HB : b = false ∨ (b = true ∧ 1 ≤ n ∧ n ≤ 8) := by
    cases b with
    | false => exact .inl rfl
    | true => exact .inr ⟨rfl, hb rfl⟩
  clear hb
  by_cases hlt : l.length - p < n
  · rw [tnext, if_pos hlt]
    have d1 : decide ((l.length : Int) - p < n) = true := by simp; omega
    have key : ∀ w0, Below w.heap.size w w0 → RNextPostB w g l B ((10, p), []) (.returned (.slice none 0 0)) (w0.setCell ⟨g, 2, none⟩ (.int .i64 10)) := by
      intro w0 hdr
      have hT := (h.below hdr).setErr 10
      exact ⟨none, 0, rfl, Sees.nil _ _, hT.1, (But.of_below (R := Only g) hdr).trans hT.2 (fun n h => .inl h)⟩
    rcases HB with rfl | ⟨rfl, hb1, hb2⟩
    · skip
      go_enter Tryd.func59, Tryd.ntmps59
      go_wp2_with fail
      go_quiet (fail)
      go_wp2_with fail
      go_ret
      exact key _ (drewNB (Below.refl _ _) nq)
    · skip
      have d2 : decide ((n : Int) < 1) = false := decide_eq_false (by omega)
      have d3 : decide (8 < (n : Int)) = false := decide_eq_false (by omega)
      go_enter Tryd.func59, Tryd.ntmps59
      go_wp2_with fail
      go_quiet (fail)
      go_wp2_with fail
      go_ret
      exact key _ (drewNB (Below.refl _ _) nq)
  · rw [tnext, if_neg hlt]
    have d1 : decide ((n : Int) > (l.length : Int) - p) = false := by simp; omega
    have hw2 : wrap64 ((p : Int) + n) = ((p + n : Nat) : Int) := by unfold wrap64; unfold maxLen at h2; omega
    rcases HB with rfl | ⟨rfl, hb1, hb2⟩
    · skip
      go_enter Tryd.func59, Tryd.ntmps59
      go_wp2_with fail
      go_quiet (fail)
      go_wp2_with fail
      have hdr : Below w.heap.size w (w.drewN nq) := drewNB (Below.refl _ _) nq
      have hT := (h.below hdr).setAt (p + n) (by omega)
      rw [show ((p + n : Nat) : Int) = (p : Int) + n by omega] at hT
      generalize (w.drewN nq).setCell ⟨g, 1, none⟩ (.int .i64 ((p : Int) + n)) = w1 at *
      obtain ⟨hT1, hT2⟩ := hT
      clear hc0 hc1 hc2 hs hf hf1 hf2
      have hBT : But (Only g) w w1 := (But.of_below (R := Only g) hdr).trans hT2 (fun n h => .inl h)
      clear hT2 hdr
      obtain ⟨A, c, hc0, hc1, hc2, hs, h1, h2, h3, hf⟩ := hT1.cells
      rw [show ((p + n : Nat) : Int) = (p : Int) + n by omega] at hc1
      have b0 : 0 ≤ (p : Int) := by omega
      have b1 : (p : Int) ≤ p + n := by omega
      have b2 : (p : Int) + n ≤ c := by omega
      go_quiet (fail)
      go_wp2_with fail
      · have hl2 : (l.drop p).take n = [] := by rw [List.drop_eq_nil_of_le (by omega), List.take_nil]
        have hn0 : n = 0 := by omega
        have hd1 : Below w1.heap.size w1 (w1.drewN nq) := drewNB (Below.refl _ _) nq
        rw [hl2]
        refine bodyPost_ret (results_tmp rfl _ _ _) rfl ?_
        refine ⟨A, 0, ?_, Sees.nil _ _, hT1.below hd1, hBT.trans (But.of_below (R := fun _ => False) hd1) (fun n h => h.elim)⟩
        subst hn0; rfl
      · have hlen2 : ((l.drop p).take n).length = n := by simp; omega
        have hd1 : Below w1.heap.size w1 (w1.drewN nq) := drewNB (Below.refl _ _) nq
        have hfin : RNextPostB w g l B ((0, p + n), (l.drop p).take n) (.returned (.slice (A.map (·.add p)) n (c - p))) (w1.drewN nq) :=
          ⟨_, _, by rw [hlen2], SeesB.cutTo (SeesB.below hs hd1) p n, hT1.below hd1, hBT.trans (But.of_below (R := fun _ => False) hd1) (fun n h => h.elim)⟩
        go_ret
        exact hfin
    · skip
      have d2 : decide ((n : Int) < 1) = false := decide_eq_false (by omega)
      have d3 : decide (8 < (n : Int)) = false := decide_eq_false (by omega)
      go_enter Tryd.func59, Tryd.ntmps59
      go_wp2_with fail
      go_quiet (fail)
      go_wp2_with fail
      have hdr : Below w.heap.size w (w.drewN nq) := drewNB (Below.refl _ _) nq
      have hT := (h.below hdr).setAt (p + n) (by omega)
      rw [show ((p + n : Nat) : Int) = (p : Int) + n by omega] at hT
      generalize (w.drewN nq).setCell ⟨g, 1, none⟩ (.int .i64 ((p : Int) + n)) = w1 at *
      obtain ⟨hT1, hT2⟩ := hT
      clear hc0 hc1 hc2 hs hf hf1 hf2
      have hBT : But (Only g) w w1 := (But.of_below (R := Only g) hdr).trans hT2 (fun n h => .inl h)
      clear hT2 hdr
      obtain ⟨A, c, hc0, hc1, hc2, hs, h1, h2, h3, hf⟩ := hT1.cells
      rw [show ((p + n : Nat) : Int) = (p : Int) + n by omega] at hc1
      have b0 : 0 ≤ (p : Int) := by omega
      have b1 : (p : Int) ≤ p + n := by omega
      have b2 : (p : Int) + n ≤ c := by omega
      go_quiet (fail)
      go_wp2_with fail
      · have hlen2 : ((l.drop p).take n).length = n := by simp; omega
        have hd1 : Below w1.heap.size w1 (w1.drewN nq) := drewNB (Below.refl _ _) nq
        have hfin : RNextPostB w g l B ((0, p + n), (l.drop p).take n) (.returned (.slice (A.map (·.add p)) n (c - p))) (w1.drewN nq) :=
          ⟨_, _, by rw [hlen2], SeesB.cutTo (SeesB.below hs hd1) p n, hT1.below hd1, hBT.trans (But.of_below (R := fun _ => False) hd1) (fun n h => h.elim)⟩
        go_ret
        rw [show p + n - p = n by omega]
        exact hfin
set_option maxHeartbeats 1000000 in
theorem rnextB_err (g : Nat) (err : Int) (p : Nat) (n : Int) (b : Bool) (l : List UInt8) (B : Nat) (w : World) (h : RkB w g err p l B) (he : err ≠ 0) :
    Calls Tryd.prog 59 #[.pointer (some ⟨g, 0, none⟩), .int .i64 n, .bool b] w (RNextPostB w g l B ((err, p), [])) := by
  obtain ⟨A, c, hc0, hc1, hc2, hs, h1, h2, h3, hf⟩ := h.cells
  have de : (err != 0) = true := by simpa using he
  have hfin : RNextPostB w g l B ((err, p), []) (.returned (.slice none 0 0)) w := ⟨none, 0, rfl, Sees.nil _ _, h, But.refl _ _⟩
  go_enter Tryd.func59, Tryd.ntmps59
  go_wp2_with fail
  go_ret
  exact hfin
set_option maxHeartbeats 1000000 in
theorem rnextB_arg (g : Nat) (p : Nat) (n : Int) (b : Bool) (l : List UInt8) (B : Nat) (w : World) (h : RkB w g 0 p l B) (hn : n < 0 ∨ (b = true ∧ (n < 1 ∨ 8 < n))) :
    Calls Tryd.prog 59 #[.pointer (some ⟨g, 0, none⟩), .int .i64 n, .bool b] w (RNextPostB w g l B ((1, p), [])) := by
  obtain ⟨A, c, hc0, hc1, hc2, hs, h1, h2, h3, hf⟩ := h.cells
  have hf2 := hf 2
  have hT := h.setErr 1
  have hfin : RNextPostB w g l B ((1, p), []) (.returned (.slice none 0 0)) (w.setCell ⟨g, 2, none⟩ (.int .i64 1)) := ⟨none, 0, rfl, Sees.nil _ _, hT.1, hT.2⟩
  by_cases h0 : n < 0
  · have d0 : decide (n < 0) = true := decide_eq_true h0
    go_enter Tryd.func59, Tryd.ntmps59
    go_wp2_with fail
    go_ret
    exact hfin
  · have d0 : decide (n < 0) = false := decide_eq_false h0
    have hb : b = true := by
      rcases hn with h | ⟨h, _⟩
      · exact absurd h h0
      · exact h
    subst hb
    by_cases h1 : n < 1
    · have d1 : decide (n < 1) = true := decide_eq_true h1
      go_enter Tryd.func59, Tryd.ntmps59
      go_wp2_with fail
      go_ret
      exact hfin
    · have d1 : decide (n < 1) = false := decide_eq_false h1
      have d2 : decide (8 < n) = true := decide_eq_true (by omega)
      go_enter Tryd.func59, Tryd.ntmps59
      go_wp2_with fail
      go_ret
      exact hfin
theorem rnextB_any (g : Nat) (err : Int) (p : Nat) (n : Int) (b : Bool) (l : List UInt8) (B : Nat) (w : World) (h : RkB w g err p l B) (hlen : l.length ≤ 140737488355328) (hn : n ≤ 9223372036854775807) :
    Calls Tryd.prog 59 #[.pointer (some ⟨g, 0, none⟩), .int .i64 n, .bool b] w (RNextPostB w g l B (nextRB (err, p) l n b)) := by
  by_cases he : err = 0
  · subst he
    by_cases hn' : n < 0 ∨ (b = true ∧ (n < 1 ∨ 8 < n))
    · have hh : nextRB (0, p) l n b = ((1, p), []) := by
        unfold nextRB
        cases b with
        | true =>
          rw [if_pos rfl]
          unfold takeU
          rw [if_neg (by simp), if_pos (by rcases hn' with h | ⟨_, h⟩ <;> omega)]
        | false =>
          rw [if_neg (by simp)]
          unfold takeRaw
          rw [if_neg (by simp), if_pos (by rcases hn' with h | ⟨h, _⟩; exact h; cases h)]
      rw [hh]
      exact rnextB_arg g p n b l B w h hn'
    · have h0 : 0 ≤ n := by omega
      obtain ⟨N, rfl⟩ := Int.eq_ofNat_of_zero_le h0
      have hh : nextRB (0, p) l (N : Int) b = tnext p l N := by
        unfold nextRB
        cases b with
        | true =>
          rw [if_pos rfl]
          unfold takeU
          rw [if_neg (by simp), if_neg (by intro hc; exact hn' (.inr ⟨rfl, hc⟩))]
          rfl
        | false =>
          rw [if_neg (by simp)]
          unfold takeRaw
          rw [if_neg (by simp), if_neg (by omega)]
          rfl
      rw [hh]
      exact rnextB_ok g p N b l B w h hlen (by omega) (fun hb => by
        constructor
        · have : ¬ ((N : Int) < 1 ∨ 8 < (N : Int)) := fun hc => hn' (.inr ⟨hb, hc⟩)
          omega
        · have : ¬ ((N : Int) < 1 ∨ 8 < (N : Int)) := fun hc => hn' (.inr ⟨hb, hc⟩)
          omega)
  · have hh : nextRB (err, p) l n b = ((err, p), []) := by
      unfold nextRB
      cases b with
      | true => rw [if_pos rfl]; unfold takeU; rw [if_pos he]
      | false => rw [if_neg (by simp)]; unfold takeRaw; rw [if_pos he]
    rw [hh]
    exact rnextB_err g err p n b l B w h he
def RTextPostB (w : World) (g : Nat) (l : List UInt8) (B : Nat) (r : (Int × Nat) × List UInt8) (e : Ending) (w' : World) : Prop :=
  e = .returned (.string ⟨r.2.toArray⟩) ∧ RkB w' g r.1.1 r.1.2 l B ∧ But (Only g) w w'
theorem nextRB_true (s : Int × Nat) (l : List UInt8) (n : Int) : nextRB s l n true = takeU s l n := by unfold nextRB; rw [if_pos rfl]
theorem nextRB_false (s : Int × Nat) (l : List UInt8) (n : Int) : nextRB s l n false = takeRaw s l n := by unfold nextRB; rw [if_neg (by simp)]
set_option maxHeartbeats 4000000 in
theorem rtktextB_any (g : Nat) (err : Int) (p : Nat) (n : Int) (l : List UInt8) (B : Nat) (w : World) (h : RkB w g err p l B) (hlen : l.length ≤ 140737488355328) (hn : n ≤ 9223372036854775807) :
    Calls Tryd.prog 57 #[.pointer (some ⟨g, 0, none⟩), .int .i64 n] w (RTextPostB w g l B (textR (err, p) l n)) := by
  obtain ⟨A, c, hc0, hc1, hc2, _, _, _, hpl, hf⟩ := h.cells
  have hN := rnextB_any g err p n true l B w h hlen hn
  rw [nextRB_true] at hN
  have h8 := takeU_len (err, p) l n
  by_cases hu : (takeU (err, p) l n).1.1 ≠ 0
  · have hub := takeU_bad hu
    have htx : textR (err, p) l n = (((takeU (err, p) l n).1.1, p), []) := by
      unfold textR
      by_cases he : err = 0
      · subst he
        rw [if_neg (by simp), if_pos hu]
      · rw [if_pos he]
        unfold takeU
        rw [if_pos he]
    rw [htx]
    obtain ⟨E, hE⟩ : ∃ E, E = (takeU (err, p) l n).1.1 := ⟨_, rfl⟩
    rw [← hE] at hub hu ⊢
    rw [hub] at hN
    have HN := hid hN
    have dE : (E == 0) = false := by simpa using hu
    have dE2 : (E != 0) = true := by simpa using hu
    have dE3 : decide (E = 0) = false := decide_eq_false hu
    clear hN hub hE hu htx h8
    go_enter Tryd.func57, Tryd.ntmps57
    go_wp2_with fail
    refine HN.out.mono ?_
    rintro e w1 ⟨A1, c1, rfl, hs1, hT, hB⟩
    clear hc0 hc1 hc2 hf
    obtain ⟨A2, c2, hc0, hc1, hc2, _, _, _, _, hf⟩ := hT.cells
    have hf1 := hf 1
    go_wp2_with fail
    refine (rvalue_any A1 c1 [] w1 hs1 (by simp)).mono ?_
    rintro e w2 ⟨rfl, rfl⟩
    go_wp2_with fail
    go_quiet (fail)
    have hdr : Below w1.heap.size w1 (w1.drewN nq) := ⟨rfl, rfl, rfl, Nat.le_refl _, fun _ _ => rfl⟩
    have hTd := (hT.below hdr).setAt p hpl
    have hcd : (w1.drewN nq).cell? ⟨g, 2, none⟩ = some (.int .i64 E) := hc2
    have hcd1 : (w1.drewN nq).cell? ⟨g, 1, none⟩ = some (.int .i64 (p : Int)) := hc1
    have hfd : (w1.drewN nq).frozen? ⟨g, 1, none⟩ = false := hf1
    have hBB : But (Only g) w (w1.drewN nq) := hB.trans (But.of_below (R := fun _ => False) hdr) (fun n h => h.elim)
    clear hc0 hc1 hc2 hf hf1 hT hB hdr
    generalize w1.drewN nq = w2 at *
    go_wp2_with fail
    go_ret
    exact ⟨rfl, hTd.1, hBB.trans hTd.2 (fun n h => .inl h)⟩
  have he0 : err = 0 := by
    by_cases he : err = 0
    · exact he
    · exfalso
      apply hu
      unfold takeU
      rw [if_pos he]
      exact he
  subst he0
  obtain ⟨_, hn1, hn8, hr, hle⟩ := takeU_good (s := (0, p)) (l := l) (n := n) (by omega)
  obtain ⟨N, rfl⟩ := Int.eq_ofNat_of_zero_le (show 0 ≤ n by omega)
  rw [textR, if_neg (by simp), if_neg hu]
  rw [show ((N : Int)).toNat = N from rfl] at hr hle
  rw [hr] at hN h8 ⊢
  clear hu hr
  simp only at hle h8 ⊢
  obtain ⟨x, hx⟩ : ∃ x, x = (l.drop p).take N := ⟨_, rfl⟩
  rw [← hx] at hN h8 ⊢
  clear hx
  have hpN : p + N ≤ l.length := by omega
  have hv8 : valLE x < 18446744073709551616 := by
    have := valLE_lt x
    have := Nat.pow_le_pow_right (show 0 < 256 by omega) h8
    omega
  have HV := hid (fun (A1 : Option Addr) (c1 : Nat) (w1 : World) (hs1 : SeesB w1 A1 x) => rvalue_any A1 c1 _ w1 hs1 h8)
  have HN := hid hN
  obtain ⟨V, hV⟩ : ∃ V, V = valLE x := ⟨_, rfl⟩
  rw [← hV] at HV hv8 ⊢
  clear hN hV hle
  by_cases hlt : l.length - (p + N) < V
  · rw [if_pos hlt]
    have hd : decide (((l.length : Int) - ((p + N : Nat) : Int)) < (V : Int)) = true := by simp; omega
    have hd2 : decide (((l.length : Int) - ((p : Int) + (N : Int))) < (V : Int)) = true := by simp; omega
    have hg1 : 0 ≤ (l.length : Int) - ((p : Int) + (N : Int)) := by omega
    clear hlt
    go_enter Tryd.func57, Tryd.ntmps57
    go_wp2_with fail
    refine HN.out.mono ?_
    rintro e w1 ⟨A1, c1, rfl, hs1, hT, hB⟩
    clear hc0 hc1 hc2 hf
    obtain ⟨A2, c2, hc0, hc1, hc2, _, _, _, _, hf⟩ := hT.cells
    have hf1 := hf 1
    have hf2 := hf 2
    go_wp2_with fail
    refine (HV.out A1 c1 w1 hs1).mono ?_
    rintro e w2 ⟨rfl, rfl⟩
    go_wp2_with fail
    go_quiet (fail)
    have hdr : Below w1.heap.size w1 (w1.drewN nq) := ⟨rfl, rfl, rfl, Nat.le_refl _, fun _ _ => rfl⟩
    have hTd := (hT.below hdr).setErr 10
    have hTe := hTd.1.setAt p (by omega)
    obtain ⟨A3, c3, k0, k1, k2, _, _, _, _, kf⟩ := hTd.1.cells
    have kf1 := kf 1
    have hcd : (w1.drewN nq).cell? ⟨g, 2, none⟩ = some (.int .i64 0) := hc2
    have hfd : (w1.drewN nq).frozen? ⟨g, 2, none⟩ = false := hf2
    have hBB : But (Only g) w (w1.drewN nq) := hB.trans (But.of_below (R := fun _ => False) hdr) (fun n h => h.elim)
    clear hc0 hc1 hc2 hf hf1 hf2 hT hB hdr hs1
    generalize w1.drewN nq = w2 at *
    go_wp2_with fail
    go_ret
    exact ⟨rfl, hTe.1, (hBB.trans hTd.2 (fun n h => .inl h)).trans hTe.2 (fun n h => .inl h)⟩
  · rw [if_neg hlt]
    have hd : decide (((l.length : Int) - ((p + N : Nat) : Int)) < (V : Int)) = false := by simp; omega
    have hd2 : decide (((l.length : Int) - ((p : Int) + (N : Int))) < (V : Int)) = false := by simp; omega
    have hg1 : 0 ≤ (l.length : Int) - ((p : Int) + (N : Int)) := by omega
    have hVl : V ≤ l.length := by omega
    have HTN := hid (show nextRB (0, p + N) l (V : Int) false = ((0, p + N + V), (l.drop (p + N)).take V) by
      rw [nextRB_false]; unfold takeRaw; rw [if_neg (by simp), if_neg (by omega)]; unfold tnext; rw [show ((V : Int)).toNat = V from rfl, if_neg hlt])
    generalize (l.drop (p + N)).take V = s at *
    clear hlt
    go_enter Tryd.func57, Tryd.ntmps57
    go_wp2_with fail
    refine HN.out.mono ?_
    rintro e w1 ⟨A1, c1, rfl, hs1, hT, hB⟩
    clear hc0 hc1 hc2 hf
    obtain ⟨A2, c2, hc0, hc1, hc2, _, _, _, _, hf⟩ := hT.cells
    go_wp2_with fail
    refine (HV.out A1 c1 w1 hs1).mono ?_
    rintro e w2 ⟨rfl, rfl⟩
    go_wp2_with fail
    go_quiet (fail)
    have hdr : Below w1.heap.size w1 (w1.drewN nq) := ⟨rfl, rfl, rfl, Nat.le_refl _, fun _ _ => rfl⟩
    have hTd := hT.below hdr
    have HN2 := hid (rnextB_any g 0 (p + N) (V : Int) false l B (w1.drewN nq) hTd hlen (by omega))
    rw [HTN.out] at HN2
    have hcd : (w1.drewN nq).cell? ⟨g, 2, none⟩ = some (.int .i64 0) := hc2
    have hBB : But (Only g) w (w1.drewN nq) := hB.trans (But.of_below (R := fun _ => False) hdr) (fun n h => h.elim)
    clear hc0 hc1 hc2 hf hT hB hdr hTd hs1
    generalize w1.drewN nq = w2 at *
    go_wp2_with fail
    refine HN2.out.mono ?_
    rintro e w3 ⟨A3, c3, rfl, hs3, hT3, hB3⟩
    have hcv := conv_bs A3 c3 _ w3 hs3
    have hfin : RTextPostB w g l B ((0, p + N + V), s) (.returned (.string ⟨s.toArray⟩)) w3 := ⟨rfl, hT3, hBB.trans hB3 (fun n h => .inl h)⟩
    go_wp2_with fail
    go_ret
    exact hfin
end Go.Proofs.YtlcbfikmljmlpaaDoor
